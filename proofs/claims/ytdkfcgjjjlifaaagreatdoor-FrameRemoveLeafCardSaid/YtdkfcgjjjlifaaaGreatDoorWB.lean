/-
  Walks and plain facts, in this order: Conv, Bag, MonoX, Mono7, Below, Mono8, Depths, Depths2, Bits2, Check, Clone, Trees, Map, Mono9, Frame, Frame2, Frame3, MonoA, MonoY.
  No condition.
-/
import Derived.Test.YtdkfcgjjjlifaaaGreatDoorWA
import Derived.Laws.Cover3
import Derived.Maps.OwnIn
import Derived.Maps.Views
import Derived.Maps.OwnSet
import Derived.Laws.Pointers
import Derived.Lib.SliceRun
import Derived.Carry
set_option linter.unusedVariables false
set_option linter.unusedSimpArgs false
namespace Go.Mono
open Go Go.Proofs Go.RowKit

abbrev bagE : Enc (Int × BS) := prE intE setE
abbrev treeE : Enc (List (Int × BS)) := slE bagE
def toB (b : Int × BS) : RB := (b.1, toL b.2)
def toT (t : List (Int × BS)) : List RB := t.map toB
/-- bag i -/
def bg (t : List (Int × BS)) (i : Nat) : Int × BS := match t[i]? with
  | some b => b
  | none => (0, 0)
theorem bg_get {t : List (Int × BS)} {i : Nat} (h : i < t.length) : t[i]? = some (bg t i) := by simp [bg, h]
theorem map_take_succ {α β : Type} (f : α → β) {xs : List α} {k : Nat} {x : α} (h : xs[k]? = some x) : (xs.take (k + 1)).map f = (xs.take k).map f ++ [f x] := by
  rw [take_succ_get h, List.map_append]; rfl

theorem toT_spec {G : Nat → Prop} (t : List (Int × BS)) (v : Value) (W : World) (h : (Dv treeE G t).p v W) (hG : ∀ b, G b → b < W.heap.size) (hl : t.length ≤ 4096) :
    Calls Tryz.prog 19 #[v] W (Post (Dv rtE G (toT t)) W) := by
  refine enter (args := [v]) (As := [Dv treeE (GB W G) t]) Tryz.func19 rfl Tryz.ntmps19 (Nat.le_of_ble_eq_true rfl) ?_ (fun a hf => ?_) (Nat.le_of_ble_eq_true rfl)
  rotate_left
  dsimp only [params, Nat.reduceAdd] at hf
  rotate_right
  · exact arg1 (Dv.toB h)
  have e := Ext.rfl' W
  repeat refine seq ?_
  refine regn0 ?_
  refine tl_as hf rfl (by decide) fun a hf => ?_
  refine tl_nil ?_
  repeat refine seq ?_
  refine regn0 ?_
  refine tl_as hf rfl (by decide) fun a hf => ?_
  refine tl_nil ?_
  repeat refine seq ?_
  refine regn0 ?_
  refine tl_as hf rfl (by decide) fun a hf => ?_
  refine tl_nil ?_
  replace hf := hf.keep [0, 3, 4]
  dsimp only [keep, List.filterMap, look, Nat.beq, Option.map] at hf
  repeat refine seq ?_
  refine blk (loopN (fun r0 a w => ∃ (k : Nat) (u : Value), r0 = t.length - k ∧ k ≤ t.length ∧ Fr 27 a w [(0, Dv treeE (GB W G) t), (3, E u), (4, E (I k))] ∧ Ext W w ∧ OwR rbE 97 W.heap.size G w ((t.take k).map toB) u) t.length ⟨0, _, rfl, by omega, hf, e, OwR.nil rbE _ (Nat.le_refl _) hG⟩ ?_)
  clear hf e; try clear Ho
  rintro r0 a w ⟨k, u, rfl, hk, hf, e, Ho⟩
  repeat refine seq ?_
  refine regn 4 hf (by decide +kernel) ?_
  refine st (mv rfl) ?_
  refine st (mv rfl) ?_
  refine st (lenD Tryz.underlying23 (isR rfl)) ?_
  refine st (lss rfl rfl) ?_
  refine en fun a w e' hf => ?_
  replace e := Ext.tr e e'
  replace Ho := Ho.ext e'
  clear e'
  refine tl_nil ?_
  repeat refine seq ?_
  refine ifc hf rfl (fun hc => wskip ?_) (fun hc => wexit ?_)
  rotate_left
  rotate_left
  · have hlt : k < t.length := by have := of_decide_eq_true hc; (try dsimp only at this); omega
    clear hc
    replace hf := hf.keep [0, 3, 4]
    dsimp only [keep, List.filterMap, look, Nat.beq, Option.map] at hf
    repeat refine seq ?_
    refine blk ?_
    have hx := bg_get hlt
    have hsel := List.length_take_le k t
    repeat refine seq ?_
    refine reg 14 Mix.mix hf (by decide +kernel) ?_
    refine st (mv rfl) ?_
    refine st (mv rfl) ?_
    refine st (mv rfl) ?_
    refine st (idxD Tryz.underlying23 S70 (isR rfl) rfl (by omega) (hx)) ?_
    refine st (fldD Tryz.underlying70 rfl T3 (by decide) (Fld.fst Fld.refl) (isR rfl)) ?_
    refine st (ldI T3 (isR rfl)) ?_
    refine st (mv rfl) ?_
    refine st (mv rfl) ?_
    refine st (idxD Tryz.underlying23 S70 (isR rfl) rfl (by omega) (hx)) ?_
    refine st (fldD Tryz.underlying70 rfl T67 (by decide) (Fld.snd Fld.refl rfl) (isR rfl)) ?_
    refine st (ldS T67 (isR rfl)) ?_
    refine st (call1 En52 rfl (fun v w he h => by cases h; exact toL_spec _ _ (fun b hb => Nat.lt_of_lt_of_le (Ho.avs b hb) he.size))) ?_
    refine st (bld2 Tryz.underlying97 rfl rfl rfl S3 S95 I97 rfl (isI rfl) (isR rfl)) ?_
    refine st (bsl1 Tryz.underlying29 I97 rfl (by decide) rfl Ho.avs (isR rfl)) ?_
    refine en fun a w e' hf => ?_
    replace e := Ext.tr e e'
    replace Ho := Ho.ext e'
    clear e'
    haveI hin : ∀ G0, InR (GB W G0) _ := OwR.inGB (W := W) Ho (Nat.le_refl _)
    refine tl_app Tryz.underlying29 I97 rfl rfl hf (by decide) rfl Ho (isR rfl) (by simp only [List.length_singleton, List.length_map, maxLen]; omega) (by simp only [List.length_singleton, List.length_map, maxLen]; omega) fun a v w hg hat Hn hf => ?_
    replace e := e.gro hg (Ho.row (W := W) (Nat.le_refl _))
    replace Ho := Hn; clear Hn hg hat hin
    refine tl_as hf rfl (by decide) fun a hf => ?_
    refine tl_nil ?_
    try simp only [Exit.then, Exit.inBlock, ↓reduceIte]
    repeat refine seq ?_
    refine regn 2 hf (by decide +kernel) ?_
    refine st (mv rfl) ?_
    refine st ((add rfl rfl (by omega)).eq (congrArg (Value.int .i64) (show (k : Int) + 1 = ((k + 1 : Nat) : Int) from rfl))) ?_
    refine en fun a w e' hf => ?_
    replace e := Ext.tr e e'
    replace Ho := Ho.ext e'
    clear e'
    refine tl_as hf rfl (by decide) fun a hf => ?_
    refine tl_nil ?_
    replace hf := hf.keep [0, 3, 4]
    dsimp only [keep, List.filterMap, look, Nat.beq, Option.map] at hf
    refine ⟨_, ?_, k + 1, _, rfl, by omega, hf, e, ?_⟩
    · omega
    rw [map_take_succ toB hx]; exact Ho
  · obtain rfl : k = t.length := by have := of_decide_eq_false hc; (try dsimp only at this); omega
    clear hc
    simp only [Exit.then, Exit.inBlock, ↓reduceIte]
    repeat refine seq ?_
    refine regn 1 hf (by decide +kernel) ?_
    refine st (mv rfl) ?_
    refine en fun a w e' hf => ?_
    replace e := Ext.tr e e'
    replace Ho := Ho.ext e'
    clear e'
    refine tl_as hf rfl (by decide) fun a hf => ?_
    refine tl_nil ?_
    refine wret ?_
    try simp only [Exit.then, Exit.inBlock]
    refine ret1 rfl hf rfl ?_
    rintro _ rfl
    exact ⟨_, rfl, e, (by rw [List.take_length] at Ho; exact Ho.sl)⟩

end Go.Mono

namespace Go.Mono
open Go Go.Proofs Go.RowKit

def bagC (b : Int × BS) : Array Value := (Value.int .i64 b.1 :: (setC b.2).toList).toArray
abbrev bagV (b : Int × BS) : Value := .agg (bagC b)
theorem bagC_size (b : Int × BS) : (bagC b).size = 17 := by
  simp [bagC, setC_size]
theorem bagC_one (b : Int × BS) : (bagC b).all (·.oneCell') = true := by
  have := wordsC_one (word b.2)
  rw [Array.all_eq_true_iff_forall_mem] at this ⊢
  intro u hu
  simp only [bagC, List.mem_toArray, List.mem_cons] at hu
  rcases hu with rfl | hu
  · rfl
  · exact this u (by simpa [setC] using hu)
theorem bagC_0 (b : Int × BS) : (bagC b)[0 + 0]? = some (I b.1) := rfl
theorem bagC_le (b : Int × BS) : 0 + 1 + 16 ≤ (bagC b).size := by rw [bagC_size]; omega
theorem bagC_1 (b : Int × BS) : Value.agg ((bagC b).extract (0 + 1) (0 + 1 + 16)) = setV b.2 := by
  refine congrArg Value.agg (Array.toList_inj.1 ?_)
  simp only [bagC, List.extract_toArray, List.extract_eq_take_drop]
  have : (setC b.2).toList.length = 16 := by rw [Array.length_toList, setC_size]
  simp [List.take_of_length_le (Nat.le_of_eq this)]
section
variable {P : Program} {w0 : World} {L : Env} {dst : Option Tmp} {ty : TypeId} {pos : String} {aft : Array Edge} {g : Option (Nat × Bool)} {t : TypeId} {x : Operand} {G : Nat → Prop} {b : Int × BS}
theorem Dv.bag {v : Value} {w : World} : (Dv bagE G b).p v w ↔ v = bagV b := by
  constructor
  · rintro ⟨cs, ⟨c, d, h, h1, h2⟩, hv⟩
    cases h1; cases h2; subst h
    exact hv
  · rintro rfl
    exact ⟨_, ⟨_, _, rfl, rfl, rfl⟩, rfl⟩
theorem ldBag (ht : TI P t true 17) (hx : Is L w0 x (Dv (ptE bagE) G (some b))) : OpC P w0 L ⟨dst, .load t x, ty, pos, aft, g⟩ (E (bagV b)) := (ldD (e := bagE) ht hx).conv fun v w => Dv.bag.1
end

/-- the index of the first for which p holds, or -1 -/
def fstB (p : Int × BS → Bool) (t : List (Int × BS)) : Int := fstN (fun i => p (bg t i)) t.length

theorem indexFunc_spec {G : Nat → Prop} (t : List (Int × BS)) (v : Value) (id : FuncId) (caps : Array Value) (p : Int × BS → Bool) (W : World) (hen : Proofs.Enters Tryz.prog id) (h : (Dv treeE G t).p v W)
    (hp : ∀ w b, Ext W w → Calls Tryz.prog id (#[bagV b] ++ caps) w (Post (E (B (p b))) w)) (hl : t.length ≤ 4096) :
    Calls Tryz.prog 91 #[v, .func (.func id) #[] caps] W (Post (E (I (fstB p t))) W) := by
  refine enter (args := [v, .func (.func id) #[] caps]) (As := [Dv treeE G t, E (.func (.func id) #[] caps)]) Tryz.func91 rfl Tryz.ntmps91 (Nat.le_of_ble_eq_true rfl) ?_ (fun a hf => ?_) (Nat.le_of_ble_eq_true rfl)
  rotate_left
  dsimp only [params, Nat.reduceAdd] at hf
  rotate_right
  · exact arg2 h rfl
  have e := Ext.rfl' W
  repeat refine seq ?_
  refine regn0 ?_
  refine tl_as hf rfl (by decide) fun a hf => ?_
  refine tl_nil ?_
  repeat refine seq ?_
  refine regn 3 hf (by decide +kernel) ?_
  refine st (mv rfl) ?_
  refine st (lenD Tryz.underlying23 (isR rfl)) ?_
  refine st (mv rfl) ?_
  refine en fun a w e' hf => ?_
  replace e := Ext.tr e e'
  clear e'
  refine tl_nil ?_
  replace hf := hf.keep [0, 1, 7, 8]
  dsimp only [keep, List.filterMap, look, Nat.beq, Option.map] at hf
  repeat refine seq ?_
  refine blk (loopN (fun r0 a w => ∃ (k : Nat) , r0 = t.length - k ∧ k ≤ t.length ∧ Fr 19 a w [(0, Dv treeE G t), (1, E (.func (.func id) #[] caps)), (7, E (I (t.length : Nat))), (8, E (I k))] ∧ Ext W w ∧ ∀ i, i < k → p (bg t i) = false) t.length ⟨0, rfl, by omega, hf, e, (fun i hi => by omega)⟩ ?_)
  clear hf e; try clear Ho
  rintro r0 a w ⟨k, rfl, hk, hf, e, Ho⟩
  repeat refine seq ?_
  refine regn 1 hf (by decide +kernel) ?_
  refine st (lss rfl rfl) ?_
  refine en fun a w e' hf => ?_
  replace e := Ext.tr e e'
  clear e'
  refine tl_nil ?_
  repeat refine seq ?_
  refine ifc hf rfl (fun hc => wskip ?_) (fun hc => wexit ?_)
  rotate_left
  rotate_left
  · have hlt : k < t.length := by have := of_decide_eq_true hc; (try dsimp only at this); omega
    clear hc
    replace hf := hf.keep [0, 1, 7, 8]
    dsimp only [keep, List.filterMap, look, Nat.beq, Option.map] at hf
    repeat refine seq ?_
    refine blk ?_
    repeat refine seq ?_
    refine regn 1 hf (by decide +kernel) ?_
    refine st (mv rfl) ?_
    refine en fun a w e' hf => ?_
    replace e := Ext.tr e e'
    clear e'
    refine tl_as hf rfl (by decide) fun a hf => ?_
    refine tl_nil ?_
    repeat refine seq ?_
    refine regn 6 hf (by decide +kernel) ?_
    refine st (mv rfl) ?_
    refine st (mv rfl) ?_
    refine st (mv rfl) ?_
    refine st (idxD Tryz.underlying23 S70 (isR rfl) rfl (by omega) (bg_get hlt)) ?_
    refine st (ldBag T70 (isR rfl)) ?_
    refine st (callV1 hen rfl rfl (fun v w he h => by cases h; exact hp w _ (Ext.tr e he))) ?_
    refine en fun a w e' hf => ?_
    replace e := Ext.tr e e'
    clear e'
    refine tl_nil ?_
    repeat refine seq ?_
    refine ifc hf rfl (fun hb => ?_) (fun hb => ?_)
    · repeat refine seq ?_
      refine regn 1 hf (by decide +kernel) ?_
      refine st (mv rfl) ?_
      refine en fun a w e' hf => ?_
      replace e := Ext.tr e e'
      clear e'
      refine tl_as hf rfl (by decide) fun a hf => ?_
      refine tl_nil ?_
      refine wret ?_
      try simp only [Exit.then, Exit.inBlock]
      refine ret1 rfl hf rfl ?_
      rintro _ rfl
      exact ⟨_, rfl, e, congrArg I (fstN_hit hlt Ho hb).symm⟩
    · refine wskip ?_
      try simp only [Exit.then, Exit.inBlock, ↓reduceIte]
      try simp only [Exit.then, Exit.inBlock, ↓reduceIte]
      repeat refine seq ?_
      refine regn 1 hf (by decide +kernel) ?_
      refine st ((add rfl rfl (by omega)).eq (congrArg (Value.int .i64) (show (k : Int) + 1 = ((k + 1 : Nat) : Int) from rfl))) ?_
      refine en fun a w e' hf => ?_
      replace e := Ext.tr e e'
      clear e'
      refine tl_op hf (by decide) (mv rfl) fun a w e' hf => ?_
      replace e := Ext.tr e e'
      clear e'
      refine tl_nil ?_
      replace hf := hf.keep [0, 1, 7, 8]
      dsimp only [keep, List.filterMap, look, Nat.beq, Option.map] at hf
      refine ⟨_, ?_, k + 1, rfl, by omega, hf, e, ?_⟩
      · omega
      intro i hi
      by_cases hk : i = k
      · subst hk; exact hb
      · exact Ho i (by omega)
  · obtain rfl : k = t.length := by have := of_decide_eq_false hc; (try dsimp only at this); omega
    clear hc
    simp only [Exit.then, Exit.inBlock, ↓reduceIte]
    repeat refine seq ?_
    refine regn0 ?_
    refine tl_as hf rfl (by decide) fun a hf => ?_
    refine tl_nil ?_
    refine wret ?_
    try simp only [Exit.then, Exit.inBlock]
    refine ret1 rfl hf rfl ?_
    rintro _ rfl
    exact ⟨_, rfl, e, congrArg I (fstN_none Ho).symm⟩

theorem containsFunc_spec {G : Nat → Prop} (t : List (Int × BS)) (v : Value) (id : FuncId) (caps : Array Value) (p : Int × BS → Bool) (W : World) (hen : Proofs.Enters Tryz.prog id) (h : (Dv treeE G t).p v W)
    (hp : ∀ w b, Ext W w → Calls Tryz.prog id (#[bagV b] ++ caps) w (Post (E (B (p b))) w)) (hl : t.length ≤ 4096) :
    Calls Tryz.prog 65 #[v, .func (.func id) #[] caps] W (Post (E (B (decide (0 ≤ fstB p t)))) W) := by
  refine enter (args := [v, .func (.func id) #[] caps]) (As := [Dv treeE G t, E (.func (.func id) #[] caps)]) Tryz.func65 rfl Tryz.ntmps65 (Nat.le_of_ble_eq_true rfl) ?_ (fun a hf => ?_) (Nat.le_of_ble_eq_true rfl)
  rotate_left
  dsimp only [params, Nat.reduceAdd] at hf
  rotate_right
  · exact arg2 h rfl
  have e := Ext.rfl' W
  repeat refine seq ?_
  refine regn0 ?_
  refine tl_as hf rfl (by decide) fun a hf => ?_
  refine tl_nil ?_
  repeat refine seq ?_
  refine regn 4 hf (by decide +kernel) ?_
  refine st (mv rfl) ?_
  refine st (mv rfl) ?_
  refine st (call2 En91 rfl rfl (fun v u w he h h' => by cases h'; exact indexFunc_spec _ _ _ _ p _ hen h (fun w' b he' => hp w' b (Ext.tr (Ext.tr e he) he')) hl)) ?_
  refine st (geq rfl rfl) ?_
  refine en fun a w e' hf => ?_
  replace e := Ext.tr e e'
  clear e'
  refine tl_as hf rfl (by decide) fun a hf => ?_
  refine tl_nil ?_
  refine wret ?_
  try simp only [Exit.then, Exit.inBlock]
  refine ret1 rfl hf rfl ?_
  rintro _ rfl
  exact ⟨_, rfl, e, rfl⟩

def rootsT (t : List (Int × BS)) : List Int := selN (fun i => decide ((bg t i).1 = -1)) t.length
theorem roots_spec {G : Nat → Prop} (t : List (Int × BS)) (v : Value) (W : World) (h : (Dv treeE G t).p v W) (hG : ∀ b, G b → b < W.heap.size) (hl : t.length ≤ 4096) :
    Calls Tryz.prog 67 #[v] W (Post (Dv (slE intE) G (rootsT t)) W) := by
  refine enter (args := [v]) (As := [Dv treeE (GB W G) t]) Tryz.func67 rfl Tryz.ntmps67 (Nat.le_of_ble_eq_true rfl) ?_ (fun a hf => ?_) (Nat.le_of_ble_eq_true rfl)
  rotate_left
  dsimp only [params, Nat.reduceAdd] at hf
  rotate_right
  · exact arg1 (Dv.toB h)
  have e := Ext.rfl' W
  repeat refine seq ?_
  refine regn0 ?_
  refine tl_as hf rfl (by decide) fun a hf => ?_
  refine tl_nil ?_
  repeat refine seq ?_
  refine regn0 ?_
  refine tl_as hf rfl (by decide) fun a hf => ?_
  refine tl_nil ?_
  repeat refine seq ?_
  refine regn 3 hf (by decide +kernel) ?_
  refine st (mv rfl) ?_
  refine st (lenD Tryz.underlying23 (isR rfl)) ?_
  refine st (mv rfl) ?_
  refine en fun a w e' hf => ?_
  replace e := Ext.tr e e'
  clear e'
  refine tl_nil ?_
  replace hf := hf.keep [3, 6, 7, 8]
  dsimp only [keep, List.filterMap, look, Nat.beq, Option.map] at hf
  repeat refine seq ?_
  refine blk (loopN (fun r0 a w => ∃ (k : Nat) (u : Value), r0 = t.length - k ∧ k ≤ t.length ∧ Fr 22 a w [(3, E u), (6, Dv treeE (GB W G) t), (7, E (I (t.length : Nat))), (8, E (I k))] ∧ Ext W w ∧ OwR intE 3 W.heap.size G w (selN (fun i => decide ((bg t i).1 = -1)) k) u) t.length ⟨0, _, rfl, by omega, hf, e, OwR.nil intE _ e.size hG⟩ ?_)
  clear hf e; try clear Ho
  rintro r0 a w ⟨k, u, rfl, hk, hf, e, Ho⟩
  repeat refine seq ?_
  refine regn 1 hf (by decide +kernel) ?_
  refine st (lss rfl rfl) ?_
  refine en fun a w e' hf => ?_
  replace e := Ext.tr e e'
  replace Ho := Ho.ext e'
  clear e'
  refine tl_nil ?_
  repeat refine seq ?_
  refine ifc hf rfl (fun hc => wskip ?_) (fun hc => wexit ?_)
  rotate_left
  rotate_left
  · have hlt : k < t.length := by have := of_decide_eq_true hc; (try dsimp only at this); omega
    clear hc
    replace hf := hf.keep [3, 6, 7, 8]
    dsimp only [keep, List.filterMap, look, Nat.beq, Option.map] at hf
    repeat refine seq ?_
    refine blk ?_
    have hsel := selN_len (fun i => decide ((bg t i).1 = -1)) k
    repeat refine seq ?_
    refine regn0 ?_
    refine tl_op hf (by decide) (mv rfl) fun a w e' hf => ?_
    replace e := Ext.tr e e'
    replace Ho := Ho.ext e'
    clear e'
    refine tl_op hf (by decide) (idxD Tryz.underlying23 S70 (isR rfl) rfl (by omega) (bg_get hlt)) fun a w e' hf => ?_
    replace e := Ext.tr e e'
    replace Ho := Ho.ext e'
    clear e'
    refine tl_op hf (by decide) (ldBag T70 (isR rfl)) fun a w e' hf => ?_
    replace e := Ext.tr e e'
    replace Ho := Ho.ext e'
    clear e'
    refine tl_alloc I70 hf (by decide) fun a b5 w e' hb5 hs5 B5 hf => ?_
    have hle5 := Nat.le_trans e.size (Nat.le_of_eq hb5.symm)
    have ne5_Ho := Ho.ne_new hb5
    replace e := Ext.tr e e'
    replace Ho := Ho.ext e'
    clear e'
    refine tl_as hf rfl (by decide) fun a hf => ?_
    haveI hinr : ∀ G0, InR (GB W G0) (some b5) := fun G0 => InR.gb (by omega)
    refine tl_stW T70 hf rfl rfl (bagC_one _) B5 rfl (bagC_size _) fun w hg hsz B5 hf => ?_
    replace e := e.gr hg (by omega)
    replace Ho := Ho.gr hg (by assumption)
    clear hg
    refine tl_nil ?_
    repeat refine seq ?_
    refine regn 3 hf (by decide +kernel) ?_
    refine st (fldA Tryz.underlying70 rfl T3 (by decide) rfl) ?_
    refine st (ld1 T3 rfl B5 (bagC_0 _)) ?_
    refine st (eql rfl rfl) ?_
    refine en fun a w e' hf => ?_
    replace e := Ext.tr e e'
    replace Ho := Ho.ext e'
    replace B5 := B5.ext e'
    clear e'
    refine tl_nil ?_
    repeat refine seq ?_
    refine ifc hf rfl (fun hb => ?_) (fun hb => ?_)
    · replace hf := hf.keep [3, 4, 6, 7, 8]
      dsimp only [keep, List.filterMap, look, Nat.beq, Option.map] at hf
      repeat refine seq ?_
      refine regn 3 hf (by decide +kernel) ?_
      refine st (mv rfl) ?_
      refine st (mv rfl) ?_
      refine st (bsl1 Tryz.underlying59 I3 rfl (by decide) rfl Ho.avs (isI rfl)) ?_
      refine en fun a w e' hf => ?_
      replace e := Ext.tr e e'
      replace Ho := Ho.ext e'
      replace B5 := B5.ext e'
      clear e'
      haveI hin : ∀ G0, InR (GB W G0) _ := OwR.inGB (W := W) Ho (Nat.le_refl _)
      refine tl_app Tryz.underlying59 I3 rfl rfl hf (by decide) rfl Ho (isR rfl) (by simp only [List.length_singleton]; omega) (by simp only [List.length_singleton, maxLen]; omega) fun a v w hg hat Hn hf => ?_
      replace e := e.gro hg (Ho.row (W := W) (Nat.le_refl _))
      replace B5 := B5.gro hg (by assumption)
      replace Ho := Hn; clear Hn hg hat hin
      refine tl_as hf rfl (by decide) fun a hf => ?_
      refine tl_nil ?_
      try simp only [Exit.then, Exit.inBlock, ↓reduceIte]
      repeat refine seq ?_
      refine regn 1 hf (by decide +kernel) ?_
      refine st ((add rfl rfl (by omega)).eq (congrArg (Value.int .i64) (show (k : Int) + 1 = ((k + 1 : Nat) : Int) from rfl))) ?_
      refine en fun a w e' hf => ?_
      replace e := Ext.tr e e'
      replace Ho := Ho.ext e'
      replace B5 := B5.ext e'
      clear e'
      refine tl_op hf (by decide) (mv rfl) fun a w e' hf => ?_
      replace e := Ext.tr e e'
      replace Ho := Ho.ext e'
      replace B5 := B5.ext e'
      clear e'
      refine tl_nil ?_
      replace hf := hf.keep [3, 6, 7, 8]
      dsimp only [keep, List.filterMap, look, Nat.beq, Option.map] at hf
      refine ⟨_, ?_, k + 1, _, rfl, by omega, hf, e, ?_⟩
      · omega
      rw [selN_succ, if_pos (by simpa using hb)]; exact Ho
    · refine wskip ?_
      try simp only [Exit.then, Exit.inBlock, ↓reduceIte]
      try simp only [Exit.then, Exit.inBlock, ↓reduceIte]
      repeat refine seq ?_
      refine regn 1 hf (by decide +kernel) ?_
      refine st ((add rfl rfl (by omega)).eq (congrArg (Value.int .i64) (show (k : Int) + 1 = ((k + 1 : Nat) : Int) from rfl))) ?_
      refine en fun a w e' hf => ?_
      replace e := Ext.tr e e'
      replace Ho := Ho.ext e'
      replace B5 := B5.ext e'
      clear e'
      refine tl_op hf (by decide) (mv rfl) fun a w e' hf => ?_
      replace e := Ext.tr e e'
      replace Ho := Ho.ext e'
      replace B5 := B5.ext e'
      clear e'
      refine tl_nil ?_
      replace hf := hf.keep [3, 6, 7, 8]
      dsimp only [keep, List.filterMap, look, Nat.beq, Option.map] at hf
      refine ⟨_, ?_, k + 1, _, rfl, by omega, hf, e, ?_⟩
      · omega
      rw [selN_succ, if_neg (by simpa using hb)]; exact Ho
  · obtain rfl : k = t.length := by have := of_decide_eq_false hc; (try dsimp only at this); omega
    clear hc
    simp only [Exit.then, Exit.inBlock, ↓reduceIte]
    repeat refine seq ?_
    refine regn 1 hf (by decide +kernel) ?_
    refine st (mv rfl) ?_
    refine en fun a w e' hf => ?_
    replace e := Ext.tr e e'
    replace Ho := Ho.ext e'
    clear e'
    refine tl_as hf rfl (by decide) fun a hf => ?_
    refine tl_nil ?_
    refine wret ?_
    try simp only [Exit.then, Exit.inBlock]
    refine ret1 rfl hf rfl ?_
    rintro _ rfl
    exact ⟨_, rfl, e, Ho.sl⟩

theorem check1_spec {G : Nat → Prop} (b : Int × BS) (c : Nat) (t : List (Int × BS)) (u : Value) (W : World) (hB : Blk W c #[u] 23) (h : (Dv treeE G t).p u W) (hl : t.length ≤ 4096) :
    Calls Tryz.prog 66 #[bagV b, .pointer (some ⟨c, 0, none⟩)] W (Post (E (B (decide (b.1 < -1 ∨ (t.length : Int) ≤ b.1)))) W) := by
  refine enter (args := [bagV b, .pointer (some ⟨c, 0, none⟩)]) (As := [E (bagV b), E (.pointer (some ⟨c, 0, none⟩))]) Tryz.func66 rfl Tryz.ntmps66 (Nat.le_of_ble_eq_true rfl) ?_ (fun a hf => ?_) (Nat.le_of_ble_eq_true rfl)
  rotate_left
  dsimp only [params, Nat.reduceAdd] at hf
  rotate_right
  · exact arg2 rfl rfl
  have e := Ext.rfl' W
  repeat refine seq ?_
  refine regn0 ?_
  refine tl_box hf rfl (by decide) fun a b2 w v2 hv2 e' hb2 hs2 B2 hf => ?_
  have hle2 := Nat.le_trans e.size (Nat.le_of_eq hb2.symm)
  replace e := Ext.tr e e'
  replace hB := hB.ext e'
  clear e'
  refine tl_as hf rfl (by decide) fun a hf => ?_
  refine tl_nil ?_
  cases hv2
  cases h1 : decide (b.1 < -1)
  · repeat refine seq ?_
    refine regn 10 hf (by decide +kernel) ?_
    refine st (fldA Tryz.underlying70 rfl T3 (by decide) rfl) ?_
    refine st (ld1 T3 rfl B2 (bagC_0 _)) ?_
    refine st ((lss rfl rfl).eq (congrArg Value.bool (h1))) ?_
    refine st (mv rfl) ?_
    refine sy rfl rfl (fldA Tryz.underlying70 rfl T3 (by decide) rfl) ?_
    refine sy rfl rfl (ld1 T3 rfl B2 (bagC_0 _)) ?_
    refine sy rfl rfl ((ld1 T23 rfl hB rfl)) ?_
    refine sy rfl rfl (lenD Tryz.underlying23 (isE rfl ((Dv treeE G t).st _ _ _ e h))) ?_
    refine sy rfl rfl (geq rfl rfl) ?_
    refine st (pkF rfl rfl) ?_
    refine en fun a w e' hf => ?_
    replace e := Ext.tr e e'
    replace hB := hB.ext e'
    replace B2 := B2.ext e'
    clear e'
    refine tl_as hf rfl (by decide) fun a hf => ?_
    refine tl_nil ?_
    have h1' := of_decide_eq_false h1
    refine wret ?_
    try simp only [Exit.then, Exit.inBlock]
    refine ret1 rfl hf rfl ?_
    rintro _ rfl
    exact ⟨_, rfl, e, congrArg B (by simp only [h1', false_or])⟩
  · repeat refine seq ?_
    refine regn 10 hf (by decide +kernel) ?_
    refine st (fldA Tryz.underlying70 rfl T3 (by decide) rfl) ?_
    refine st (ld1 T3 rfl B2 (bagC_0 _)) ?_
    refine st ((lss rfl rfl).eq (congrArg Value.bool (h1))) ?_
    refine st (mv rfl) ?_
    refine sn rfl rfl rfl ?_
    refine sn rfl rfl rfl ?_
    refine sn rfl rfl rfl ?_
    refine sn rfl rfl rfl ?_
    refine sn rfl rfl rfl ?_
    refine st (pkT rfl rfl) ?_
    refine en fun a w e' hf => ?_
    replace e := Ext.tr e e'
    replace hB := hB.ext e'
    replace B2 := B2.ext e'
    clear e'
    refine tl_as hf rfl (by decide) fun a hf => ?_
    refine tl_nil ?_
    have h1' := of_decide_eq_true h1
    refine wret ?_
    try simp only [Exit.then, Exit.inBlock]
    refine ret1 rfl hf rfl ?_
    rintro _ rfl
    exact ⟨_, rfl, e, congrArg B (by simp only [h1', true_or, decide_true])⟩
end Go.Mono

namespace Go.Mono
open Go Go.RowKit

/-- the operation that changes the row: it runs once, ahead of it the world has but grown -/
structure XOp (P : Program) (w0 : World) (row : Option Nat) (L : Env) (o : Oper) (A : VA) : Prop where
  out : ∀ ρ w, Ext w0 w → (∀ x ∈ o.op.operands, ∀ B, opd L x = some B → B.p (ρ x) w) → OpR P o ρ w (fun v w' => w.grownBy w' row ∧ A.p v w')

/-- the operations in the order of the text; which one is the row's -/
def RegX (P : Program) (ops : Array Oper) (w0 : World) (row : Option Nat) : Option Nat → List Oper → (Env → Prop) → Env → Prop
  | _, [], K, L => K L
  | some 0, o :: rest, K, L => o.guard = none ∧ ∃ A, XOp P w0 row L o A ∧ RegX P ops w0 row none rest K (push o.dst A L)
  | some (x + 1), o :: rest, K, L => ∃ A, (∀ w1, w0.grownBy w1 row → GOp P ops w1 L o A) ∧ AvR row A ∧ RegX P ops w0 row (some x) rest K (push o.dst A L)
  | none, o :: rest, K, L => ∃ A, (∀ w1, w0.grownBy w1 row → GOp P ops w1 L o A) ∧ AvR row A ∧ RegX P ops w0 row none rest K (push o.dst A L)

section
variable {P : Program} {ops : Array Oper} {Q : Exit → Act → World → Prop} {w0 : World} {n : Nat} {ds : List Deferred} {r : Option Nat}

def consF (A : VA) (As : Nat → VA) : Nat → VA
  | 0 => A
  | i + 1 => As i
theorem envF_cons (L : Env) (A : VA) (As : Nat → VA) (k j : Nat) : envF ops L (consF A As) k (j + 1) = envF ops (push (dstOf ops k) A L) As (k + 1) j := by
  rw [← envF_shift]
  congr 1
theorem RegX_As {row : Option Nat} {K : Env → Prop} : ∀ (M : List Oper) (k : Nat) (x : Option Nat) (L : Env), (∀ j, j < M.length → ops[k + j]? = M[j]?) → RegX P ops w0 row x M K L →
    ∃ As : Nat → VA, (∀ j o, j < M.length → x ≠ some j → ops[k + j]? = some o → (∀ w1, w0.grownBy w1 row → GOp P ops w1 (envF ops L As k j) o (As j)) ∧ AvR row (As j)) ∧
      (∀ j o, j < M.length → x = some j → ops[k + j]? = some o → o.guard = none ∧ XOp P w0 row (envF ops L As k j) o (As j)) ∧ K (envF ops L As k M.length)
  | [], k, x, L, _, h => ⟨fun _ => Any, fun j o hj => by simp at hj, fun j o hj => by simp at hj, by
    match x, h with
    | none, h => exact h
    | some 0, h => exact h
    | some (x + 1), h => exact h⟩
  | o :: M, k, x, L, hM, h => by
    have h0 : ops[k]? = some o := by simpa using hM 0 (by simp)
    have hd : dstOf ops k = o.dst := by simp [dstOf, h0]
    obtain ⟨A, x', hA, hx', hr⟩ : ∃ A x', ((x ≠ some 0 → (∀ w1, w0.grownBy w1 row → GOp P ops w1 L o A) ∧ AvR row A) ∧ (x = some 0 → o.guard = none ∧ XOp P w0 row L o A)) ∧ (∀ j, x = some (j + 1) ↔ x' = some j) ∧ RegX P ops w0 row x' M K (push o.dst A L) := by
      match x, h with
      | none, ⟨A, h1, h2, h3⟩ => exact ⟨A, none, ⟨fun _ => ⟨h1, h2⟩, fun h => by cases h⟩, fun j => by simp, h3⟩
      | some 0, ⟨hg, A, h1, h2⟩ => exact ⟨A, none, ⟨fun h => absurd rfl h, fun _ => ⟨hg, h1⟩⟩, fun j => by simp, h2⟩
      | some (x + 1), ⟨A, h1, h2, h3⟩ => exact ⟨A, some x, ⟨fun _ => ⟨h1, h2⟩, fun h => by cases h⟩, fun j => by simp, h3⟩
    obtain ⟨As, h1, h2, h3⟩ := RegX_As M (k + 1) x' (push o.dst A L) (fun j hj => by
      have := hM (j + 1) (by simpa using hj)
      rw [show k + 1 + j = k + (j + 1) by omega]
      simpa using this) hr
    refine ⟨consF A As, ?_, ?_, ?_⟩
    · intro j o' hj hjx ho'
      cases j with
      | zero =>
        rw [Nat.add_zero, h0] at ho'
        obtain rfl := Option.some.inj ho'
        exact hA.1 hjx
      | succ j =>
        rw [envF_cons, hd]
        exact h1 j o' (by simpa using hj) (fun h => hjx ((hx' j).2 h)) (by rw [show k + 1 + j = k + (j + 1) by omega]; exact ho')
    · intro j o' hj hjx ho'
      cases j with
      | zero =>
        rw [Nat.add_zero, h0] at ho'
        obtain rfl := Option.some.inj ho'
        exact hA.2 hjx
      | succ j =>
        rw [envF_cons, hd]
        exact h2 j o' (by simpa using hj) ((hx' j).1 hjx) (by rw [show k + 1 + j = k + (j + 1) by omega]; exact ho')
    · rw [List.length_cons, envF_cons, hd]
      exact h3

structure InvX (ops : Array Oper) (m x : Nat) (row : Option Nat) (n : Nat) (ds : List Deferred) (w0 : World) (L : Env) (As : Nat → VA) (listed : Array Bool) (a : Act) (w : World) : Prop where
  ext : w0.grownBy w row
  pre : listed.getD x true = false → Ext w0 w
  size : a.tmps.size = n
  defers : a.defers = ds
  hL : ∀ t A, look L t = some A → (∀ j, j < m → dstOf ops j ≠ some t) → A.p (a.eval (.tmp t)) w
  hA : ∀ i, i < m → listed.getD i false = true → ∀ d, dstOf ops i = some d → (As i).p (a.eval (.tmp d)) w

theorem wpAny_mainX {m x : Nat} {row : Option Nat} {L : Env} {As : Nat → VA} (hm : m ≤ ops.size) (hchk : ∀ i, i < m → chkOp ops m n i = true) (hchk2 : ∀ i, m ≤ i → i < ops.size → chkTail ops i = true)
    (hops : ∀ j o, j < m → j ≠ x → ops[j]? = some o → (∀ w1, w0.grownBy w1 row → GOp P ops w1 (envF ops L As 0 j) o (As j)) ∧ AvR row (As j))
    (hX : ∀ o, ops[x]? = some o → o.guard = none ∧ XOp P w0 row (envF ops L As 0 x) o (As x)) (hLav : AvRL row L)
    (hend : ∀ a w, w0.grownBy w row → FrD n ds a w (envF ops L As 0 m) → wpListIn (FW r) 0 P ops Q (ops.toList.drop m) a w) :
    ∀ (c : Nat) (listed : Array Bool) (a : Act) (w : World), (List.range m).countP (fun i => !listed.getD i true) = c → listed.size = ops.size →
      (∀ j, m ≤ j → j < ops.size → listed.getD j true = false) → LD ops listed → InvX ops m x row n ds w0 L As listed a w → wpAnyIn (FW r) 0 P .any ops Q (c + (ops.size - m)) listed a w
  | 0, listed, a, w, hc, hsz, hun, hld, hi => by
    have hall : ∀ j, j < m → listed.getD j false = true := by
      intro j hj
      have := (List.countP_eq_zero.1 hc) j (List.mem_range.2 hj)
      have hjl : j < listed.size := by omega
      simpa [hjl] using this
    rw [Nat.zero_add]
    refine wpAny_tail m hchk2 (ops.size - m) m (by omega) (Nat.le_refl _) listed a w hall hun hsz hld (hend a w hi.ext ⟨hi.size, hi.defers, fun t A ht => ?_⟩)
    rcases look_envF L As t A m ht with ⟨j, hj, hd, rfl⟩ | ⟨hn, hl⟩
    · exact hi.hA j hj (hall j hj) t hd
    · exact hi.hL t A hl hn
  | c + 1, listed, a, w, hc, hsz, hun, hld, hi => by
    have facts : ∀ i o, i < m → ops[i]? = some o → (∀ e ∈ o.after, Region.binds .any e = true → e.on < i) ∧ (∀ d, o.dst = some d → d < n) ∧
        (∀ t, t ∈ tmpsOf o ∨ gdst ops o = some t → ∀ j, j < m → dstOf ops j = some t → bnd ops i j = true) ∧ (∀ j, j < m → j ≠ i → ∀ d, o.dst = some d → dstOf ops j ≠ some d) := by
      intro i o hlt ho
      have := hchk i hlt
      simp only [chkOp, ho, Bool.and_eq_true, Array.all_eq_true_iff_forall_mem, Bool.or_eq_true, Bool.not_eq_true', List.all_eq_true, List.mem_range, List.mem_append, Option.mem_toList] at this
      obtain ⟨⟨⟨h1, h2⟩, h3⟩, h4⟩ := this
      refine ⟨fun e he hb => ?_, fun d hd => ?_, fun t ht j hj hd => ?_, fun j hj hne d hd hd' => ?_⟩
      · rcases h1 e he with h | h
        · rw [hb] at h; cases h
        · simpa [Nat.blt_eq] using h
      · simpa [hd, Nat.blt_eq] using h2
      · have := h3 t ht j hj
        rcases this with h | h
        · rw [hd] at h; simp at h
        · exact h
      · have := h4 j hj
        rcases this with h | h
        · exact hne (Nat.eq_of_beq_eq_true h)
        · rw [hd, hd'] at h; simp at h
    have prog : ∃ i, i < m ∧ listed.getD i true = false ∧ ∀ j, j < i → listed.getD j true = true := by
      have hex : ∃ i, i < m ∧ listed.getD i true = false := by
        have hpos : 0 < (List.range m).countP (fun i => !listed.getD i true) := by omega
        obtain ⟨i, hi, hb⟩ := List.countP_pos_iff.1 hpos
        exact ⟨i, List.mem_range.1 hi, by simpa using hb⟩
      obtain ⟨i, hlt, hb⟩ := hex
      induction i using Nat.strongRecOn with
      | _ i ih =>
        by_cases h : ∃ j, j < i ∧ listed.getD j true = false
        · obtain ⟨j, hj, hjb⟩ := h
          exact ih j hj (by omega) hjb
        · refine ⟨i, hlt, hb, fun j hj => ?_⟩
          cases hjb : listed.getD j true with
          | true => rfl
          | false => exact absurd ⟨j, hj, hjb⟩ h
    obtain ⟨i0, hi0, hu0, hbelow⟩ := prog
    have hready : i0 ∈ Region.ready .any ops listed := by
      have ho : ops[i0]? = some (ops[i0]'(by omega)) := by simp
      refine mem_ready.2 ⟨hu0, _, ho, fun e he hb => ?_⟩
      have hlt := (facts i0 _ hi0 ho).1 e he hb
      have := hbelow _ hlt
      have hjl : e.on < listed.size := by omega
      simpa [hjl] using this
    rw [show c + 1 + (ops.size - m) = (c + (ops.size - m)) + 1 by omega]
    refine ⟨fun h0 => (by rw [h0] at hready; cases hready), fun i hir => ?_⟩
    obtain ⟨hu, o, ho, hall⟩ := mem_ready.1 hir
    have hilt : i < ops.size := (Array.getElem?_eq_some_iff.1 ho).1
    have listed_of_bnd : ∀ j, bnd ops i j = true → listed.getD j false = true := by
      intro j hb
      simp only [bnd, ho] at hb
      obtain ⟨e, he, hb⟩ := Array.any_eq_true'.1 hb
      simp only [Bool.and_eq_true] at hb
      have := hall e he hb.1
      rwa [Nat.eq_of_beq_eq_true hb.2] at this
    have him : i < m := by
      rcases Nat.lt_or_ge i m with h | h
      · exact h
      · have hc := hchk2 i h hilt
        simp only [chkTail, ho, Bool.and_eq_true, List.all_eq_true, List.mem_range] at hc
        have := cov hld 12 i i0 (hc.2 i0 (by omega)) (fun o' ho' e he hb => by
          rw [ho] at ho'
          obtain rfl := Option.some.inj ho'
          exact hall e he hb)
        rw [not_listed hu0] at this
        cases this
    obtain ⟨f1, f2, f3, f4⟩ := facts i o him ho
    have byLook : ∀ t, (t ∈ tmpsOf o ∨ gdst ops o = some t) → ∀ B, look (envF ops L As 0 i) t = some B → B.p (a.eval (.tmp t)) w := by
      intro t ht B hB
      rcases look_envF L As t B i hB with ⟨j, hj, hd, rfl⟩ | ⟨hn, hl⟩
      · exact hi.hA j (by omega) (listed_of_bnd j (f3 t ht j (by omega) hd)) t hd
      · refine hi.hL t B hl fun j hj hd => ?_
        have hb := f3 t ht j hj hd
        simp only [bnd, ho] at hb
        obtain ⟨e, he, hb⟩ := Array.any_eq_true'.1 hb
        simp only [Bool.and_eq_true] at hb
        have hlt := f1 e he hb.1
        rw [Nat.eq_of_beq_eq_true hb.2] at hlt
        exact hn j hlt hd
    have ops1 : ∀ x ∈ o.op.operands, ∀ B, opd (envF ops L As 0 i) x = some B → B.p (a.eval x) w := fun x hx B hB => by
      cases x with
      | tmp t => exact byLook t (.inl (List.mem_filterMap.2 ⟨.tmp t, by simpa using hx, rfl⟩)) B hB
      | const v => simp [opd] at hB; subst hB; rfl
      | global g => simp [opd] at hB; subst hB; rfl
      | func f => simp [opd] at hB; subst hB; rfl
    have hdst : dstOf ops i = o.dst := by simp [dstOf, ho]
    have step : ∀ v w', w.grownBy w' row → (i ≠ x → Ext w w') → (i = x → ∀ j, j < m → j ≠ x → AvR row (As j)) → (As i).p v w' → wpAnyIn (FW r) 0 P .any ops Q (c + (ops.size - m)) (listed.setIfInBounds i true) (a.put o.dst v) w' := by
      intro v w' hx hxe hxa hv
      have stab : ∀ (A : VA) u, AvR row A → A.p u w → A.p u w' := fun A u hA h => hA.av _ _ _ hx h
      refine wpAny_mainX hm hchk hchk2 hops hX hLav hend c _ _ _ ?_ (by simpa using hsz) ?_ ?_ ?_
      · have := countP_upd m (fun j => !listed.getD j true) (fun j => !(listed.setIfInBounds i true).getD j true) i him (by simp only [hu, Bool.not_false])
          (by have hjl : i < listed.size := by omega
              simp [hjl]) (fun j hj => by simp only [getD_set_ne true (Ne.symm hj)])
        omega
      · intro j hj hj'
        rw [getD_set_ne true (by omega)]
        exact hun j hj hj'
      · exact hld.set fun o' ho' e he hb => by
          rw [ho] at ho'
          obtain rfl := Option.some.inj ho'
          exact hall e he hb
      · refine ⟨World.grownBy.trans hi.ext hx, fun hl => ?_, by simp [hi.size], by simp [hi.defers], fun t A ht hn => ?_, fun j hj hl d hd => ?_⟩
        · have hix : i ≠ x := by
            rintro rfl
            have hjl : i < listed.size := by omega
            simp [hjl] at hl
          rw [getD_set_ne true hix] at hl
          exact Ext.tr (hi.pre hl) (hxe hix)
        · have h0 := stab A _ ⟨hLav.av t A ht⟩ (hi.hL t A ht hn)
          cases hod : o.dst with
          | none => exact h0
          | some d =>
            have : d ≠ t := fun e => hn i him (by rw [hdst, hod, e])
            rw [eval_put_ne this]
            exact h0
        · by_cases hji : j = i
          · subst hji
            rw [hdst] at hd
            rw [hd, eval_put_same (by rw [hi.size]; exact f2 d hd)]
            exact hv
          · have hl' : listed.getD j false = true := by rwa [getD_set_ne false (Ne.symm hji)] at hl
            have h1 := hi.hA j hj hl' d hd
            have h0 : (As j).p (a.eval (.tmp d)) w' := by
              by_cases hix : i = x
              · exact stab _ _ (hxa hix j hj (fun h => hji (h.trans hix.symm))) h1
              · exact (As j).st _ _ _ (hxe hix) h1
            cases hod : o.dst with
            | none => exact h0
            | some d' =>
              have : d' ≠ d := fun e => f4 j hj hji d' hod (by rw [hd, e])
              rw [eval_put_ne this]
              exact h0
    unfold wpOpIn
    simp only [ho]
    by_cases hix : i = x
    · obtain ⟨hgd, hxo⟩ := hX o (hix ▸ ho)
      have hw : Region.wanted o (yielded ops a.tmps) = true := by unfold Region.wanted; rw [hgd]
      rw [if_pos hw]
      have hpre : Ext w0 w := hi.pre (hix ▸ hu)
      exact (hxo.out a.eval w hpre (hix ▸ ops1)).wp fun v w' hv => step v w' hv.1 (fun h => absurd hix h) (fun _ j hj hjx => by
        have hoj : ops[j]? = some (ops[j]'(by omega)) := by simp
        exact (hops j _ hj hjx hoj).2) (hix ▸ hv.2)
    · have hg := (hops i o him hix ho).1 w hi.ext a w (Ext.rfl' w) ops1 (fun d B hd hB => byLook d (.inr hd) B hB)
      split
      · rename_i hw
        rw [if_pos hw] at hg
        exact (hg.wp fun v w' hv => step v w' ⟨hv.1.os, hv.1.tape, hv.1.output, hv.1.size, fun k hk _ => hv.1.block k hk⟩ (fun _ => hv.1) (fun h => absurd h hix) hv.2)
      · rename_i hw
        rw [if_neg hw] at hg
        exact ⟨fun _ _ => trivial, step undef w ⟨rfl, rfl, rfl, Nat.le_refl _, fun _ _ _ => rfl⟩ (fun _ => Ext.rfl' _) (fun h => absurd h hix) hg⟩

/-- THE RULE: m operations first, number x of them changes the row -/
theorem regX {id : Nat} {ops : Array Oper} {L : Env} {a : Act} {w : World} (m x : Nat) (row : Option Nat) (hx : x < m) (hmix : P.follows .mixedOrders = true) (hf : FrD n ds a w L) [hL : AvRL row L] (hchk : chk ops m n = true)
    (h : RegX P ops w row (some x) (ops.toList.take m) (fun L' => ∀ a' w', w.grownBy w' row → FrD n ds a' w' L' → wpListIn (FW r) 0 P ops Q (ops.toList.drop m) a' w') L) : (Code.region id ops true).wpIn (FW r) 0 P Q a w := by
  simp only [chk, Bool.and_eq_true, List.all_eq_true, List.mem_range, Bool.or_eq_true, Nat.ble_eq] at hchk
  obtain ⟨⟨hm, h1⟩, h2⟩ := hchk
  refine wpIn_region_any hmix ?_
  have hlen : (ops.toList.take m).length = m := by simp; omega
  obtain ⟨As, hAs, hX, hK⟩ := RegX_As (ops := ops) (ops.toList.take m) 0 (some x) L (fun j hj => by
    rw [hlen] at hj
    rw [Nat.zero_add, List.getElem?_take, if_pos hj]; simp) h
  rw [hlen] at hK hAs hX
  have hdrew : w.grownBy w.drew none := ⟨rfl, rfl, rfl, Nat.le_refl _, fun _ _ _ => rfl⟩
  have hext : Ext w { w with drawn := w.drawn + 1 } := Ext.drew w
  have := wpAny_mainX (P := P) (ops := ops) (Q := Q) (w0 := w) (n := n) (ds := ds) (m := m) (x := x) (row := row) (r := r) (L := L) (As := As) hm h1 (fun i hi hi' => by
      rcases h2 i hi' with h | h
      · simp only [Nat.blt_eq] at h; omega
      · exact h) (fun j o hj hjx ho => hAs j o hj (by simpa using fun h => hjx h.symm) (by simpa using ho)) (fun o ho => hX x o hx rfl (by simpa using ho)) hL (fun a w hx hf => hK a w hx hf) m
    (Array.replicate ops.size false) a { w with drawn := w.drawn + 1 } ?_ (by simp) ?_ ?_ ⟨⟨rfl, rfl, rfl, Nat.le_refl _, fun _ _ _ => rfl⟩, fun _ => hext, hf.size, hf.defers, fun t A ht _ => A.st _ _ _ hext (hf.val t A ht), fun i hi hl => ?_⟩
  · rwa [show m + (ops.size - m) = ops.size by omega] at this
  · have : (List.range m).countP (fun i => !(Array.replicate ops.size false).getD i true) = (List.range m).length := by
      refine List.countP_eq_length.2 fun i hi => ?_
      have := List.mem_range.1 hi
      have hlt : i < ops.size := by omega
      simp [hlt]
    simpa using this
  · intro j _ hj
    simp [hj]
  · intro i o hl
    have : (Array.replicate ops.size false).getD i false = false := by
      by_cases hlt : i < ops.size <;> simp [hlt]
    rw [this] at hl; cases hl
  · have : (Array.replicate ops.size false).getD i false = false := by
      by_cases hlt : i < ops.size <;> simp [hlt]
    rw [this] at hl; cases hl
end
end Go.Mono

namespace Go.Mono
open Go Go.RowKit

variable {P : Program} {w0 : World} {L : Env} {dst : Option Tmp} {ty : TypeId} {pos : String} {aft : Array Edge} {g : Option (Nat × Bool)} {r : Option Nat} {ds : List Deferred}

/-- the address of an element of a slice whose value is known -/
theorem idxS {x y : Operand} {t te : TypeId} {b off len cap s : Nat} {k : IntKind} {i : Int} (ht : P.underlying t = some (.slice te)) (hs : (P.info? te).map (·.size) = some s) (hx : opd L x = some (E (.slice (some ⟨b, off, none⟩) len cap))) (hy : opd L y = some (E (.int k i))) (hi : 0 ≤ i ∧ i < (len : Int)) :
    OpC P w0 L ⟨dst, .indexAddr t x y, ty, pos, aft, g⟩ (E (.pointer (some ⟨b, off + i.toNat * s, none⟩))) :=
  opc_pure fun ρ w _ hv => by
    have h1 := opE hv (x := x) (by simp [Op.operands]) hx
    have h2 := opE hv (x := y) (by simp [Op.operands]) hy
    have hsz : ∀ w, (sizeOf te).run P w = .ok s w := fun w => by
      cases hi : P.info? te with
      | none => simp [hi] at hs
      | some i => simp [hi] at hs; simp [sizeOf, typeInfo, hi, hs]
    refine ⟨_, ?_, rfl⟩
    simp [execOp, h1, h2, Instr.indexAt, asIntOf, run_underlying ht, hi, hsz, Addr.add_lit]
theorem lenE {x : Operand} {t te : TypeId} {ao : Option Addr} {n cap : Nat} (ht : P.underlying t = some (.slice te)) (hx : opd L x = some (E (.slice ao n cap))) : OpC P w0 L ⟨dst, .call ⟨.builtin .len, #[x], #[t]⟩, ty, pos, aft, g⟩ (E (.int .i64 (n : Nat))) :=
  opc_pure fun ρ w he hv => by
    have h1 := opE hv (x := x) (by simp [Op.operands, Call.operands]) hx
    exact ⟨_, by simp [execOp, resolve, invoke, builtin, Builtin.len_, h1, run_underlying ht, goInt], rfl⟩

theorem FrD.fix {n : Nat} {a : Act} {w : World} {A : VA} (h : FrD n ds a w L) (k : Nat) (hk : look L k = some A) : ∃ v, A.p v w ∧ FrD n ds a w ((k, E v) :: L) :=
  ⟨_, h.val k A hk, FrD.cons rfl h⟩

section tail
variable {ops : Array Oper} {rest : List Oper} {Q : Exit → Act → World → Prop} {n : Nat} {a : Act} {w : World} {x y : Operand}
theorem madeCells_one (z : Value) (n : Nat) : madeCells #[z] n = (List.replicate n z).toArray := by
  unfold madeCells
  apply Array.toList_inj.1
  rw [Array.toList_map, Array.toList_range]
  refine List.ext_getElem (by simp) fun i h1 h2 => ?_
  simp [Nat.mod_one]
theorem tl_mk {t te : TypeId} {z : Value} {k : IntKind} {d c bz : Nat} (ht : P.underlying t = some (.slice te)) (hi : (P.info? te).map (fun i => (i.zero, i.size, i.bytes)) = some (some z, 1, bz)) (hz : z.cells = #[z]) (hf : FrD n ds a w L) (hd : d < n)
    (hx : opd L x = some (E (.int k (c : Nat)))) (hc : c ≤ 1048576) (hb : bz ≤ 1048576)
    (h : ∀ a' b w', Ext w w' → b = w.heap.size → w'.heap.size = b + 1 → Blk w' b (List.replicate c z).toArray te → FrD n ds a' w' ((d, E (.slice (some ⟨b, 0, none⟩) c c)) :: L) → wpListIn (FW r) 0 P ops Q rest a' w') :
    wpListIn (FW r) 0 P ops Q (⟨some d, .makeSlice t x x, ty, pos, aft, none⟩ :: rest) a w :=
  wpListIn_plain rfl fun K hK => by
    obtain ⟨it, hit, hiz, hs, hby⟩ := info_parts hi
    have hxv : a.eval x = .int k (c : Nat) := hf.opd x _ hx
    have hprod : (bz : Int) * (c : Nat) ≤ 1048576 * 1048576 := Int.mul_le_mul (by omega) (by omega) (by omega) (by omega)
    have hr := run_make (P := P) w t te it z ht hit hiz k k (c : Nat) (c : Nat) (by omega) (by omega) (by rw [hby]; omega) (by omega)
    rw [hs, Int.toNat_natCast, Nat.mul_one, hz, madeCells_one] at hr
    refine OpR.wp (R := fun v w' => v = .slice (some ⟨w.heap.size, 0, none⟩) c c ∧ w' = w.alloc (.cells (List.replicate c z).toArray te)) ?_ ?_
    · simp only [OpR, execOp, hxv, Sem.run_bind, hr, Result.andThen_ok, Sem.run_pure, and_self]
    · rintro v w' ⟨rfl, rfl⟩
      exact hK _ _ (h _ _ _ (ext_alloc _ _) rfl (by simp) (blk_alloc _ _ _) (hf.put (d := some d) (ext_alloc _ _) (fun k hk => by cases hk; exact hd) rfl))
end tail

/-- slices of numbers, each in a block of its own, none in block bo -/
structure Rows (ety B : Nat) (G : Nat → Prop) (w : World) (bo : Nat) (xss : List (List Int)) (vs : List Value) : Prop where
  len : vs.length = xss.length
  at' : ∀ (p : Nat) (v : Value) (xs : List Int), vs[p]? = some v → xss[p]? = some xs → OwR intE ety B G w xs v ∧ v.ownBlock ≠ some bo
  sep : ∀ (p q : Nat) (u v : Value), p ≠ q → vs[p]? = some u → vs[q]? = some v → u.ownBlock = none ∨ u.ownBlock ≠ v.ownBlock
variable {ety B bo : Nat} {G : Nat → Prop} {w w' : World} {xss : List (List Int)} {vs : List Value}
theorem Rows.ext (h : Rows ety B G w bo xss vs) (k : Ext w w') : Rows ety B G w' bo xss vs :=
  ⟨h.len, fun p v xs h1 h2 => ⟨(h.at' p v xs h1 h2).1.ext k, (h.at' p v xs h1 h2).2⟩, h.sep⟩
theorem Rows.lt (h : Rows ety B G w bo xss vs) {p : Nat} {v : Value} (hv : vs[p]? = some v) {b : Nat} (hb : v.ownBlock = some b) : B ≤ b ∧ b < w.heap.size := by
  have hp := (List.getElem?_eq_some_iff.1 hv).1
  exact (h.at' p v _ hv (List.getElem?_eq_getElem (by rw [← h.len]; exact hp))).1.lt hb
/-- a new block's contents change -/
theorem Rows.gr (h : Rows ety B G w bo xss vs) {b : Nat} (hg : w.grownBy w' (some b)) (hb : ∀ (p : Nat) (v : Value), vs[p]? = some v → v.ownBlock ≠ some b) : Rows ety B G w' bo xss vs :=
  ⟨h.len, fun p v xs h1 h2 => ⟨OwR.gr (h.at' p v xs h1 h2).1 hg (hb p v h1), (h.at' p v xs h1 h2).2⟩, h.sep⟩
theorem Rows.nil {n : Nat} (hB : B ≤ w.heap.size) (hG : ∀ b, G b → b < B) : Rows ety B G w bo (List.replicate n []) (List.replicate n (.slice none 0 0)) := by
  refine ⟨by simp, fun p v xs h1 h2 => ?_, fun p q u v _ h1 _ => ?_⟩
  · rw [List.getElem?_replicate] at h1 h2
    split at h1
    · rename_i hp
      rw [if_pos hp] at h2
      cases h1
      cases h2
      exact ⟨OwR.nil intE _ hB hG, by simp [Value.ownBlock]⟩
    · cases h1
  · rw [List.getElem?_replicate] at h1
    split at h1
    · cases h1
      exact .inl rfl
    · cases h1
/-- one of them has grown -/
theorem Rows.upd (h : Rows ety B G w bo xss vs) {p : Nat} {v v' : Value} {xs' : List Int} (hv : vs[p]? = some v) (hg : w.grownBy w' v.ownBlock) (ho : OwR intE ety B G w' xs' v') (hat : v'.ownBlock = v.ownBlock ∨ ∃ c, v'.ownBlock = some c ∧ w.heap.size ≤ c) (hbo : bo < w.heap.size) :
    Rows ety B G w' bo (xss.set p xs') (vs.set p v') := by
  have hp := (List.getElem?_eq_some_iff.1 hv).1
  have hx : ∃ xs, xss[p]? = some xs := ⟨_, List.getElem?_eq_getElem (by rw [← h.len]; exact hp)⟩
  obtain ⟨xs, hx⟩ := hx
  refine ⟨by simp [h.len], fun q u ys h1 h2 => ?_, fun q s u y hqs h1 h2 => ?_⟩
  · by_cases hpq : p = q
    · subst hpq
      rw [List.getElem?_set_self hp] at h1
      rw [List.getElem?_set_self (by rw [← h.len]; exact hp)] at h2
      cases h1; cases h2
      refine ⟨ho, ?_⟩
      rcases hat with hat | ⟨c, hat, hc⟩
      · rw [hat]; exact (h.at' p v xs hv hx).2
      · rw [hat]; simp; omega
    · rw [List.getElem?_set_ne hpq] at h1 h2
      have := h.at' q u ys h1 h2
      exact ⟨OwR.grF this.1 hg (h.sep q p u v (Ne.symm hpq) h1 hv), this.2⟩
  · by_cases hpq : p = q
    · subst hpq
      rw [List.getElem?_set_self hp] at h1
      rw [List.getElem?_set_ne hqs] at h2
      cases h1
      rcases hat with hat | ⟨c, hat, hc⟩
      · rw [hat]; exact h.sep p s v y hqs hv h2
      · refine .inr fun he => ?_
        rw [hat] at he
        have := h.lt h2 he.symm
        omega
    · rw [List.getElem?_set_ne hpq] at h1
      by_cases hps : p = s
      · subst hps
        rw [List.getElem?_set_self hp] at h2
        cases h2
        rcases hat with hat | ⟨c, hat, hc⟩
        · rw [hat]; exact h.sep q p u v hqs h1 hv
        · refine .inr fun he => ?_
          rw [hat] at he
          have := h.lt h1 he
          omega
      · rw [List.getElem?_set_ne hps] at h2
        exact h.sep q s u y hqs h1 h2
theorem Rows.cells (h : Rows ety B G w bo xss vs) : Cells (slE intE) G w xss vs := by
  have hl := h.len
  have ha := h.at'
  clear h
  induction xss generalizing vs with
  | nil => exact List.eq_nil_of_length_eq_zero hl
  | cons xs xss ih =>
    match vs, hl, ha with
    | v :: vs, hl, ha =>
      refine ⟨[v], vs, rfl, ⟨v, rfl, Dv.sl.1 (ha 0 v xs rfl rfl).1.sl⟩, ih (by simpa using hl) fun p u ys h1 h2 => ha (p + 1) u ys h1 h2⟩
/-- as a datum -/
theorem Rows.dv (h : Rows ety B G w bo xss vs) {bt : TypeId} (hb : Blk w bo vs.toArray bt) (hG : ¬G bo) {cap : Nat} (hc : xss.length ≤ cap) : (Dv (slE (slE intE)) G xss).p (.slice (some ⟨bo, 0, none⟩) xss.length cap) w :=
  Dv.sl.2 (.inr ⟨_, cap, vs, rfl, hc, hG, hb.lt, h.cells, fun i u hu => by
    rw [Addr.add_lit, Nat.zero_add, hb.cell i, List.getElem?_toArray]; exact hu⟩)

/-- append to one of the rows, in a region that draws its order -/
theorem xapp {x y : Operand} {t te : TypeId} {z0 : Value} {sz bz : Nat} {α : Type} {e : Enc α} {xs ys : List α} {v : Value} (ht : P.underlying t = some (.slice te)) (hi : (P.info? te).map (fun i => (i.zero, i.size, i.bytes)) = some (some z0, sz, bz)) (hsz : sz = e.k) (hz0 : z0.cells.size = e.k)
    (hx : opd L x = some (E v)) (ho : OwR e te B G w0 xs v) (hy : opd L y = some (Dv (slE e) (GO G v) ys)) (hb : (xs.length + ys.length) * bz ≤ 140737488355328) (h63 : xs.length + ys.length ≤ maxLen) :
    XOp P w0 v.ownBlock L ⟨dst, .call ⟨.builtin .append, #[x, y], #[t, t]⟩, ty, pos, aft, none⟩
      ⟨fun v' w' => OwR e te B G w' (xs ++ ys) v' ∧ (v'.ownBlock = v.ownBlock ∨ ∃ c, v'.ownBlock = some c ∧ w0.heap.size ≤ c), fun v' w1 w2 k h => ⟨h.1.ext k, h.2⟩⟩ := by
  refine ⟨fun ρ w he hv => ?_⟩
  have hxv : ρ x = v := hv x (by simp [Op.operands, Call.operands]) _ hx
  have hyv := hv y (by simp [Op.operands, Call.operands]) _ hy
  obtain ⟨v', w', h1, h2, h3, h4⟩ := run_appD (P := P) (ty := ty) ht hi hsz hz0 (ho.ext he) hyv h63 hb
  simp only [OpR, execOp, resolve, invoke, builtin, Sem.run_bind, Sem.run_pure, Result.andThen_ok, List.map_toArray, List.map_cons, List.map_nil, hxv, h1]
  exact ⟨h3, h2, h4.imp id fun h => ⟨_, h, he.size⟩⟩
section
variable {ops : Array Oper} {rest : List Oper} {K : Env → Prop} {A : VA} {op : Op} {dd : Nat} {row : Option Nat}
theorem xm {x : Nat} (h : ∀ w1, w0.grownBy w1 row → OpC P w1 L ⟨some dd, op, ty, pos, aft, none⟩ A) [hA : AvR row A] (k : RegX P ops w0 row (some x) rest K ((dd, A) :: L)) : RegX P ops w0 row (some (x + 1)) (⟨some dd, op, ty, pos, aft, none⟩ :: rest) K L :=
  ⟨A, fun w1 h1 a w he hv _ => by simp only [Region.wanted, if_true]; exact (h w1 h1).out _ w he hv, hA, k⟩
theorem xn (h : ∀ w1, w0.grownBy w1 row → OpC P w1 L ⟨some dd, op, ty, pos, aft, none⟩ A) [hA : AvR row A] (k : RegX P ops w0 row none rest K ((dd, A) :: L)) : RegX P ops w0 row none (⟨some dd, op, ty, pos, aft, none⟩ :: rest) K L :=
  ⟨A, fun w1 h1 a w he hv _ => by simp only [Region.wanted, if_true]; exact (h w1 h1).out _ w he hv, hA, k⟩
theorem xx (h : XOp P w0 row L ⟨some dd, op, ty, pos, aft, none⟩ A) (k : RegX P ops w0 row none rest K ((dd, A) :: L)) : RegX P ops w0 row (some 0) (⟨some dd, op, ty, pos, aft, none⟩ :: rest) K L :=
  ⟨rfl, A, h, k⟩
theorem xe {x : Option Nat} (h : K L) : RegX P ops w0 row x [] K L := by
  match x, h with
  | none, h => exact h
  | some 0, h => exact h
  | some (x + 1), h => exact h
end
end Go.Mono
namespace Go.Mono
open Go Go.RowKit
theorem Rows.ne_new {ety B bo : Nat} {G : Nat → Prop} {w : World} {xss : List (List Int)} {vs : List Value} (h : Rows ety B G w bo xss vs) {b : Nat} (hb : b = w.heap.size) : ∀ (p : Nat) (v : Value), vs[p]? = some v → v.ownBlock ≠ some b := fun p v hv hb' => by
  have := (h.lt hv hb').2
  omega
end Go.Mono
namespace Go.Mono
open Go Go.RowKit
theorem Rows.ne_bo {ety B bo : Nat} {G : Nat → Prop} {w : World} {xss : List (List Int)} {vs : List Value} (h : Rows ety B G w bo xss vs) : ∀ (p : Nat) (v : Value), vs[p]? = some v → v.ownBlock ≠ some bo := fun p v hv => by
  have hp := (List.getElem?_eq_some_iff.1 hv).1
  exact (h.at' p v _ hv (List.getElem?_eq_getElem (by rw [← h.len]; exact hp))).2
theorem OwR.one {α : Type} {e : Enc α} {ty : TypeId} {B : Nat} {G : Nat → Prop} {w : World} {xs : List α} {v : Value} (h : OwR e ty B G w xs v) : v.oneCell' = true := by
  rcases Dv.sl.1 h.sl with ⟨rfl, _⟩ | ⟨ad, cap, cs, rfl, _⟩ <;> rfl
theorem set_arr (vs : List Value) (p : Nat) (v : Value) : vs.toArray.setIfInBounds (0 + (p : Int).toNat * 1) v = (vs.set p v).toArray := by simp
theorem get_arr {vs : List Value} {p : Nat} {v : Value} (h : vs[p]? = some v) : vs.toArray[0 + (p : Int).toNat * 1]? = some v := by simpa using h
end Go.Mono

namespace Go.Mono
open Go Go.Proofs Go.RowKit

/-- the bags below bag p, of the first k -/
def kidT (t : List (Int × BS)) (k : Nat) (p : Nat) : List Int := selN (fun i => decide ((bg t i).1 = (p : Int))) k
def belowTo (t : List (Int × BS)) (k : Nat) : List (List Int) := (List.range t.length).map (kidT t k)
def belowT (t : List (Int × BS)) : List (List Int) := belowTo t t.length
theorem belowTo_len (t : List (Int × BS)) (k : Nat) : (belowTo t k).length = t.length := by simp [belowTo]
theorem belowTo_get {t : List (Int × BS)} {k p : Nat} (h : p < t.length) : (belowTo t k)[p]? = some (kidT t k p) := by simp [belowTo, h]
theorem belowTo_zero (t : List (Int × BS)) : belowTo t 0 = List.replicate t.length [] := by
  refine List.ext_getElem (by simp [belowTo]) fun i h1 h2 => ?_
  simp [belowTo, kidT, selN]
theorem belowTo_none {t : List (Int × BS)} {k : Nat} (h : (bg t k).1 = -1) : belowTo t (k + 1) = belowTo t k := by
  unfold belowTo
  refine List.map_congr_left fun p _ => ?_
  rw [kidT, selN_succ, if_neg (by rw [h]; simp)]
  rfl
theorem belowTo_succ {t : List (Int × BS)} {k p : Nat} (h : (bg t k).1 = (p : Int)) (hp : p < t.length) : belowTo t (k + 1) = (belowTo t k).set p (kidT t k p ++ [(k : Int)]) := by
  refine List.ext_getElem (by simp [belowTo]) fun i h1 h2 => ?_
  rw [List.getElem_set]
  by_cases hi : p = i
  · subst hi
    simp [belowTo, kidT, selN_succ, h]
  · have : ¬ (p : Int) = (i : Int) := by omega
    simp [belowTo, kidT, selN_succ, h, this, hi]

/-- each bag's number above is -1 or a bag's -/
def Rng (t : List (Int × BS)) : Prop := ∀ i, i < t.length → -1 ≤ (bg t i).1 ∧ (bg t i).1 < t.length

theorem below_spec {G : Nat → Prop} (t : List (Int × BS)) (v : Value) (W : World) (h : (Dv treeE G t).p v W) (hG : ∀ b, G b → b < W.heap.size) (hl : t.length ≤ 4096) (hr : Rng t) :
    Calls Tryz.prog 122 #[v] W (Post (Dv (slE (slE intE)) G (belowT t)) W) := by
  refine enter (args := [v]) (As := [Dv treeE (GB W G) t]) Tryz.func122 rfl Tryz.ntmps122 (Nat.le_of_ble_eq_true rfl) ?_ (fun a hf => ?_) (Nat.le_of_ble_eq_true rfl)
  rotate_left
  dsimp only [params, Nat.reduceAdd] at hf
  rotate_right
  · exact arg1 (Dv.toB h)
  have e := Ext.rfl' W
  repeat refine seq ?_
  refine regn0 ?_
  refine tl_as hf rfl (by decide) fun a hf => ?_
  refine tl_nil ?_
  repeat refine seq ?_
  refine regn 2 hf (by decide +kernel) ?_
  refine st (mv rfl) ?_
  refine st (lenD Tryz.underlying23 (isR rfl)) ?_
  refine en fun a w e' hf => ?_
  replace e := Ext.tr e e'
  clear e'
  refine tl_mk Tryz.underlying127 I59 rfl hf (by decide) rfl (by omega) (by decide) fun a b8 w e' hb8 hs8 B8 hf => ?_
  have hle8 := Nat.le_trans e.size (Nat.le_of_eq hb8.symm)
  replace e := Ext.tr e e'
  clear e'
  refine tl_as hf rfl (by decide) fun a hf => ?_
  refine tl_nil ?_
  have HR : Rows 3 W.heap.size G w b8 (belowTo t 0) (List.replicate t.length (.slice none 0 0)) := by rw [belowTo_zero]; exact Rows.nil e.size hG
  have hlen : (List.replicate t.length (Value.slice none 0 0)).length = t.length := by simp
  repeat refine seq ?_
  refine regn 3 hf (by decide +kernel) ?_
  refine st (mv rfl) ?_
  refine st (lenD Tryz.underlying23 (isR rfl)) ?_
  refine st (mv rfl) ?_
  refine en fun a w e' hf => ?_
  replace e := Ext.tr e e'
  replace B8 := B8.ext e'
  replace HR := HR.ext e'
  clear e'
  refine tl_nil ?_
  replace hf := hf.keep [3, 9, 10, 11]
  dsimp only [keep, List.filterMap, look, Nat.beq, Option.map] at hf
  repeat refine seq ?_
  refine blk (loopN (fun r0 a w => ∃ (k : Nat) (vs : List Value), r0 = t.length - k ∧ k ≤ t.length ∧ Fr 33 a w [(3, E (.slice (some ⟨b8, 0, none⟩) t.length t.length)), (9, Dv treeE (GB W G) t), (10, E (I (t.length : Nat))), (11, E (I k))] ∧ Ext W w ∧ Blk w b8 vs.toArray 59 ∧ vs.length = t.length ∧ Rows 3 W.heap.size G w b8 (belowTo t k) vs) t.length ⟨0, _, rfl, by omega, hf, e, B8, hlen, HR⟩ ?_)
  clear hf e; try clear B8; try clear hlen; try clear HR
  rintro r0 a w ⟨k, vs, rfl, hk, hf, e, B8, hlen, HR⟩
  repeat refine seq ?_
  refine regn 1 hf (by decide +kernel) ?_
  refine st (lss rfl rfl) ?_
  refine en fun a w e' hf => ?_
  replace e := Ext.tr e e'
  replace B8 := B8.ext e'
  replace HR := HR.ext e'
  clear e'
  refine tl_nil ?_
  repeat refine seq ?_
  refine ifc hf rfl (fun hc => wskip ?_) (fun hc => wexit ?_)
  rotate_left
  rotate_left
  · have hlt : k < t.length := by have := of_decide_eq_true hc; (try dsimp only at this); omega
    clear hc
    replace hf := hf.keep [3, 9, 10, 11]
    dsimp only [keep, List.filterMap, look, Nat.beq, Option.map] at hf
    repeat refine seq ?_
    refine blk ?_
    have hx := bg_get hlt
    have hrk := hr k hlt
    repeat refine seq ?_
    refine regn0 ?_
    refine tl_op hf (by decide) (mv rfl) fun a w e' hf => ?_
    replace e := Ext.tr e e'
    replace B8 := B8.ext e'
    replace HR := HR.ext e'
    clear e'
    refine tl_op hf (by decide) (idxD Tryz.underlying23 S70 (isR rfl) rfl (by omega) (hx)) fun a w e' hf => ?_
    replace e := Ext.tr e e'
    replace B8 := B8.ext e'
    replace HR := HR.ext e'
    clear e'
    refine tl_op hf (by decide) (ldBag T70 (isR rfl)) fun a w e' hf => ?_
    replace e := Ext.tr e e'
    replace B8 := B8.ext e'
    replace HR := HR.ext e'
    clear e'
    refine tl_alloc I70 hf (by decide) fun a b5 w e' hb5 hs5 B5 hf => ?_
    have hle5 := Nat.le_trans e.size (Nat.le_of_eq hb5.symm)
    have ne5_HR := HR.ne_new hb5
    have lt5_B8 := B8.lt
    replace e := Ext.tr e e'
    replace B8 := B8.ext e'
    replace HR := HR.ext e'
    clear e'
    refine tl_as hf rfl (by decide) fun a hf => ?_
    haveI hinr : ∀ G0, InR (GB W G0) (some b5) := fun G0 => InR.gb (by omega)
    refine tl_stW T70 hf rfl rfl (bagC_one _) B5 rfl (bagC_size _) fun w hg hsz B5 hf => ?_
    replace e := e.gr hg (by omega)
    replace B8 := B8.gr hg (by omega)
    replace HR := HR.gr hg (by assumption)
    clear hg
    refine tl_nil ?_
    repeat refine seq ?_
    refine regn 3 hf (by decide +kernel) ?_
    refine st (fldA Tryz.underlying70 rfl T3 (by decide) rfl) ?_
    refine st (ld1 T3 rfl B5 (bagC_0 _)) ?_
    refine st (neq rfl rfl) ?_
    refine en fun a w e' hf => ?_
    replace e := Ext.tr e e'
    replace B8 := B8.ext e'
    replace HR := HR.ext e'
    replace B5 := B5.ext e'
    clear e'
    refine tl_nil ?_
    repeat refine seq ?_
    refine ifc hf rfl (fun hb => ?_) (fun hb => ?_)
    · have hne : (bg t k).1 ≠ -1 := by simpa using hb
      obtain ⟨p, hp⟩ : ∃ p : Nat, (bg t k).1 = (p : Int) := ⟨(bg t k).1.toNat, by omega⟩
      have hpl : p < t.length := by omega
      have hvp : vs[p]? = some (vs[p]'(by omega)) := by simp
      obtain ⟨u, hu⟩ : ∃ u, u = vs[p]'(by omega) := ⟨_, rfl⟩
      rw [← hu] at hvp
      obtain ⟨Ho, hob⟩ := HR.at' p u _ hvp (belowTo_get hpl)
      have n5 : u.ownBlock ≠ some b5 := ne5_HR p u hvp
      have hsel := selN_len (fun i => decide ((bg t i).1 = (p : Int))) k
      haveI hin : ∀ G0, InR (GB W G0) u.ownBlock := OwR.inGB Ho (Nat.le_refl _)
      replace hf := hf.keep [3, 4, 5, 9, 10, 11]
      dsimp only [keep, List.filterMap, look, Nat.beq, Option.map] at hf
      have h8 := B8.lt
      repeat refine seq ?_
      refine regX 12 10 u.ownBlock (by decide) Mix.mix hf (by decide +kernel) ?_
      refine xm (fun w1 h1 => mv rfl) ?_
      refine xm (fun w1 h1 => fldA Tryz.underlying70 rfl T3 (by decide) rfl) ?_
      refine xm (fun w1 h1 => (ld1 T3 rfl (B5.gro h1 n5) (bagC_0 _)).eq (congrArg (Value.int .i64) hp)) ?_
      refine xm (fun w1 h1 => mv rfl) ?_
      refine xm (fun w1 h1 => fldA Tryz.underlying70 rfl T3 (by decide) rfl) ?_
      refine xm (fun w1 h1 => (ld1 T3 rfl (B5.gro h1 n5) (bagC_0 _)).eq (congrArg (Value.int .i64) hp)) ?_
      refine xm (fun w1 h1 => idxS Tryz.underlying127 S59 rfl rfl (by omega)) ?_
      refine xm (fun w1 h1 => ld1 T59 rfl (B8.gro h1 hob) (get_arr hvp)) ?_
      refine xm (fun w1 h1 => mv rfl) ?_
      refine xm (fun w1 h1 => bsl1 Tryz.underlying59 I3 rfl (by decide) rfl (fun b hb => Nat.lt_of_lt_of_le (Ho.avs b hb) h1.size) (isI rfl)) ?_
      refine xx (xapp Tryz.underlying59 I3 rfl rfl rfl Ho rfl (by simp only [List.length_singleton, kidT]; omega) (by simp only [List.length_singleton, kidT, maxLen]; omega)) ?_
      refine xn (fun w1 h1 => idxS Tryz.underlying127 S59 rfl rfl (by omega)) ?_
      refine xe fun a w hg hf => ?_
      obtain ⟨v', ⟨Hn, hat⟩, hf⟩ := hf.fix 29 rfl
      replace e := e.gro hg (Ho.row (Nat.le_refl _))
      replace HR := HR.upd hvp hg Hn hat h8
      replace B8 := B8.gro hg hob
      have hone := Hn.one
      have hbo := HR.ne_bo
      clear Ho Hn hg hat B5
      rw [← belowTo_succ hp hpl] at HR
      replace hf := hf.keep [3, 9, 10, 11, 29, 30]
      dsimp only [keep, List.filterMap, look, Nat.beq, Option.map] at hf
      haveI hinr : ∀ G0, InR (GB W G0) (some b8) := fun G0 => InR.gb (by omega)
      refine tl_st1 T59 hf rfl rfl hone B8 (by simp; omega) fun w hg hsz B8 hf => ?_
      replace e := e.gr hg (by omega)
      replace HR := HR.gr hg hbo
      rw [set_arr] at B8
      refine tl_nil ?_
      try simp only [Exit.then, Exit.inBlock, ↓reduceIte]
      repeat refine seq ?_
      refine regn 1 hf (by decide +kernel) ?_
      refine st ((add rfl rfl (by omega)).eq (congrArg (Value.int .i64) (show (k : Int) + 1 = ((k + 1 : Nat) : Int) from rfl))) ?_
      refine en fun a w e' hf => ?_
      replace e := Ext.tr e e'
      replace B8 := B8.ext e'
      replace HR := HR.ext e'
      clear e'
      refine tl_op hf (by decide) (mv rfl) fun a w e' hf => ?_
      replace e := Ext.tr e e'
      replace B8 := B8.ext e'
      replace HR := HR.ext e'
      clear e'
      refine tl_nil ?_
      replace hf := hf.keep [3, 9, 10, 11]
      dsimp only [keep, List.filterMap, look, Nat.beq, Option.map] at hf
      refine ⟨_, ?_, k + 1, vs.set p v', rfl, by omega, hf, e, ?_⟩
      · omega
      exact ⟨B8, by simpa using hlen, HR⟩
    · have hne : (bg t k).1 = -1 := by simpa using hb
      refine wskip ?_
      try simp only [Exit.then, Exit.inBlock, ↓reduceIte]
      try simp only [Exit.then, Exit.inBlock, ↓reduceIte]
      repeat refine seq ?_
      refine regn 1 hf (by decide +kernel) ?_
      refine st ((add rfl rfl (by omega)).eq (congrArg (Value.int .i64) (show (k : Int) + 1 = ((k + 1 : Nat) : Int) from rfl))) ?_
      refine en fun a w e' hf => ?_
      replace e := Ext.tr e e'
      replace B5 := B5.ext e'
      replace B8 := B8.ext e'
      replace HR := HR.ext e'
      clear e'
      refine tl_op hf (by decide) (mv rfl) fun a w e' hf => ?_
      replace e := Ext.tr e e'
      replace B5 := B5.ext e'
      replace B8 := B8.ext e'
      replace HR := HR.ext e'
      clear e'
      refine tl_nil ?_
      replace hf := hf.keep [3, 9, 10, 11]
      dsimp only [keep, List.filterMap, look, Nat.beq, Option.map] at hf
      refine ⟨_, ?_, k + 1, vs, rfl, by omega, hf, e, ?_⟩
      · omega
      exact ⟨B8, hlen, by rw [belowTo_none hne]; exact HR⟩
  · obtain rfl : k = t.length := by have := of_decide_eq_false hc; (try dsimp only at this); omega
    clear hc
    simp only [Exit.then, Exit.inBlock, ↓reduceIte]
    repeat refine seq ?_
    refine regn 1 hf (by decide +kernel) ?_
    refine st (mv rfl) ?_
    refine en fun a w e' hf => ?_
    replace e := Ext.tr e e'
    replace B8 := B8.ext e'
    replace HR := HR.ext e'
    clear e'
    refine tl_as hf rfl (by decide) fun a hf => ?_
    refine tl_nil ?_
    have hd := HR.dv B8 (fun hg => by have := hG _ hg; omega) (Nat.le_of_eq (belowTo_len t _))
    rw [belowTo_len] at hd
    refine wret ?_
    try simp only [Exit.then, Exit.inBlock]
    refine ret1 rfl hf rfl ?_
    rintro _ rfl
    exact ⟨_, rfl, e, hd⟩
end Go.Mono

namespace Go.Mono
open Go Go.RowKit

/-- the world has grown; of the old blocks only those of S may have changed -/
structure Chg (S : Nat → Prop) (w w' : World) : Prop where
  os : w'.os = w.os
  tape : w'.tape = w.tape
  output : w'.output = w.output
  size : w.heap.size ≤ w'.heap.size
  block : ∀ k, k < w.heap.size → ¬S k → w'.heap[k]? = w.heap[k]?
section
variable {S S' : Nat → Prop} {w w' w'' W : World}
theorem Chg.rfl' (S : Nat → Prop) (w : World) : Chg S w w := ⟨rfl, rfl, rfl, Nat.le_refl _, fun _ _ _ => rfl⟩
theorem Chg.tr (h : Chg S w w') (k : Chg S w' w'') : Chg S w w'' :=
  ⟨k.os.trans h.os, k.tape.trans h.tape, k.output.trans h.output, Nat.le_trans h.size k.size, fun b hb hS => (k.block b (Nat.lt_of_lt_of_le hb h.size) hS).trans (h.block b hb hS)⟩
theorem Chg.ext (h : Chg S w w') (k : Ext w' w'') : Chg S w w'' :=
  ⟨k.os.trans h.os, k.tape.trans h.tape, k.output.trans h.output, Nat.le_trans h.size k.size, fun b hb hS => (k.block b (Nat.lt_of_lt_of_le hb h.size)).trans (h.block b hb hS)⟩
theorem Ext.chg (h : Ext w w') (S : Nat → Prop) : Chg S w w' := ⟨h.os, h.tape, h.output, h.size, fun b hb _ => h.block b hb⟩
theorem Chg.gr (h : Chg S w w') {b : Nat} (k : w'.grownBy w'' (some b)) (hb : S b ∨ w.heap.size ≤ b) : Chg S w w'' :=
  ⟨k.os.trans h.os, k.tape.trans h.tape, k.output.trans h.output, Nat.le_trans h.size k.size, fun c hc hS => (k.block c (Nat.lt_of_lt_of_le hc h.size) (fun he => by
    cases he
    rcases hb with hb | hb
    · exact hS hb
    · omega)).trans (h.block c hc hS)⟩
theorem Chg.to (h : Chg S w w') (hS : ∀ b, b < w.heap.size → S b → S' b) : Chg S' w w' := ⟨h.os, h.tape, h.output, h.size, fun b hb hn => h.block b hb (fun hs => hn (hS b hb hs))⟩
/-- what changes lies behind the base -/
theorem Ext.ch (e : Ext W w) (h : Chg S w w') (hS : ∀ b, S b → W.heap.size ≤ b) : Ext W w' :=
  ⟨h.os.trans e.os, h.tape.trans e.tape, h.output.trans e.output, Nat.le_trans e.size h.size, fun b hb => (h.block b (Nat.lt_of_lt_of_le hb e.size) (fun hs => by have := hS b hs; omega)).trans (e.block b hb)⟩
theorem Blk.ch {b : Nat} {cs : Array Value} {t : TypeId} (h : Blk w b cs t) (k : Chg S w w') (hS : ¬S b) : Blk w' b cs t := (k.block b h.lt hS).trans h
class InS (G S : Nat → Prop) : Prop where
  in' : ∀ b, S b → G b
theorem Dv.ch {α : Type} {e : Enc α} {G : Nat → Prop} {x : α} {v : Value} (h : (Dv e G x).p v w) (k : Chg S w w') (hG : ∀ b, S b → G b) : (Dv e G x).p v w' := by
  obtain ⟨cs, h1, h2⟩ := h
  exact ⟨cs, e.pres h1 (fun b hb hn => k.block b hb (fun hs => hn (hG b hs))) k.size, h2⟩
class AvS (S : Nat → Prop) (A : VA) : Prop where
  av : ∀ v w w', Chg S w w' → A.p v w → A.p v w'
class AvSL (S : Nat → Prop) (L : Env) : Prop where
  av : ∀ t A, look L t = some A → ∀ v w w', Chg S w w' → A.p v w → A.p v w'
instance (S : Nat → Prop) (v : Value) : AvS S (E v) := ⟨fun _ _ _ _ h => h⟩
instance (S : Nat → Prop) : AvS S Any := ⟨fun _ _ _ _ h => h⟩
instance (S : Nat → Prop) {α : Type} (e : Enc α) (G : Nat → Prop) (x : α) [h : InS G S] : AvS S (Dv e G x) := ⟨fun v w w' k h1 => Dv.ch h1 k h.in'⟩
instance (S : Nat → Prop) : AvSL S [] := ⟨fun t A h => by simp [look] at h⟩
instance (S : Nat → Prop) (k : Nat) (A : VA) (L : Env) [h : AvS S A] [hl : AvSL S L] : AvSL S ((k, A) :: L) := ⟨fun t B ht => by
  by_cases hkt : k = t
  · subst hkt; rw [look_cons_same] at ht; cases ht; exact h.av
  · rw [look_cons_ne _ _ hkt] at ht; exact hl.av t B ht⟩
theorem FrD.ch {n : Nat} {ds : List Deferred} {a : Act} {L : Env} [h : AvSL S L] (hf : FrD n ds a w L) (k : Chg S w w') : FrD n ds a w' L :=
  ⟨hf.size, hf.defers, fun t A ht => h.av t A ht _ _ _ k (hf.val t A ht)⟩
end

section tail
variable {P : Program} {L : Env} {ty : TypeId} {pos : String} {aft : Array Edge} {r : Option Nat} {ds : List Deferred}
variable {ops : Array Oper} {rest : List Oper} {Q : Exit → Act → World → Prop} {n : Nat} {a : Act} {w : World} {x y : Operand}
/-- a call that changes blocks of S; F: what is known behind it -/
theorem tl_callV {S : Nat → Prop} {F : World → Prop} {fo : Operand} {id : FuncId} {caps : Array Value} {xs : Array Operand} {tys : Array TypeId} {A : VA} {d : Nat} (hf : FrD n ds a w L) [hL : AvSL S L] (hd : d < n) (he : Proofs.Enters P id) (hfo : opd L fo = some (E (.func (.func id) #[] caps)))
    (h : Calls P id (xs.map a.eval ++ caps) w (fun e w' => ∃ v, e = .returned v ∧ Chg S w w' ∧ A.p v w' ∧ F w'))
    (k : ∀ a' w', Chg S w w' → F w' → FrD n ds a' w' ((d, A) :: L) → wpListIn (FW r) 0 P ops Q rest a' w') :
    wpListIn (FW r) 0 P ops Q (⟨some d, .call ⟨.value fo, xs, tys⟩, ty, pos, aft, none⟩ :: rest) a w :=
  wpListIn_plain rfl fun K hK => by
    have hfv : a.eval fo = .func (.func id) #[] caps := hf.opd fo _ hfo
    have hrun : (execOp a.eval ⟨some d, .call ⟨.value fo, xs, tys⟩, ty, pos, aft, none⟩).run P w = .ok (.enter id (xs.map a.eval ++ caps)) w := by
      simp [execOp, resolve, hfv, Deferred.ofValue, invoke, he (xs.map a.eval ++ caps) w]
    refine OpR.wp (R := fun v w' => Chg S w w' ∧ A.p v w' ∧ F w') ?_ ?_
    · simp only [OpR, hrun]
      exact h
    · rintro v w' ⟨h1, h2, h3⟩
      exact hK _ _ (k _ _ h1 h3 ((hf.ch h1).put (d := some d) (Ext.rfl' _) (fun k hk => by cases hk; exact hd) h2))
theorem tl_callF {S : Nat → Prop} {F : World → Prop} {id : FuncId} {xs : Array Operand} {tys : Array TypeId} {A : VA} {d : Nat} (hf : FrD n ds a w L) [hL : AvSL S L] (hd : d < n) (he : Proofs.Enters P id)
    (h : Calls P id (xs.map a.eval) w (fun e w' => ∃ v, e = .returned v ∧ Chg S w w' ∧ A.p v w' ∧ F w'))
    (k : ∀ a' w', Chg S w w' → F w' → FrD n ds a' w' ((d, A) :: L) → wpListIn (FW r) 0 P ops Q rest a' w') :
    wpListIn (FW r) 0 P ops Q (⟨some d, .call ⟨.value (.func id), xs, tys⟩, ty, pos, aft, none⟩ :: rest) a w := by
  refine tl_callV (S := S) (F := F) (A := A) (caps := #[]) hf hd he rfl (by simpa using h) k
end tail
/-- numbers in cells -/
def intsC (l : List Int) : Array Value := (l.map (Value.int .i64)).toArray
theorem intsC_set (l : List Int) (p : Nat) (x : Int) : (intsC l).setIfInBounds p (.int .i64 x) = intsC (l.set p x) := by
  apply Array.toList_inj.1
  simp [intsC, List.map_set]
theorem intsC_size (l : List Int) : (intsC l).size = l.length := by simp [intsC]
end Go.Mono
namespace Go.Mono
open Go Go.RowKit
theorem Dv.gr {α : Type} {e : Enc α} {G : Nat → Prop} {x : α} {v : Value} {w w' : World} {b : Nat} (h : (Dv e G x).p v w) (hg : w.grownBy w' (some b)) (hb : G b) : (Dv e G x).p v w' := by
  obtain ⟨cs, h1, h2⟩ := h
  exact ⟨cs, Enc.gro h1 hg (fun c hc => by cases hc; exact hb), h2⟩
theorem Dv.ex {α : Type} {e : Enc α} {G : Nat → Prop} {x : α} {v : Value} {w w' : World} (h : (Dv e G x).p v w) (k : Ext w w') : (Dv e G x).p v w' := (Dv e G x).st _ _ _ k h
section
variable {P : Program} {w0 : World} {L : Env} {dst : Option Tmp} {ty : TypeId} {pos : String} {aft : Array Edge} {g : Option (Nat × Bool)}
theorem makeF1 {fn : Fn} {x1 : Operand} {v1 : Value} (h1 : opd L x1 = some (E v1)) : OpC P w0 L ⟨dst, .makeFunc fn #[] #[x1], ty, pos, aft, g⟩ (E (.func fn #[] #[v1])) :=
  opc_pure fun ρ w _ hv => ⟨_, by
    have a1 := opE hv (x := x1) (by simp [Op.operands]) h1
    simp [execOp, Instr.makeFunc, a1], rfl⟩
theorem makeF2 {fn : Fn} {x1 x2 : Operand} {v1 v2 : Value} (h1 : opd L x1 = some (E v1)) (h2 : opd L x2 = some (E v2)) : OpC P w0 L ⟨dst, .makeFunc fn #[] #[x1, x2], ty, pos, aft, g⟩ (E (.func fn #[] #[v1, v2])) :=
  opc_pure fun ρ w _ hv => ⟨_, by
    have a1 := opE hv (x := x1) (by simp [Op.operands]) h1
    have a2 := opE hv (x := x2) (by simp [Op.operands]) h2
    simp [execOp, Instr.makeFunc, a1, a2], rfl⟩
theorem makeF4 {fn : Fn} {x1 x2 x3 x4 : Operand} {v1 v2 v3 v4 : Value} (h1 : opd L x1 = some (E v1)) (h2 : opd L x2 = some (E v2)) (h3 : opd L x3 = some (E v3)) (h4 : opd L x4 = some (E v4)) : OpC P w0 L ⟨dst, .makeFunc fn #[] #[x1, x2, x3, x4], ty, pos, aft, g⟩ (E (.func fn #[] #[v1, v2, v3, v4])) :=
  opc_pure fun ρ w _ hv => ⟨_, by
    have a1 := opE hv (x := x1) (by simp [Op.operands]) h1
    have a2 := opE hv (x := x2) (by simp [Op.operands]) h2
    have a3 := opE hv (x := x3) (by simp [Op.operands]) h3
    have a4 := opE hv (x := x4) (by simp [Op.operands]) h4
    simp [execOp, Instr.makeFunc, a1, a2, a3, a4], rfl⟩
end
end Go.Mono
namespace Go.Mono
theorem Dv.slOne {α : Type} {e : Enc α} {G : Nat → Prop} {xs : List α} {v : Go.Value} {w : Go.World} (h : (Dv (slE e) G xs).p v w) : v.oneCell' = true := by
  rcases Dv.sl.1 h with ⟨rfl, _⟩ | ⟨ad, cap, cs, rfl, _⟩ <;> rfl
end Go.Mono
namespace Go.Mono
open Go Go.RowKit
/-- data of their own cells alone -/
class FlE {α : Type} (e : Enc α) : Prop where
  fl : ∀ {G G' w w' x cs}, e.r G w x cs → e.r G' w' x cs
instance {α : Type} (k : Nat) (agg : Bool) (f : α → List Value) (p1 p2 p3 p4) : FlE (flat k agg f p1 p2 p3 p4) := ⟨fun h => h⟩
instance : FlE intE := ⟨fun h => h⟩
instance : FlE boolE := ⟨fun h => h⟩
instance : FlE setE := ⟨fun h => h⟩
instance {α β : Type} (e : Enc α) (f : Enc β) [he : FlE e] [hf : FlE f] : FlE (prE e f) := ⟨fun ⟨c, d, h, h1, h2⟩ => ⟨c, d, h, he.fl h1, hf.fl h2⟩⟩
theorem Cells.fl {α : Type} {e : Enc α} [he : FlE e] {G G' : Nat → Prop} {w w' : World} : ∀ {xs : List α} {cs : List Value}, Cells e G w xs cs → Cells e G' w' xs cs
  | [], cs, h => h
  | x :: xs, cs, ⟨c, d, h, h1, h2⟩ => ⟨c, d, h, he.fl h1, Cells.fl h2⟩
theorem OwR.reG {α : Type} {e : Enc α} [he : FlE e] {ty : TypeId} {B : Nat} {G G' : Nat → Prop} {w : World} {xs : List α} {v : Value} (h : OwR e ty B G w xs v) (hG : ∀ b, G' b → b < B) : OwR e ty B G' w xs v := by
  obtain ⟨cs, h1, h2⟩ := h.own
  exact ⟨⟨cs, h1, Cells.fl h2⟩, hG, h.base⟩
theorem OwR.grE {α : Type} {e : Enc α} [he : FlE e] {ty : TypeId} {B : Nat} {G : Nat → Prop} {w w' : World} {xs : List α} {v : Value} {b : Nat} (h : OwR e ty B G w xs v) (hg : w.grownBy w' (some b)) (hne : v.ownBlock ≠ some b) : OwR e ty B G w' xs v := by
  obtain ⟨cs, h1, h2⟩ := h.own
  exact ⟨⟨cs, h1.kept hg (.inr hne), Cells.fl h2⟩, h.av, Nat.le_trans h.base hg.size⟩
section
variable {P : Program} {w0 : World} {L : Env} {dst : Option Tmp} {ty : TypeId} {pos : String} {aft : Array Edge} {g : Option (Nat × Bool)}
/-- s == nil -/
theorem eqlNil {x : Operand} {t yt te : TypeId} {ao : Option Addr} {n c : Nat} (ht : P.underlying t = some (.slice te)) (hx : opd L x = some (E (.slice ao n c))) :
    OpC P w0 L ⟨dst, .binOp .eql t x (.const (.slice none 0 0)) yt, ty, pos, aft, g⟩ (E (.bool ao.isNone)) :=
  opc_eql hx rfl (fun _ => rfl) rfl fun w _ => run_equal_slice_nil w t te ao n c ht
end
end Go.Mono

namespace Go.Mono
open Go Go.Proofs Go.RowKit

/-- the bags below p, as numbers -/
def kN (t : List (Int × BS)) (p : Nat) : List Nat := (List.range t.length).filter fun i => decide ((bg t i).1 = (p : Int))
theorem kidT_kN (t : List (Int × BS)) (p : Nat) : kidT t t.length p = (kN t p).map fun i : Nat => (i : Int) := rfl
/-- what the closure does: depths, how many -/
def dnF (ks : Nat → List Nat) : Nat → Nat → Int → List Int × Int → List Int × Int
  | 0, b, deep, s => (s.1.set b deep, s.2 + 1)
  | f + 1, b, deep, s => (ks b).foldl (fun s k => dnF ks f k (deep + 1) s) (s.1.set b deep, s.2 + 1)
/-- no chain down from b is longer -/
def hgt (ks : Nat → List Nat) : Nat → Nat → Prop
  | 0, b => ks b = []
  | f + 1, b => ∀ k ∈ ks b, hgt ks f k
theorem dnF_len (ks : Nat → List Nat) : ∀ f b deep s, (dnF ks f b deep s).1.length = s.1.length
  | 0, b, deep, s => by simp [dnF]
  | f + 1, b, deep, s => by
    rw [dnF]
    have : ∀ (l : List Nat) s, (l.foldl (fun s k => dnF ks f k (deep + 1) s) s).1.length = s.1.length := by
      intro l
      induction l with
      | nil => intro s; rfl
      | cons k l ih => intro s; rw [List.foldl_cons, ih, dnF_len ks f]
    rw [this]; simp
theorem dnF_le (ks : Nat → List Nat) : ∀ f b deep s, s.2 + 1 ≤ (dnF ks f b deep s).2
  | 0, b, deep, s => by simp [dnF]
  | f + 1, b, deep, s => by
    rw [dnF]
    have : ∀ (l : List Nat) s, s.2 ≤ (l.foldl (fun s k => dnF ks f k (deep + 1) s) s).2 := by
      intro l
      induction l with
      | nil => intro s; exact Int.le_refl _
      | cons k l ih =>
        intro s
        rw [List.foldl_cons]
        have := ih (dnF ks f k (deep + 1) s)
        have := dnF_le ks f k (deep + 1) s
        omega
    exact this _ _
theorem foldl_dn_le (ks : Nat → List Nat) (f : Nat) (deep : Int) : ∀ (l : List Nat) s, s.2 ≤ (l.foldl (fun s k => dnF ks f k deep s) s).2
  | [], s => Int.le_refl _
  | k :: l, s => by
    rw [List.foldl_cons]
    have := foldl_dn_le ks f deep l (dnF ks f k deep s)
    have := dnF_le ks f k deep s
    omega
theorem foldl_dn_len (ks : Nat → List Nat) (f : Nat) (deep : Int) : ∀ (l : List Nat) s, (l.foldl (fun s k => dnF ks f k deep s) s).1.length = s.1.length
  | [], s => rfl
  | k :: l, s => by rw [List.foldl_cons, foldl_dn_len ks f deep l, dnF_len]

theorem dnF_eq {ks : Nat → List Nat} {f b : Nat} {deep : Int} {s : List Int × Int} (h : hgt ks f b) : dnF ks f b deep s = (ks b).foldl (fun s k => dnF ks (f - 1) k (deep + 1) s) (s.1.set b deep, s.2 + 1) := by
  cases f with
  | zero => rw [show ks b = [] from h]; rfl
  | succ f => rfl
theorem hgt_kid {ks : Nat → List Nat} {f b k : Nat} (h : hgt ks f b) (hk : k ∈ ks b) : 0 < f ∧ hgt ks (f - 1) k := by
  cases f with
  | zero => rw [show ks b = [] from h] at hk; cases hk
  | succ f => exact ⟨Nat.succ_pos _, h k hk⟩
theorem mem_kN {t : List (Int × BS)} {b k : Nat} : k ∈ kN t b ↔ k < t.length ∧ (bg t k).1 = (b : Int) := by simp [kN]

def SD (ba bf : Nat) (b : Nat) : Prop := b = ba ∨ b = bf
/-- what stays as it is while the closure runs -/
structure DC (t : List (Int × BS)) (G : Nat → Prop) (ba bf bo bk bd : Nat) (kv : Value) (w : World) : Prop where
  o : Blk w bo #[.slice (some ⟨ba, 0, none⟩) t.length t.length] 59
  k : Blk w bk #[kv] 127
  d : Blk w bd #[.func (.func 123) #[] #[.pointer (some ⟨bo, 0, none⟩), .pointer (some ⟨bf, 0, none⟩), .pointer (some ⟨bk, 0, none⟩), .pointer (some ⟨bd, 0, none⟩)]] 172
  kd : (Dv (slE (slE intE)) G (belowT t)).p kv w
  g : ∀ b, SD ba bf b → G b
  ne : ba ≠ bf ∧ ¬SD ba bf bo ∧ ¬SD ba bf bk ∧ ¬SD ba bf bd
theorem DC.ch {t : List (Int × BS)} {G : Nat → Prop} {ba bf bo bk bd : Nat} {kv : Value} {w w' : World} (h : DC t G ba bf bo bk bd kv w) (c : Chg (SD ba bf) w w') : DC t G ba bf bo bk bd kv w' :=
  ⟨h.o.ch c h.ne.2.1, h.k.ch c h.ne.2.2.1, h.d.ch c h.ne.2.2.2, Dv.ch h.kd c h.g, h.g, h.ne⟩

theorem down_spec (t : List (Int × BS)) (G : Nat → Prop) (ba bf bo bk bd : Nat) (kv : Value) (hl : t.length ≤ 4096) : ∀ (f b : Nat) (deep : Int) (s : List Int × Int) (W : World), DC t G ba bf bo bk bd kv W → Blk W ba (intsC s.1) 3 → Blk W bf #[I s.2] 3 →
    hgt (kN t) f b → b < t.length → s.1.length = t.length → 0 ≤ s.2 → (dnF (kN t) f b deep s).2 ≤ 100000 → 0 ≤ deep → deep + f ≤ 100000 →
    Calls Tryz.prog 123 #[I (b : Nat), I deep, .pointer (some ⟨bo, 0, none⟩), .pointer (some ⟨bf, 0, none⟩), .pointer (some ⟨bk, 0, none⟩), .pointer (some ⟨bd, 0, none⟩)] W
      (fun e w' => ∃ v, e = .returned v ∧ Chg (SD ba bf) W w' ∧ Any.p v w' ∧ Blk w' ba (intsC (dnF (kN t) f b deep s).1) 3 ∧ Blk w' bf #[I (dnF (kN t) f b deep s).2] 3) := by
  intro f
  induction f using Nat.strongRecOn with
  | _ f ih =>
    intro b deep s W D BA BF hh hb hs h0 hle hd0 hdl
    have heq := dnF_eq (deep := deep) (s := s) hh
    refine enter (args := [I (b : Nat), I deep, .pointer (some ⟨bo, 0, none⟩), .pointer (some ⟨bf, 0, none⟩), .pointer (some ⟨bk, 0, none⟩), .pointer (some ⟨bd, 0, none⟩)]) (As := [E (I (b : Nat)), E (I deep), E (.pointer (some ⟨bo, 0, none⟩)), E (.pointer (some ⟨bf, 0, none⟩)), E (.pointer (some ⟨bk, 0, none⟩)), E (.pointer (some ⟨bd, 0, none⟩))]) Tryz.func123 rfl Tryz.ntmps123 (Nat.le_of_ble_eq_true rfl) ?_ (fun a hf => ?_) (Nat.le_of_ble_eq_true rfl)
    rotate_left
    dsimp only [params, Nat.reduceAdd] at hf
    rotate_right
    · exact argC rfl (argC rfl (argC rfl (argC rfl (argC rfl (argC rfl argZ)))))
    have c := Chg.rfl' (SD ba bf) W
    have hne := D.ne.1
    repeat refine seq ?_
    refine regn 4 hf (by decide +kernel) ?_
    refine st (ld1 T59 rfl D.o rfl) ?_
    refine st (mv rfl) ?_
    refine st (mv rfl) ?_
    refine st (idxS Tryz.underlying59 S3 rfl rfl (by omega)) ?_
    refine en fun a w e' hf => ?_
    replace D := D.ch (e'.chg _)
    replace c := c.ext e'
    replace BA := BA.ext e'
    replace BF := BF.ext e'
    clear e'
    refine tl_st1 T3 hf rfl rfl rfl BA (by simp [intsC_size]; omega) fun w hg hsz BA hf => ?_
    replace D := D.ch ((Chg.rfl' _ _).gr hg (.inl (by first | exact .inl rfl | exact .inr rfl)))
    replace c := c.gr hg (.inl (by first | exact .inl rfl | exact .inr rfl))
    replace BF := BF.gr hg (by omega)
    clear hg
    refine tl_nil ?_
    rw [show 0 + ((b : Nat) : Int).toNat * 1 = b by omega, intsC_set] at BA
    replace hf := hf.keep [0, 1, 2, 3, 4, 5]
    dsimp only [keep, List.filterMap, look, Nat.beq, Option.map] at hf
    have hsz := dnF_le (kN t) f b deep s
    repeat refine seq ?_
    refine regn 2 hf (by decide +kernel) ?_
    refine st (ld1 T3 rfl BF rfl) ?_
    refine st (add rfl rfl (by omega)) ?_
    refine en fun a w e' hf => ?_
    replace D := D.ch (e'.chg _)
    replace c := c.ext e'
    replace BA := BA.ext e'
    replace BF := BF.ext e'
    clear e'
    refine tl_st1 T3 hf rfl rfl rfl BF (by simp) fun w hg hsz BF hf => ?_
    replace D := D.ch ((Chg.rfl' _ _).gr hg (.inl (by first | exact .inl rfl | exact .inr rfl)))
    replace c := c.gr hg (.inl (by first | exact .inl rfl | exact .inr rfl))
    replace BA := BA.gr hg (by omega)
    clear hg
    refine tl_nil ?_
    rw [show (#[I s.2] : Array Value).setIfInBounds 0 (I (s.2 + 1)) = #[I (s.2 + 1)] from rfl] at BF
    replace hf := hf.keep [0, 1, 2, 3, 4, 5]
    dsimp only [keep, List.filterMap, look, Nat.beq, Option.map] at hf
    have hkb : (belowT t)[b]? = some (kidT t t.length b) := belowTo_get hb
    repeat refine seq ?_
    refine regn 6 hf (by decide +kernel) ?_
    refine st (ld1 T127 rfl D.k rfl) ?_
    refine st (mv rfl) ?_
    refine st (idxD Tryz.underlying127 S59 (isE rfl D.kd) rfl (by omega) (hkb)) ?_
    refine st (ldD T59 (isR rfl)) ?_
    refine st (lenD Tryz.underlying59 (isR rfl)) ?_
    refine st (mv rfl) ?_
    refine en fun a w e' hf => ?_
    replace D := D.ch (e'.chg _)
    replace c := c.ext e'
    replace BA := BA.ext e'
    replace BF := BF.ext e'
    clear e'
    refine tl_nil ?_
    obtain ⟨s1, hs1⟩ : ∃ s1 : List Int × Int, s1 = (s.1.set b deep, s.2 + 1) := ⟨_, rfl⟩
    have hs1l : s1.1.length = t.length := by rw [hs1]; simpa using hs
    have e1 : s.1.set b deep = s1.1 := by rw [hs1]
    have e2 : s.2 + 1 = s1.2 := by rw [hs1]
    rw [e1] at BA
    rw [e2] at BF
    have h01 : 0 ≤ s1.2 := by omega
    rw [← hs1] at heq
    have hkl : (kidT t t.length b).length = (kN t b).length := by rw [kidT_kN, List.length_map]
    have hkl2 : (kN t b).length ≤ t.length := by have := List.length_filter_le (fun i => decide ((bg t i).1 = (b : Int))) (List.range t.length); simpa [kN] using this
    clear e1 e2
    rw [hkl] at hf
    replace hf := hf.keep [0, 1, 2, 3, 4, 5, 19, 20, 21]
    dsimp only [keep, List.filterMap, look, Nat.beq, Option.map] at hf
    haveI hin : InS G (SD ba bf) := ⟨D.g⟩
    repeat refine seq ?_
    refine blk (loopN (fun r0 a w => ∃ (k : Nat), r0 = (kN t b).length - k ∧ k ≤ (kN t b).length ∧ Fr 31 a w [(0, E (I (b : Nat))), (1, E (I deep)), (2, E (.pointer (some ⟨bo, 0, none⟩))), (3, E (.pointer (some ⟨bf, 0, none⟩))), (4, E (.pointer (some ⟨bk, 0, none⟩))), (5, E (.pointer (some ⟨bd, 0, none⟩))), (19, Dv (slE intE) G (kidT t t.length b)), (20, E (I ((kN t b).length : Nat))), (21, E (I k))] ∧
      Chg (SD ba bf) W w ∧ DC t G ba bf bo bk bd kv w ∧ Blk w ba (intsC (((kN t b).take k).foldl (fun s k => dnF (kN t) (f - 1) k (deep + 1) s) s1).1) 3 ∧ Blk w bf #[I (((kN t b).take k).foldl (fun s k => dnF (kN t) (f - 1) k (deep + 1) s) s1).2] 3) (kN t b).length ⟨0, rfl, by omega, hf, c, D, BA, BF⟩ ?_)
    clear hf c D BA BF
    rintro r0 a w ⟨k, rfl, hk, hf, c, D, BA, BF⟩
    repeat refine seq ?_
    refine regn 1 hf (by decide +kernel) ?_
    refine st (lss rfl rfl) ?_
    refine en fun a w e' hf => ?_
    replace D := D.ch (e'.chg _)
    replace c := c.ext e'
    replace BA := BA.ext e'
    replace BF := BF.ext e'
    clear e'
    refine tl_nil ?_
    repeat refine seq ?_
    refine ifc hf rfl (fun hc => wskip ?_) (fun hc => wexit ?_)
    · have hlt : k < (kN t b).length := by have := of_decide_eq_true hc; omega
      clear hc
      replace hf := hf.keep [0, 1, 2, 3, 4, 5, 19, 20, 21]
      dsimp only [keep, List.filterMap, look, Nat.beq, Option.map] at hf
      obtain ⟨j, hj⟩ : ∃ j, (kN t b)[k]? = some j := ⟨_, List.getElem?_eq_getElem hlt⟩
      have hjm := List.mem_of_getElem? hj
      obtain ⟨hf0, hhj⟩ := hgt_kid hh hjm
      have hj' : (kidT t t.length b)[k]? = some (j : Int) := by rw [kidT_kN, List.getElem?_map, hj]; rfl
      have hstep : ((kN t b).take (k + 1)).foldl (fun s k => dnF (kN t) (f - 1) k (deep + 1) s) s1 = dnF (kN t) (f - 1) j (deep + 1) (((kN t b).take k).foldl (fun s k => dnF (kN t) (f - 1) k (deep + 1) s) s1) := by
        rw [take_succ_get hj, List.foldl_append]; rfl
      obtain ⟨sk, hsk⟩ : ∃ sk, sk = ((kN t b).take k).foldl (fun s k => dnF (kN t) (f - 1) k (deep + 1) s) s1 := ⟨_, rfl⟩
      have hskl : sk.1.length = t.length := by rw [hsk, foldl_dn_len]; exact hs1l
      have hsk0 : s1.2 ≤ sk.2 := by rw [hsk]; exact foldl_dn_le _ _ _ _ _
      have hskle : (dnF (kN t) (f - 1) j (deep + 1) sk).2 ≤ (dnF (kN t) f b deep s).2 := by
        rw [hsk, ← hstep, heq]
        conv => rhs; rw [← List.take_append_drop (k + 1) (kN t b), List.foldl_append]
        exact foldl_dn_le _ _ _ _ _
      rw [← hsk] at BA BF hstep
      repeat refine seq ?_
      refine blk ?_
      repeat refine seq ?_
      refine regn 2 hf (by decide +kernel) ?_
      refine st (idxD Tryz.underlying59 S3 (isR rfl) rfl (by omega) (hj')) ?_
      refine st (ldI T3 (isR rfl)) ?_
      refine en fun a w e' hf => ?_
      replace D := D.ch (e'.chg _)
      replace c := c.ext e'
      replace BA := BA.ext e'
      replace BF := BF.ext e'
      clear e'
      refine tl_as hf rfl (by decide) fun a hf => ?_
      refine tl_nil ?_
      replace hf := hf.keep [0, 1, 2, 3, 4, 5, 9, 19, 20, 21]
      dsimp only [keep, List.filterMap, look, Nat.beq, Option.map] at hf
      repeat refine seq ?_
      refine regn 4 hf (by decide +kernel) ?_
      refine st (ld1 T172 rfl D.d rfl) ?_
      refine st (mv rfl) ?_
      refine st (mv rfl) ?_
      refine st (add rfl rfl (by omega)) ?_
      refine en fun a w e' hf => ?_
      replace D := D.ch (e'.chg _)
      replace c := c.ext e'
      replace BA := BA.ext e'
      replace BF := BF.ext e'
      clear e'
      have v26 : a.eval (.tmp 26) = I (j : Nat) := hf.val 26 _ rfl
      have v28 : a.eval (.tmp 28) = I (deep + 1) := hf.val 28 _ rfl
      refine tl_callV (S := SD ba bf) (F := fun w' => Blk w' ba (intsC (dnF (kN t) (f - 1) j (deep + 1) sk).1) 3 ∧ Blk w' bf #[I (dnF (kN t) (f - 1) j (deep + 1) sk).2] 3) (A := Any) hf (by decide) En123 rfl ?_ fun a w hc hF hf => ?_
      · have := ih (f - 1) (by omega) j (deep + 1) sk w D BA BF hhj (mem_kN.1 hjm).1 hskl (by omega) (by omega) (by omega) (by omega)
        simpa [v26, v28] using this
      replace D := D.ch hc
      replace c := c.tr hc
      replace BA := hF.1
      replace BF := hF.2
      clear hc hF
      refine tl_nil ?_
      try simp only [Exit.then, Exit.inBlock, ↓reduceIte]
      replace hf := hf.keep [0, 1, 2, 3, 4, 5, 19, 20, 21]
      dsimp only [keep, List.filterMap, look, Nat.beq, Option.map] at hf
      repeat refine seq ?_
      refine regn 1 hf (by decide +kernel) ?_
      refine st ((add rfl rfl (by omega)).eq (congrArg (Value.int .i64) (show (k : Int) + 1 = ((k + 1 : Nat) : Int) from rfl))) ?_
      refine en fun a w e' hf => ?_
      replace D := D.ch (e'.chg _)
      replace c := c.ext e'
      replace BA := BA.ext e'
      replace BF := BF.ext e'
      clear e'
      refine tl_op hf (by decide) (mv rfl) fun a w e' hf => ?_
      replace D := D.ch (e'.chg _)
      replace c := c.ext e'
      replace BA := BA.ext e'
      replace BF := BF.ext e'
      clear e'
      refine tl_nil ?_
      replace hf := hf.keep [0, 1, 2, 3, 4, 5, 19, 20, 21]
      dsimp only [keep, List.filterMap, look, Nat.beq, Option.map] at hf
      exact ⟨(kN t b).length - (k + 1), by omega, k + 1, rfl, by omega, hf, c, D, by rw [hstep]; exact BA, by rw [hstep]; exact BF⟩
    · obtain rfl : k = (kN t b).length := by have := of_decide_eq_false hc; omega
      simp only [Exit.then, Exit.inBlock, ↓reduceIte]
      refine ret0n rfl hf ?_
      rw [List.take_length, ← heq] at BA BF
      exact ⟨_, rfl, c, trivial, BA, BF⟩
end Go.Mono

namespace Go.Mono
open Go Go.Proofs Go.RowKit

theorem ints_cells {G : Nat → Prop} {w : World} : ∀ l : List Int, Cells intE G w l (l.map (Value.int .i64))
  | [] => rfl
  | x :: l => ⟨[I x], l.map (Value.int .i64), rfl, rfl, ints_cells l⟩
theorem ints_dv {G : Nat → Prop} {w : World} {b : Nat} {l : List Int} {bt : TypeId} (h : Blk w b (intsC l) bt) (hG : ¬G b) : (Dv (slE intE) G l).p (.slice (some ⟨b, 0, none⟩) l.length l.length) w :=
  Dv.sl.2 (.inr ⟨_, l.length, l.map (Value.int .i64), rfl, Nat.le_refl _, hG, h.lt, ints_cells l, fun i u hu => by
    rw [Addr.add_lit, Nat.zero_add, h.cell i, intsC, List.getElem?_toArray]; exact hu⟩)
/-- the bags without one above -/
def rootN (t : List (Int × BS)) : List Nat := (List.range t.length).filter fun i => decide ((bg t i).1 = -1)
theorem rootsT_eq (t : List (Int × BS)) : rootsT t = (rootN t).map fun i : Nat => (i : Int) := rfl
def depthsF (t : List (Int × BS)) (f : Nat) (l : List Nat) : List Int × Int := l.foldl (fun s b => dnF (kN t) f b 0 s) (List.replicate t.length 0, 0)

theorem depths_spec {G : Nat → Prop} (t : List (Int × BS)) (f : Nat) (v : Value) (W : World) (h : (Dv treeE G t).p v W) (hG : ∀ b, G b → b < W.heap.size) (hl : t.length ≤ 4096) (hr : Rng t) (hh : ∀ b ∈ rootN t, hgt (kN t) f b) (hf : f ≤ 50000) (hle : (depthsF t f (rootN t)).2 ≤ 100000) :
    Calls Tryz.prog 68 #[v] W (Post (Tup [Dv (slE intE) G (depthsF t f (rootN t)).1, E (B ((depthsF t f (rootN t)).2 == (t.length : Nat)))]) W) := by
  have hfb := hf
  clear hf
  refine enter (args := [v]) (As := [Dv treeE (GB W G) t]) Tryz.func68 rfl Tryz.ntmps68 (Nat.le_of_ble_eq_true rfl) ?_ (fun a hf => ?_) (Nat.le_of_ble_eq_true rfl)
  rotate_left
  dsimp only [params, Nat.reduceAdd] at hf
  rotate_right
  · exact arg1 (Dv.toB h)
  have e := Ext.rfl' W
  repeat refine seq ?_
  refine regn0 ?_
  refine tl_as hf rfl (by decide) fun a hf => ?_
  refine tl_as hf rfl (by decide) fun a hf => ?_
  refine tl_nil ?_
  repeat refine seq ?_
  refine regn 2 hf (by decide +kernel) ?_
  refine st (mv rfl) ?_
  refine st (lenD Tryz.underlying23 (isR rfl)) ?_
  refine en fun a w e' hf => ?_
  replace e := Ext.tr e e'
  clear e'
  refine tl_mk Tryz.underlying59 I3 rfl hf (by decide) rfl (by omega) (by decide) fun a b12 w e' hb12 hs12 B12 hf => ?_
  have hle12 := Nat.le_trans e.size (Nat.le_of_eq hb12.symm)
  replace e := Ext.tr e e'
  clear e'
  refine tl_alloc I59 hf (by decide) fun a b4 w e' hb4 hs4 B4 hf => ?_
  have hle4 := Nat.le_trans e.size (Nat.le_of_eq hb4.symm)
  have lt4_B12 := B12.lt
  replace e := Ext.tr e e'
  replace B12 := B12.ext e'
  clear e'
  haveI hinr : ∀ G0, InR (GB W G0) (some b4) := fun G0 => InR.gb (by omega)
  refine tl_st1 T59 hf rfl rfl rfl B4 (by decide) fun w hg hsz B4 hf => ?_
  replace e := e.gr hg (by omega)
  replace B12 := B12.gr hg (by omega)
  clear hg
  refine tl_nil ?_
  have h12 : b12 ≠ b4 := by omega
  rw [show (List.replicate t.length (I 0)).toArray = intsC (List.replicate t.length 0) from by simp [intsC]] at B12
  have B4' : Blk w b4 #[.slice (some ⟨b12, 0, none⟩) t.length t.length] 59 := B4
  replace B4 := B4'; clear B4'
  replace hf := hf.keep [0, 4]
  dsimp only [keep, List.filterMap, look, Nat.beq, Option.map] at hf
  repeat refine seq ?_
  refine regn0 ?_
  refine tl_alloc I3 hf (by decide) fun a b5 w e' hb5 hs5 B5 hf => ?_
  have hle5 := Nat.le_trans e.size (Nat.le_of_eq hb5.symm)
  have lt5_B12 := B12.lt
  have lt5_B4 := B4.lt
  replace e := Ext.tr e e'
  replace B12 := B12.ext e'
  replace B4 := B4.ext e'
  clear e'
  haveI hinr : ∀ G0, InR (GB W G0) (some b5) := fun G0 => InR.gb (by omega)
  refine tl_st1 T3 hf rfl rfl rfl B5 (by decide) fun w hg hsz B5 hf => ?_
  replace e := e.gr hg (by omega)
  replace B12 := B12.gr hg (by omega)
  replace B4 := B4.gr hg (by omega)
  clear hg
  refine tl_nil ?_
  have B5' : Blk w b5 #[I 0] 3 := B5
  replace B5 := B5'; clear B5'
  have h5 : b5 ≠ b4 ∧ b5 ≠ b12 := by omega
  have hSD : ∀ b, SD b12 b5 b → b < w.heap.size := by
    have := B12.lt
    have := B5.lt
    rintro b (rfl | rfl) <;> assumption
  have hle12 : W.heap.size ≤ b12 := by omega
  have hSB : ∀ b, SD b12 b5 b → W.heap.size ≤ b := by rintro b (rfl | rfl) <;> omega
  haveI hinS : InS (GB W G) (SD b12 b5) := ⟨fun b hb => .inr (hSB b hb)⟩
  replace hf := hf.keep [0, 4, 5]
  dsimp only [keep, List.filterMap, look, Nat.beq, Option.map] at hf
  have l12 := B12.lt
  have l4 := B4.lt
  have l5 := B5.lt
  repeat refine seq ?_
  refine regn 2 hf (by decide +kernel) ?_
  refine st (mv rfl) ?_
  refine st (call1 En122 rfl (fun v u he h => below_spec (G := SD b12 b5) _ _ _ (Dv.weak h fun b _ hb => .inr (hSB b hb)) (fun b hb => Nat.lt_of_lt_of_le (hSD b hb) he.size) hl hr)) ?_
  refine en fun a w e' hf => ?_
  replace e := Ext.tr e e'
  replace B12 := B12.ext e'
  replace B4 := B4.ext e'
  replace B5 := B5.ext e'
  clear e'
  obtain ⟨kv, KD, hf⟩ := hf.fix 14 rfl
  obtain ⟨N, hN⟩ : ∃ N, N = w.heap.size := ⟨_, rfl⟩
  have KD' : (Dv (slE (slE intE)) (fun b => SD b12 b5 b ∨ N ≤ b) (belowT t)).p kv w := Dv.weak KD fun b hb hg => hg.elim id fun hg => by omega
  replace KD := KD'
  clear KD'
  replace hf := hf.keep [0, 4, 5, 14]
  dsimp only [keep, List.filterMap, look, Nat.beq, Option.map] at hf
  have l12 := B12.lt
  have l4 := B4.lt
  have l5 := B5.lt
  have hkv := Dv.slOne KD
  refine tl_alloc I127 hf (by decide) fun a b6 w e' hb6 hs6 B6 hf => ?_
  have hle6 := Nat.le_trans e.size (Nat.le_of_eq hb6.symm)
  have lt6_B12 := B12.lt
  have lt6_B4 := B4.lt
  have lt6_B5 := B5.lt
  replace KD := Dv.ex KD e'
  replace e := Ext.tr e e'
  replace B12 := B12.ext e'
  replace B4 := B4.ext e'
  replace B5 := B5.ext e'
  clear e'
  haveI hinr : ∀ G0, InR (GB W G0) (some b6) := fun G0 => InR.gb (by omega)
  refine tl_st1 T127 hf rfl rfl (hkv) B6 (by decide) fun w hg hsz B6 hf => ?_
  replace KD := Dv.gr KD hg (.inr (by omega))
  replace e := e.gr hg (by omega)
  replace B12 := B12.gr hg (by omega)
  replace B4 := B4.gr hg (by omega)
  replace B5 := B5.gr hg (by omega)
  clear hg
  refine tl_nil ?_
  have B6' : Blk w b6 #[kv] 127 := B6
  replace B6 := B6'; clear B6'
  replace hf := hf.keep [0, 4, 5, 6]
  dsimp only [keep, List.filterMap, look, Nat.beq, Option.map] at hf
  repeat refine seq ?_
  refine regn0 ?_
  refine tl_alloc I172 hf (by decide) fun a b7 w e' hb7 hs7 B7 hf => ?_
  have hle7 := Nat.le_trans e.size (Nat.le_of_eq hb7.symm)
  have lt7_B12 := B12.lt
  have lt7_B4 := B4.lt
  have lt7_B5 := B5.lt
  have lt7_B6 := B6.lt
  replace KD := Dv.ex KD e'
  replace e := Ext.tr e e'
  replace B12 := B12.ext e'
  replace B4 := B4.ext e'
  replace B5 := B5.ext e'
  replace B6 := B6.ext e'
  clear e'
  refine tl_nil ?_
  replace hf := hf.keep [0, 4, 5, 6, 7]
  dsimp only [keep, List.filterMap, look, Nat.beq, Option.map] at hf
  have h7 : b7 ≠ b4 ∧ b7 ≠ b5 ∧ b7 ≠ b12 ∧ b7 ≠ b6 := by omega
  repeat refine seq ?_
  refine regn 1 hf (by decide +kernel) ?_
  refine st (makeF4 rfl rfl rfl rfl) ?_
  refine en fun a w e' hf => ?_
  replace KD := Dv.ex KD e'
  replace e := Ext.tr e e'
  replace B12 := B12.ext e'
  replace B4 := B4.ext e'
  replace B5 := B5.ext e'
  replace B6 := B6.ext e'
  replace B7 := B7.ext e'
  clear e'
  haveI hinr : ∀ G0, InR (GB W G0) (some b7) := fun G0 => InR.gb (by omega)
  refine tl_st1 T172 hf rfl rfl rfl B7 (by decide) fun w hg hsz B7 hf => ?_
  replace KD := Dv.gr KD hg (.inr (by omega))
  replace e := e.gr hg (by omega)
  replace B12 := B12.gr hg (by omega)
  replace B4 := B4.gr hg (by omega)
  replace B5 := B5.gr hg (by omega)
  replace B6 := B6.gr hg (by omega)
  clear hg
  refine tl_nil ?_
  have D : DC t (fun b => SD b12 b5 b ∨ N ≤ b) b12 b5 b4 b6 b7 kv w :=
    ⟨B4, B6, B7, KD, fun b hb => .inl hb, by omega, by unfold SD; omega, by unfold SD; omega, by unfold SD; omega⟩
  clear B4 B6 B7 KD
  have hrl : (rootsT t).length = (rootN t).length := by rw [rootsT_eq, List.length_map]
  have hrl2 : (rootN t).length ≤ t.length := by have := List.length_filter_le (fun i => decide ((bg t i).1 = -1)) (List.range t.length); simpa [rootN] using this
  have hSD' : ∀ b, SD b12 b5 b → b < w.heap.size := by
    have := B12.lt
    have := B5.lt
    rintro b (rfl | rfl) <;> assumption
  replace hf := hf.keep [0, 4, 5, 6, 7]
  dsimp only [keep, List.filterMap, look, Nat.beq, Option.map] at hf
  repeat refine seq ?_
  refine regn 4 hf (by decide +kernel) ?_
  refine st (mv rfl) ?_
  refine st (call1 En67 rfl (fun v u he h => roots_spec (G := SD b12 b5) _ _ _ (Dv.weak h fun b _ hb => .inr (hSB b hb)) (fun b hb => Nat.lt_of_lt_of_le (hSD' b hb) he.size) hl)) ?_
  refine st (lenD Tryz.underlying59 (isR rfl)) ?_
  refine st (mv rfl) ?_
  refine en fun a w e' hf => ?_
  replace D := D.ch (e'.chg _)
  replace e := Ext.tr e e'
  replace B12 := B12.ext e'
  replace B5 := B5.ext e'
  clear e'
  refine tl_nil ?_
  haveI hinS2 : InS (SD b12 b5) (SD b12 b5) := ⟨fun b hb => hb⟩
  rw [hrl] at hf
  replace hf := hf.keep [0, 4, 5, 7, 17, 18, 19]
  dsimp only [keep, List.filterMap, look, Nat.beq, Option.map] at hf
  repeat refine seq ?_
  refine blk (loopN (fun r0 a w => ∃ (k : Nat), r0 = (rootN t).length - k ∧ k ≤ (rootN t).length ∧ Fr 32 a w [(0, Dv treeE (GB W G) t), (4, E (.pointer (some ⟨b4, 0, none⟩))), (5, E (.pointer (some ⟨b5, 0, none⟩))), (7, E (.pointer (some ⟨b7, 0, none⟩))), (17, Dv (slE intE) (SD b12 b5) (rootsT t)), (18, E (I ((rootN t).length : Nat))), (19, E (I k))] ∧
      Ext W w ∧ DC t (fun b => SD b12 b5 b ∨ N ≤ b) b12 b5 b4 b6 b7 kv w ∧ Blk w b12 (intsC (depthsF t f ((rootN t).take k)).1) 3 ∧ Blk w b5 #[I (depthsF t f ((rootN t).take k)).2] 3) (rootN t).length ⟨0, rfl, by omega, hf, e, D, B12, B5⟩ ?_)
  clear hf e D B12 B5
  rintro r0 a w ⟨k, rfl, hk, hf, e, D, B12, B5⟩
  repeat refine seq ?_
  refine regn 1 hf (by decide +kernel) ?_
  refine st (lss rfl rfl) ?_
  refine en fun a w e' hf => ?_
  replace D := D.ch (e'.chg _)
  replace e := Ext.tr e e'
  replace B12 := B12.ext e'
  replace B5 := B5.ext e'
  clear e'
  refine tl_nil ?_
  repeat refine seq ?_
  refine ifc hf rfl (fun hc => wskip ?_) (fun hc => wexit ?_)
  · have hlt : k < (rootN t).length := by have := of_decide_eq_true hc; omega
    clear hc
    replace hf := hf.keep [0, 4, 5, 7, 17, 18, 19]
    dsimp only [keep, List.filterMap, look, Nat.beq, Option.map] at hf
    obtain ⟨j, hj⟩ : ∃ j, (rootN t)[k]? = some j := ⟨_, List.getElem?_eq_getElem hlt⟩
    have hjm := List.mem_of_getElem? hj
    have hj' : (rootsT t)[k]? = some (j : Int) := by rw [rootsT_eq, List.getElem?_map, hj]; rfl
    have hjl : j < t.length := by have := List.mem_filter.1 hjm; simpa using this.1
    obtain ⟨sk, hsk⟩ : ∃ sk, sk = depthsF t f ((rootN t).take k) := ⟨_, rfl⟩
    have hstep : depthsF t f ((rootN t).take (k + 1)) = dnF (kN t) f j 0 sk := by
      rw [hsk, depthsF, depthsF, take_succ_get hj, List.foldl_append]; rfl
    have hskl : sk.1.length = t.length := by rw [hsk, depthsF, foldl_dn_len]; simp
    have hsk0 : 0 ≤ sk.2 := by rw [hsk]; exact foldl_dn_le _ _ _ _ _
    have hskle : (dnF (kN t) f j 0 sk).2 ≤ (depthsF t f (rootN t)).2 := by
      rw [← hstep, depthsF, depthsF]
      conv => rhs; rw [← List.take_append_drop (k + 1) (rootN t), List.foldl_append]
      exact foldl_dn_le _ _ _ _ _
    rw [← hsk] at B12 B5
    repeat refine seq ?_
    refine blk ?_
    repeat refine seq ?_
    refine regn 2 hf (by decide +kernel) ?_
    refine st (idxD Tryz.underlying59 S3 (isR rfl) rfl (by omega) (hj')) ?_
    refine st (ldI T3 (isR rfl)) ?_
    refine en fun a w e' hf => ?_
    replace D := D.ch (e'.chg _)
    replace e := Ext.tr e e'
    replace B12 := B12.ext e'
    replace B5 := B5.ext e'
    clear e'
    refine tl_as hf rfl (by decide) fun a hf => ?_
    refine tl_nil ?_
    replace hf := hf.keep [0, 4, 5, 7, 9, 17, 18, 19]
    dsimp only [keep, List.filterMap, look, Nat.beq, Option.map] at hf
    repeat refine seq ?_
    refine regn 2 hf (by decide +kernel) ?_
    refine st (ld1 T172 rfl D.d rfl) ?_
    refine st (mv rfl) ?_
    refine en fun a w e' hf => ?_
    replace D := D.ch (e'.chg _)
    replace e := Ext.tr e e'
    replace B12 := B12.ext e'
    replace B5 := B5.ext e'
    clear e'
    have v24 : a.eval (.tmp 24) = I (j : Nat) := hf.val 24 _ rfl
    refine tl_callV (S := SD b12 b5) (F := fun w' => Blk w' b12 (intsC (dnF (kN t) f j 0 sk).1) 3 ∧ Blk w' b5 #[I (dnF (kN t) f j 0 sk).2] 3) (A := Any) hf (by decide) En123 rfl ?_ fun a w hc hF hf => ?_
    · have := down_spec t _ b12 b5 b4 b6 b7 kv hl f j 0 sk w D B12 B5 (hh j hjm) hjl hskl hsk0 (by omega) (by omega) (by omega)
      have vc : a.eval (.const (I 0)) = I 0 := rfl
      simpa [v24, vc] using this
    replace D := D.ch hc
    replace e := e.ch hc hSB
    replace B12 := hF.1
    replace B5 := hF.2
    clear hc hF
    refine tl_nil ?_
    try simp only [Exit.then, Exit.inBlock, ↓reduceIte]
    replace hf := hf.keep [0, 4, 5, 7, 17, 18, 19]
    dsimp only [keep, List.filterMap, look, Nat.beq, Option.map] at hf
    repeat refine seq ?_
    refine regn 1 hf (by decide +kernel) ?_
    refine st ((add rfl rfl (by omega)).eq (congrArg (Value.int .i64) (show (k : Int) + 1 = ((k + 1 : Nat) : Int) from rfl))) ?_
    refine en fun a w e' hf => ?_
    replace D := D.ch (e'.chg _)
    replace e := Ext.tr e e'
    replace B12 := B12.ext e'
    replace B5 := B5.ext e'
    clear e'
    refine tl_op hf (by decide) (mv rfl) fun a w e' hf => ?_
    replace D := D.ch (e'.chg _)
    replace e := Ext.tr e e'
    replace B12 := B12.ext e'
    replace B5 := B5.ext e'
    clear e'
    refine tl_nil ?_
    replace hf := hf.keep [0, 4, 5, 7, 17, 18, 19]
    dsimp only [keep, List.filterMap, look, Nat.beq, Option.map] at hf
    exact ⟨(rootN t).length - (k + 1), by omega, k + 1, rfl, by omega, hf, e, D, by rw [hstep]; exact B12, by rw [hstep]; exact B5⟩
  · obtain rfl : k = (rootN t).length := by have := of_decide_eq_false hc; omega
    simp only [Exit.then, Exit.inBlock, ↓reduceIte]
    rw [List.take_length] at B12 B5
    replace hf := hf.keep [0, 4, 5]
    dsimp only [keep, List.filterMap, look, Nat.beq, Option.map] at hf
    repeat refine seq ?_
    refine reg 7 Mix.mix hf (by decide +kernel) ?_
    refine st (ld1 T59 rfl D.o rfl) ?_
    refine st (ld1 T3 rfl B5 rfl) ?_
    refine st (mv rfl) ?_
    refine st (lenD Tryz.underlying23 (isR rfl)) ?_
    refine st (eql rfl rfl) ?_
    refine st (asg rfl) ?_
    refine st (asg rfl) ?_
    refine en fun a w e' hf => ?_
    replace D := D.ch (e'.chg _)
    replace e := Ext.tr e e'
    replace B12 := B12.ext e'
    replace B5 := B5.ext e'
    clear e'
    refine tl_nil ?_
    refine wret ?_
    refine ret2 rfl hf rfl rfl ?_
    rintro _ _ rfl rfl
    have hlen : (depthsF t f (rootN t)).1.length = t.length := by rw [depthsF, foldl_dn_len]; simp
    refine ⟨_, rfl, e, Tup.two ?_ rfl⟩
    have := ints_dv (G := G) B12 (fun hg => by have := hG _ hg; omega)
    rwa [hlen] at this
end Go.Mono

namespace Go.Mono
open Go Go.Proofs Go.RowKit
theorem union_spec (S T : BS) (W : World) : Calls Tryz.prog 59 #[setV S, setV T] W (Post (E (setV (S |||T))) W) := by
  refine enter (args := [setV S, setV T]) (As := [E (setV S), E (setV T)]) Tryz.func59 rfl Tryz.ntmps59 (Nat.le_of_ble_eq_true rfl) ?_ (fun a hf => ?_) (Nat.le_of_ble_eq_true rfl)
  rotate_left
  dsimp only [params, Nat.reduceAdd] at hf
  rotate_right
  · exact arg2 rfl rfl
  have e := Ext.rfl' W
  repeat refine seq ?_
  refine regn0 ?_
  refine tl_box hf rfl (by decide) fun a b2 w v2 hv2 e' hb2 hs2 B2 hf => ?_
  have hle2 := Nat.le_trans e.size (Nat.le_of_eq hb2.symm)
  replace e := Ext.tr e e'
  clear e'
  refine tl_box hf rfl (by decide) fun a b3 w v3 hv3 e' hb3 hs3 B3 hf => ?_
  have hle3 := Nat.le_trans e.size (Nat.le_of_eq hb3.symm)
  have lt3_B2 := B2.lt
  replace e := Ext.tr e e'
  replace B2 := B2.ext e'
  clear e'
  refine tl_alloc I67 hf (by decide) fun a b4 w e' hb4 hs4 B4 hf => ?_
  have hle4 := Nat.le_trans e.size (Nat.le_of_eq hb4.symm)
  have lt4_B2 := B2.lt
  have lt4_B3 := B3.lt
  replace e := Ext.tr e e'
  replace B2 := B2.ext e'
  replace B3 := B3.ext e'
  clear e'
  refine tl_nil ?_
  subst hv2
  subst hv3
  rw [setV_cells] at B2 B3
  simp only [Value.cells, zeroC] at B4
  repeat refine seq ?_
  refine regn 1 hf (by decide +kernel) ?_
  refine st (mv rfl) ?_
  refine en fun a w e' hf => ?_
  replace e := Ext.tr e e'
  replace B2 := B2.ext e'
  replace B3 := B3.ext e'
  replace B4 := B4.ext e'
  clear e'
  refine tl_nil ?_
  replace hf := hf.keep [2, 3, 4, 6]
  dsimp only [keep, List.filterMap, look, Nat.beq, Option.map] at hf
  repeat refine seq ?_
  refine blk (loopN (fun r a w => ∃ k : Nat, r = 16 - k ∧ k ≤ 16 ∧ Fr 19 a w [(2, E (.pointer (some ⟨b2, 0, none⟩))), (3, E (.pointer (some ⟨b3, 0, none⟩))), (4, E (.pointer (some ⟨b4, 0, none⟩))), (6, E (I k))] ∧ Ext W w ∧
    Blk w b2 (wordsC fun i => if i < k then word S i ||| word T i else word S i) 67 ∧ Blk w b3 (setC T) 67 ∧ Blk w b4 (setC 0) 67) 16 ⟨0, rfl, by omega, hf, e, ?_, B3, B4⟩ ?_)
  · simpa [setC] using B2
  clear hf e B2 B3 B4
  rintro r a w ⟨k, rfl, hk, hf, e, B2, B3, B4⟩
  by_cases hlt : k < 16
  · repeat refine seq ?_
    refine regn 1 hf (by decide +kernel) ?_
    refine st ((lss rfl rfl).eq (congrArg Value.bool (show decide ((k : Int) < 16) = true from decide_eq_true (by omega)))) ?_
    refine en fun a w e' hf => ?_
    replace e := Ext.tr e e'
    replace B2 := B2.ext e'
    replace B3 := B3.ext e'
    replace B4 := B4.ext e'
    clear e'
    refine tl_nil ?_
    repeat refine seq ?_
    refine ifc hf rfl (fun _ => wskip ?_) (fun h => by cases h)
    repeat refine seq ?_
    refine blk ?_
    repeat refine seq ?_
    refine regn 1 hf (by decide +kernel) ?_
    refine st (mv rfl) ?_
    refine en fun a w e' hf => ?_
    replace e := Ext.tr e e'
    replace B2 := B2.ext e'
    replace B3 := B3.ext e'
    replace B4 := B4.ext e'
    clear e'
    refine tl_as hf rfl (by decide) fun a hf => ?_
    refine tl_nil ?_
    have g2 : (wordsC fun i => if i < k then word S i ||| word T i else word S i)[k]? = some (Mono.W (word S k)) := by rw [wordsC_get _ _ hlt]; simp
    repeat refine seq ?_
    refine reg 8 Mix.mix hf (by decide +kernel) ?_
    refine st (mv rfl) ?_
    refine st (idxA Tryz.underlying67 ⟨_, T65⟩ rfl rfl (by omega)) ?_
    refine st (ld1 T65 rfl B2 (by simpa using g2)) ?_
    refine st (mv rfl) ?_
    refine st (idxA Tryz.underlying67 ⟨_, T65⟩ rfl rfl (by omega)) ?_
    refine st (ld1 T65 rfl B3 (by simpa [setC] using wordsC_get (word T) k hlt)) ?_
    refine st (orW rfl rfl) ?_
    refine st (idxA Tryz.underlying67 ⟨_, T65⟩ rfl rfl (by omega)) ?_
    refine en fun a w e' hf => ?_
    replace e := Ext.tr e e'
    replace B2 := B2.ext e'
    replace B3 := B3.ext e'
    replace B4 := B4.ext e'
    clear e'
    refine tl_st1 T65 hf rfl rfl rfl B2 (by rw [wordsC_size]; simp; omega) fun w hg hsz B2 hf => ?_
    replace e := e.gr hg (by omega)
    replace B3 := B3.gr hg (by omega)
    replace B4 := B4.gr hg (by omega)
    clear hg
    refine tl_nil ?_
    replace B2 : Blk w b2 (wordsC fun i => if i < k + 1 then word S i ||| word T i else word S i) 67 := by
      have : (wordsC fun i => if i < k then word S i ||| word T i else word S i).setIfInBounds k (Mono.W (word S k ||| word T k)) = wordsC fun i => if i < k + 1 then word S i ||| word T i else word S i := by
        rw [wordsC_set]
        refine wordsC_congr fun i hi => ?_
        by_cases h1 : i = k
        · subst h1; simp
        · simp only [h1, if_false]
          by_cases h2 : i < k
          · simp [h2, show i < k + 1 by omega]
          · simp [h2, show ¬ i < k + 1 by omega]
      rw [← this]
      simpa using B2
    replace hf := hf.keep [2, 3, 4, 6]
    dsimp only [keep, List.filterMap, look, Nat.beq, Option.map] at hf
    repeat refine seq ?_
    refine regn 1 hf (by decide +kernel) ?_
    refine st (add rfl rfl (by omega)) ?_
    refine en fun a w e' hf => ?_
    replace e := Ext.tr e e'
    replace B2 := B2.ext e'
    replace B3 := B3.ext e'
    replace B4 := B4.ext e'
    clear e'
    refine tl_op hf (by decide) (mv rfl) fun a w e' hf => ?_
    replace e := Ext.tr e e'
    replace B2 := B2.ext e'
    replace B3 := B3.ext e'
    replace B4 := B4.ext e'
    clear e'
    refine tl_nil ?_
    replace hf := hf.keep [2, 3, 4, 6]
    dsimp only [keep, List.filterMap, look, Nat.beq, Option.map] at hf
    exact ⟨16 - (k + 1), by omega, k + 1, rfl, by omega, by simpa using hf, e, B2, B3, B4⟩
  · obtain rfl : k = 16 := by omega
    repeat refine seq ?_
    refine regn 1 hf (by decide +kernel) ?_
    refine st ((lss rfl rfl).eq (congrArg Value.bool (show decide (((16 : Nat) : Int) < 16) = false from rfl))) ?_
    refine en fun a w e' hf => ?_
    replace e := Ext.tr e e'
    replace B2 := B2.ext e'
    replace B3 := B3.ext e'
    replace B4 := B4.ext e'
    clear e'
    refine tl_nil ?_
    repeat refine seq ?_
    refine ifc hf rfl (fun h => by cases h) (fun _ => wexit ?_)
    simp only [Exit.then, Exit.inBlock, ↓reduceIte]
    have hC : (wordsC fun i => if i < 16 then word S i ||| word T i else word S i) = setC (S |||T) := wordsC_congr fun i hi => by
      simp only [hi, if_true, word_or]
    rw [hC] at B2
    repeat refine seq ?_
    refine regn 1 hf (by decide +kernel) ?_
    refine st (ldW T67 rfl (by assumption) rfl) ?_
    refine en fun a w e' hf => ?_
    replace e := Ext.tr e e'
    replace B2 := B2.ext e'
    replace B3 := B3.ext e'
    replace B4 := B4.ext e'
    clear e'
    haveI hinr : ∀ G0, InR (GB W G0) (some b4) := fun G0 => InR.gb (by omega)
    refine tl_stW T67 hf rfl rfl (wordsC_one _) B4 rfl (rfl) fun w hg hsz B4 hf => ?_
    replace e := e.gr hg (by omega)
    replace B2 := B2.gr hg (by omega)
    replace B3 := B3.gr hg (by omega)
    clear hg
    refine tl_nil ?_
    refine wret (retS rfl T67 hf rfl B4 e rfl)

theorem inter_spec (S T : BS) (W : World) : Calls Tryz.prog 70 #[setV S, setV T] W (Post (E (setV (S &&&T))) W) := by
  refine enter (args := [setV S, setV T]) (As := [E (setV S), E (setV T)]) Tryz.func70 rfl Tryz.ntmps70 (Nat.le_of_ble_eq_true rfl) ?_ (fun a hf => ?_) (Nat.le_of_ble_eq_true rfl)
  rotate_left
  dsimp only [params, Nat.reduceAdd] at hf
  rotate_right
  · exact arg2 rfl rfl
  have e := Ext.rfl' W
  repeat refine seq ?_
  refine regn0 ?_
  refine tl_box hf rfl (by decide) fun a b2 w v2 hv2 e' hb2 hs2 B2 hf => ?_
  have hle2 := Nat.le_trans e.size (Nat.le_of_eq hb2.symm)
  replace e := Ext.tr e e'
  clear e'
  refine tl_box hf rfl (by decide) fun a b3 w v3 hv3 e' hb3 hs3 B3 hf => ?_
  have hle3 := Nat.le_trans e.size (Nat.le_of_eq hb3.symm)
  have lt3_B2 := B2.lt
  replace e := Ext.tr e e'
  replace B2 := B2.ext e'
  clear e'
  refine tl_alloc I67 hf (by decide) fun a b4 w e' hb4 hs4 B4 hf => ?_
  have hle4 := Nat.le_trans e.size (Nat.le_of_eq hb4.symm)
  have lt4_B2 := B2.lt
  have lt4_B3 := B3.lt
  replace e := Ext.tr e e'
  replace B2 := B2.ext e'
  replace B3 := B3.ext e'
  clear e'
  refine tl_nil ?_
  subst hv2
  subst hv3
  rw [setV_cells] at B2 B3
  simp only [Value.cells, zeroC] at B4
  repeat refine seq ?_
  refine regn 1 hf (by decide +kernel) ?_
  refine st (mv rfl) ?_
  refine en fun a w e' hf => ?_
  replace e := Ext.tr e e'
  replace B2 := B2.ext e'
  replace B3 := B3.ext e'
  replace B4 := B4.ext e'
  clear e'
  refine tl_nil ?_
  replace hf := hf.keep [2, 3, 4, 6]
  dsimp only [keep, List.filterMap, look, Nat.beq, Option.map] at hf
  repeat refine seq ?_
  refine blk (loopN (fun r a w => ∃ k : Nat, r = 16 - k ∧ k ≤ 16 ∧ Fr 19 a w [(2, E (.pointer (some ⟨b2, 0, none⟩))), (3, E (.pointer (some ⟨b3, 0, none⟩))), (4, E (.pointer (some ⟨b4, 0, none⟩))), (6, E (I k))] ∧ Ext W w ∧
    Blk w b2 (wordsC fun i => if i < k then word S i &&& word T i else word S i) 67 ∧ Blk w b3 (setC T) 67 ∧ Blk w b4 (setC 0) 67) 16 ⟨0, rfl, by omega, hf, e, ?_, B3, B4⟩ ?_)
  · simpa [setC] using B2
  clear hf e B2 B3 B4
  rintro r a w ⟨k, rfl, hk, hf, e, B2, B3, B4⟩
  by_cases hlt : k < 16
  · repeat refine seq ?_
    refine regn 1 hf (by decide +kernel) ?_
    refine st ((lss rfl rfl).eq (congrArg Value.bool (show decide ((k : Int) < 16) = true from decide_eq_true (by omega)))) ?_
    refine en fun a w e' hf => ?_
    replace e := Ext.tr e e'
    replace B2 := B2.ext e'
    replace B3 := B3.ext e'
    replace B4 := B4.ext e'
    clear e'
    refine tl_nil ?_
    repeat refine seq ?_
    refine ifc hf rfl (fun _ => wskip ?_) (fun h => by cases h)
    repeat refine seq ?_
    refine blk ?_
    repeat refine seq ?_
    refine regn 1 hf (by decide +kernel) ?_
    refine st (mv rfl) ?_
    refine en fun a w e' hf => ?_
    replace e := Ext.tr e e'
    replace B2 := B2.ext e'
    replace B3 := B3.ext e'
    replace B4 := B4.ext e'
    clear e'
    refine tl_as hf rfl (by decide) fun a hf => ?_
    refine tl_nil ?_
    have g2 : (wordsC fun i => if i < k then word S i &&& word T i else word S i)[k]? = some (Mono.W (word S k)) := by rw [wordsC_get _ _ hlt]; simp
    repeat refine seq ?_
    refine reg 8 Mix.mix hf (by decide +kernel) ?_
    refine st (mv rfl) ?_
    refine st (idxA Tryz.underlying67 ⟨_, T65⟩ rfl rfl (by omega)) ?_
    refine st (ld1 T65 rfl B2 (by simpa using g2)) ?_
    refine st (mv rfl) ?_
    refine st (idxA Tryz.underlying67 ⟨_, T65⟩ rfl rfl (by omega)) ?_
    refine st (ld1 T65 rfl B3 (by simpa [setC] using wordsC_get (word T) k hlt)) ?_
    refine st (andW rfl rfl) ?_
    refine st (idxA Tryz.underlying67 ⟨_, T65⟩ rfl rfl (by omega)) ?_
    refine en fun a w e' hf => ?_
    replace e := Ext.tr e e'
    replace B2 := B2.ext e'
    replace B3 := B3.ext e'
    replace B4 := B4.ext e'
    clear e'
    refine tl_st1 T65 hf rfl rfl rfl B2 (by rw [wordsC_size]; simp; omega) fun w hg hsz B2 hf => ?_
    replace e := e.gr hg (by omega)
    replace B3 := B3.gr hg (by omega)
    replace B4 := B4.gr hg (by omega)
    clear hg
    refine tl_nil ?_
    replace B2 : Blk w b2 (wordsC fun i => if i < k + 1 then word S i &&& word T i else word S i) 67 := by
      have : (wordsC fun i => if i < k then word S i &&& word T i else word S i).setIfInBounds k (Mono.W (word S k &&& word T k)) = wordsC fun i => if i < k + 1 then word S i &&& word T i else word S i := by
        rw [wordsC_set]
        refine wordsC_congr fun i hi => ?_
        by_cases h1 : i = k
        · subst h1; simp
        · simp only [h1, if_false]
          by_cases h2 : i < k
          · simp [h2, show i < k + 1 by omega]
          · simp [h2, show ¬ i < k + 1 by omega]
      rw [← this]
      simpa using B2
    replace hf := hf.keep [2, 3, 4, 6]
    dsimp only [keep, List.filterMap, look, Nat.beq, Option.map] at hf
    repeat refine seq ?_
    refine regn 1 hf (by decide +kernel) ?_
    refine st (add rfl rfl (by omega)) ?_
    refine en fun a w e' hf => ?_
    replace e := Ext.tr e e'
    replace B2 := B2.ext e'
    replace B3 := B3.ext e'
    replace B4 := B4.ext e'
    clear e'
    refine tl_op hf (by decide) (mv rfl) fun a w e' hf => ?_
    replace e := Ext.tr e e'
    replace B2 := B2.ext e'
    replace B3 := B3.ext e'
    replace B4 := B4.ext e'
    clear e'
    refine tl_nil ?_
    replace hf := hf.keep [2, 3, 4, 6]
    dsimp only [keep, List.filterMap, look, Nat.beq, Option.map] at hf
    exact ⟨16 - (k + 1), by omega, k + 1, rfl, by omega, by simpa using hf, e, B2, B3, B4⟩
  · obtain rfl : k = 16 := by omega
    repeat refine seq ?_
    refine regn 1 hf (by decide +kernel) ?_
    refine st ((lss rfl rfl).eq (congrArg Value.bool (show decide (((16 : Nat) : Int) < 16) = false from rfl))) ?_
    refine en fun a w e' hf => ?_
    replace e := Ext.tr e e'
    replace B2 := B2.ext e'
    replace B3 := B3.ext e'
    replace B4 := B4.ext e'
    clear e'
    refine tl_nil ?_
    repeat refine seq ?_
    refine ifc hf rfl (fun h => by cases h) (fun _ => wexit ?_)
    simp only [Exit.then, Exit.inBlock, ↓reduceIte]
    have hC : (wordsC fun i => if i < 16 then word S i &&& word T i else word S i) = setC (S &&&T) := wordsC_congr fun i hi => by
      simp only [hi, if_true, word_and]
    rw [hC] at B2
    repeat refine seq ?_
    refine regn 1 hf (by decide +kernel) ?_
    refine st (ldW T67 rfl (by assumption) rfl) ?_
    refine en fun a w e' hf => ?_
    replace e := Ext.tr e e'
    replace B2 := B2.ext e'
    replace B3 := B3.ext e'
    replace B4 := B4.ext e'
    clear e'
    haveI hinr : ∀ G0, InR (GB W G0) (some b4) := fun G0 => InR.gb (by omega)
    refine tl_stW T67 hf rfl rfl (wordsC_one _) B4 rfl (rfl) fun w hg hsz B4 hf => ?_
    replace e := e.gr hg (by omega)
    replace B2 := B2.gr hg (by omega)
    replace B3 := B3.gr hg (by omega)
    clear hg
    refine tl_nil ?_
    refine wret (retS rfl T67 hf rfl B4 e rfl)

theorem minus_spec (S T : BS) (W : World) : Calls Tryz.prog 82 #[setV S, setV T] W (Post (E (setV (S &&& ~~~T))) W) := by
  refine enter (args := [setV S, setV T]) (As := [E (setV S), E (setV T)]) Tryz.func82 rfl Tryz.ntmps82 (Nat.le_of_ble_eq_true rfl) ?_ (fun a hf => ?_) (Nat.le_of_ble_eq_true rfl)
  rotate_left
  dsimp only [params, Nat.reduceAdd] at hf
  rotate_right
  · exact arg2 rfl rfl
  have e := Ext.rfl' W
  repeat refine seq ?_
  refine regn0 ?_
  refine tl_box hf rfl (by decide) fun a b2 w v2 hv2 e' hb2 hs2 B2 hf => ?_
  have hle2 := Nat.le_trans e.size (Nat.le_of_eq hb2.symm)
  replace e := Ext.tr e e'
  clear e'
  refine tl_box hf rfl (by decide) fun a b3 w v3 hv3 e' hb3 hs3 B3 hf => ?_
  have hle3 := Nat.le_trans e.size (Nat.le_of_eq hb3.symm)
  have lt3_B2 := B2.lt
  replace e := Ext.tr e e'
  replace B2 := B2.ext e'
  clear e'
  refine tl_alloc I67 hf (by decide) fun a b4 w e' hb4 hs4 B4 hf => ?_
  have hle4 := Nat.le_trans e.size (Nat.le_of_eq hb4.symm)
  have lt4_B2 := B2.lt
  have lt4_B3 := B3.lt
  replace e := Ext.tr e e'
  replace B2 := B2.ext e'
  replace B3 := B3.ext e'
  clear e'
  refine tl_nil ?_
  subst hv2
  subst hv3
  rw [setV_cells] at B2 B3
  simp only [Value.cells, zeroC] at B4
  repeat refine seq ?_
  refine regn 1 hf (by decide +kernel) ?_
  refine st (mv rfl) ?_
  refine en fun a w e' hf => ?_
  replace e := Ext.tr e e'
  replace B2 := B2.ext e'
  replace B3 := B3.ext e'
  replace B4 := B4.ext e'
  clear e'
  refine tl_nil ?_
  replace hf := hf.keep [2, 3, 4, 6]
  dsimp only [keep, List.filterMap, look, Nat.beq, Option.map] at hf
  repeat refine seq ?_
  refine blk (loopN (fun r a w => ∃ k : Nat, r = 16 - k ∧ k ≤ 16 ∧ Fr 19 a w [(2, E (.pointer (some ⟨b2, 0, none⟩))), (3, E (.pointer (some ⟨b3, 0, none⟩))), (4, E (.pointer (some ⟨b4, 0, none⟩))), (6, E (I k))] ∧ Ext W w ∧
    Blk w b2 (wordsC fun i => if i < k then word S i &&& ~~~word T i else word S i) 67 ∧ Blk w b3 (setC T) 67 ∧ Blk w b4 (setC 0) 67) 16 ⟨0, rfl, by omega, hf, e, ?_, B3, B4⟩ ?_)
  · simpa [setC] using B2
  clear hf e B2 B3 B4
  rintro r a w ⟨k, rfl, hk, hf, e, B2, B3, B4⟩
  by_cases hlt : k < 16
  · repeat refine seq ?_
    refine regn 1 hf (by decide +kernel) ?_
    refine st ((lss rfl rfl).eq (congrArg Value.bool (show decide ((k : Int) < 16) = true from decide_eq_true (by omega)))) ?_
    refine en fun a w e' hf => ?_
    replace e := Ext.tr e e'
    replace B2 := B2.ext e'
    replace B3 := B3.ext e'
    replace B4 := B4.ext e'
    clear e'
    refine tl_nil ?_
    repeat refine seq ?_
    refine ifc hf rfl (fun _ => wskip ?_) (fun h => by cases h)
    repeat refine seq ?_
    refine blk ?_
    repeat refine seq ?_
    refine regn 1 hf (by decide +kernel) ?_
    refine st (mv rfl) ?_
    refine en fun a w e' hf => ?_
    replace e := Ext.tr e e'
    replace B2 := B2.ext e'
    replace B3 := B3.ext e'
    replace B4 := B4.ext e'
    clear e'
    refine tl_as hf rfl (by decide) fun a hf => ?_
    refine tl_nil ?_
    have g2 : (wordsC fun i => if i < k then word S i &&& ~~~word T i else word S i)[k]? = some (Mono.W (word S k)) := by rw [wordsC_get _ _ hlt]; simp
    repeat refine seq ?_
    refine reg 8 Mix.mix hf (by decide +kernel) ?_
    refine st (mv rfl) ?_
    refine st (idxA Tryz.underlying67 ⟨_, T65⟩ rfl rfl (by omega)) ?_
    refine st (ld1 T65 rfl B2 (by simpa using g2)) ?_
    refine st (mv rfl) ?_
    refine st (idxA Tryz.underlying67 ⟨_, T65⟩ rfl rfl (by omega)) ?_
    refine st (ld1 T65 rfl B3 (by simpa [setC] using wordsC_get (word T) k hlt)) ?_
    refine st (andNotW rfl rfl) ?_
    refine st (idxA Tryz.underlying67 ⟨_, T65⟩ rfl rfl (by omega)) ?_
    refine en fun a w e' hf => ?_
    replace e := Ext.tr e e'
    replace B2 := B2.ext e'
    replace B3 := B3.ext e'
    replace B4 := B4.ext e'
    clear e'
    refine tl_st1 T65 hf rfl rfl rfl B2 (by rw [wordsC_size]; simp; omega) fun w hg hsz B2 hf => ?_
    replace e := e.gr hg (by omega)
    replace B3 := B3.gr hg (by omega)
    replace B4 := B4.gr hg (by omega)
    clear hg
    refine tl_nil ?_
    replace B2 : Blk w b2 (wordsC fun i => if i < k + 1 then word S i &&& ~~~word T i else word S i) 67 := by
      have : (wordsC fun i => if i < k then word S i &&& ~~~word T i else word S i).setIfInBounds k (Mono.W (word S k &&& ~~~word T k)) = wordsC fun i => if i < k + 1 then word S i &&& ~~~word T i else word S i := by
        rw [wordsC_set]
        refine wordsC_congr fun i hi => ?_
        by_cases h1 : i = k
        · subst h1; simp
        · simp only [h1, if_false]
          by_cases h2 : i < k
          · simp [h2, show i < k + 1 by omega]
          · simp [h2, show ¬ i < k + 1 by omega]
      rw [← this]
      simpa using B2
    replace hf := hf.keep [2, 3, 4, 6]
    dsimp only [keep, List.filterMap, look, Nat.beq, Option.map] at hf
    repeat refine seq ?_
    refine regn 1 hf (by decide +kernel) ?_
    refine st (add rfl rfl (by omega)) ?_
    refine en fun a w e' hf => ?_
    replace e := Ext.tr e e'
    replace B2 := B2.ext e'
    replace B3 := B3.ext e'
    replace B4 := B4.ext e'
    clear e'
    refine tl_op hf (by decide) (mv rfl) fun a w e' hf => ?_
    replace e := Ext.tr e e'
    replace B2 := B2.ext e'
    replace B3 := B3.ext e'
    replace B4 := B4.ext e'
    clear e'
    refine tl_nil ?_
    replace hf := hf.keep [2, 3, 4, 6]
    dsimp only [keep, List.filterMap, look, Nat.beq, Option.map] at hf
    exact ⟨16 - (k + 1), by omega, k + 1, rfl, by omega, by simpa using hf, e, B2, B3, B4⟩
  · obtain rfl : k = 16 := by omega
    repeat refine seq ?_
    refine regn 1 hf (by decide +kernel) ?_
    refine st ((lss rfl rfl).eq (congrArg Value.bool (show decide (((16 : Nat) : Int) < 16) = false from rfl))) ?_
    refine en fun a w e' hf => ?_
    replace e := Ext.tr e e'
    replace B2 := B2.ext e'
    replace B3 := B3.ext e'
    replace B4 := B4.ext e'
    clear e'
    refine tl_nil ?_
    repeat refine seq ?_
    refine ifc hf rfl (fun h => by cases h) (fun _ => wexit ?_)
    simp only [Exit.then, Exit.inBlock, ↓reduceIte]
    have hC : (wordsC fun i => if i < 16 then word S i &&& ~~~word T i else word S i) = setC (S &&& ~~~T) := wordsC_congr fun i hi => by
      simp only [hi, if_true, word_diff]
    rw [hC] at B2
    repeat refine seq ?_
    refine regn 1 hf (by decide +kernel) ?_
    refine st (ldW T67 rfl (by assumption) rfl) ?_
    refine en fun a w e' hf => ?_
    replace e := Ext.tr e e'
    replace B2 := B2.ext e'
    replace B3 := B3.ext e'
    replace B4 := B4.ext e'
    clear e'
    haveI hinr : ∀ G0, InR (GB W G0) (some b4) := fun G0 => InR.gb (by omega)
    refine tl_stW T67 hf rfl rfl (wordsC_one _) B4 rfl (rfl) fun w hg hsz B4 hf => ?_
    replace e := e.gr hg (by omega)
    replace B2 := B2.gr hg (by omega)
    replace B3 := B3.gr hg (by omega)
    clear hg
    refine tl_nil ?_
    refine wret (retS rfl T67 hf rfl B4 e rfl)

theorem isEmpty_spec (S : BS) (W : World) : Calls Tryz.prog 71 #[setV S] W (Post (E (B (S == 0))) W) := by
  refine enter (args := [setV S]) (As := [E (setV S)]) Tryz.func71 rfl Tryz.ntmps71 (Nat.le_of_ble_eq_true rfl) ?_ (fun a hf => ?_) (Nat.le_of_ble_eq_true rfl)
  rotate_left
  dsimp only [params, Nat.reduceAdd] at hf
  rotate_right
  · exact arg1 rfl
  have e := Ext.rfl' W
  repeat refine seq ?_
  refine regn0 ?_
  refine tl_box hf rfl (by decide) fun a b1 w v1 hv1 e' hb1 hs1 B1 hf => ?_
  have hle1 := Nat.le_trans e.size (Nat.le_of_eq hb1.symm)
  replace e := Ext.tr e e'
  clear e'
  refine tl_as hf rfl (by decide) fun a hf => ?_
  refine tl_nil ?_
  subst hv1
  simp only [setV_cells] at B1
  repeat refine seq ?_
  refine regn 3 hf (by decide +kernel) ?_
  refine st (ldW T67 rfl (by assumption) rfl) ?_
  refine st ((bld0 Bz67).eq (z16_eq)) ?_
  refine st (eqS (S := S) (T := 0) Tryz.underlying67 Tryz.underlying65 T65 (by kernel_rfl) rfl rfl) ?_
  refine en fun a w e' hf => ?_
  replace e := Ext.tr e e'
  replace B1 := B1.ext e'
  clear e'
  refine tl_as hf rfl (by decide) fun a hf => ?_
  refine tl_nil ?_
  refine wret (ret1 rfl hf rfl ?_)
  rintro v rfl
  exact ⟨_, rfl, e, rfl⟩

theorem subset_spec (S T : BS) (W : World) : Calls Tryz.prog 73 #[setV S, setV T] W (Post (E (B (S &&& ~~~T == 0))) W) := by
  refine enter (args := [setV S, setV T]) (As := [E (setV S), E (setV T)]) Tryz.func73 rfl Tryz.ntmps73 (Nat.le_of_ble_eq_true rfl) ?_ (fun a hf => ?_) (Nat.le_of_ble_eq_true rfl)
  rotate_left
  dsimp only [params, Nat.reduceAdd] at hf
  rotate_right
  · exact arg2 rfl rfl
  have e := Ext.rfl' W
  repeat refine seq ?_
  refine regn0 ?_
  refine tl_box hf rfl (by decide) fun a b2 w v2 hv2 e' hb2 hs2 B2 hf => ?_
  have hle2 := Nat.le_trans e.size (Nat.le_of_eq hb2.symm)
  replace e := Ext.tr e e'
  clear e'
  refine tl_box hf rfl (by decide) fun a b3 w v3 hv3 e' hb3 hs3 B3 hf => ?_
  have hle3 := Nat.le_trans e.size (Nat.le_of_eq hb3.symm)
  have lt3_B2 := B2.lt
  replace e := Ext.tr e e'
  replace B2 := B2.ext e'
  clear e'
  refine tl_as hf rfl (by decide) fun a hf => ?_
  refine tl_nil ?_
  subst hv2
  subst hv3
  simp only [setV_cells] at B2 B3
  repeat refine seq ?_
  refine regn 4 hf (by decide +kernel) ?_
  refine st (ldW T67 rfl (by assumption) rfl) ?_
  refine st (ldW T67 rfl (by assumption) rfl) ?_
  refine st (call2 En82 rfl rfl (fun v u w _ h h' => by cases h; cases h'; exact minus_spec S T w)) ?_
  refine st (call1 En71 rfl (fun v w _ h => by cases h; exact isEmpty_spec _ w)) ?_
  refine en fun a w e' hf => ?_
  replace e := Ext.tr e e'
  replace B2 := B2.ext e'
  replace B3 := B3.ext e'
  clear e'
  refine tl_as hf rfl (by decide) fun a hf => ?_
  refine tl_nil ?_
  refine wret (ret1 rfl hf rfl ?_)
  rintro v rfl
  exact ⟨_, rfl, e, rfl⟩
end Go.Mono

namespace Go.Mono
open Go Go.Proofs Go.RowKit

/-- the vertices of bag i that the bag above does not have -/
def topsS (t : List (Int × BS)) (i : Nat) : BS := if (bg t i).1 = -1 then (bg t i).2 else (bg t i).2 &&& ~~~(bg t (bg t i).1.toNat).2

theorem topsS_spec {G : Nat → Prop} (t : List (Int × BS)) (i : Nat) (v : Value) (W : World) (h : (Dv treeE G t).p v W) (hr : Rng t) (hi : i < t.length) :
    Calls Tryz.prog 69 #[v, I (i : Nat)] W (Post (E (setV (topsS t i))) W) := by
  have hri := hr i hi
  refine enter (args := [v, I (i : Nat)]) (As := [Dv treeE (GB W G) t, E (I (i : Nat))]) Tryz.func69 rfl Tryz.ntmps69 (Nat.le_of_ble_eq_true rfl) ?_ (fun a hf => ?_) (Nat.le_of_ble_eq_true rfl)
  rotate_left
  dsimp only [params, Nat.reduceAdd] at hf
  rotate_right
  · exact arg2 (Dv.toB h) rfl
  have e := Ext.rfl' W
  repeat refine seq ?_
  refine regn0 ?_
  refine tl_alloc I67 hf (by decide) fun a b4 w e' hb4 hs4 B4 hf => ?_
  have hle4 := Nat.le_trans e.size (Nat.le_of_eq hb4.symm)
  replace e := Ext.tr e e'
  clear e'
  refine tl_nil ?_
  simp only [Value.cells, zeroC] at B4
  repeat refine seq ?_
  refine regn0 ?_
  refine tl_op hf (by decide) (mv rfl) fun a w e' hf => ?_
  replace e := Ext.tr e e'
  replace B4 := B4.ext e'
  clear e'
  refine tl_op hf (by decide) (mv rfl) fun a w e' hf => ?_
  replace e := Ext.tr e e'
  replace B4 := B4.ext e'
  clear e'
  refine tl_op hf (by decide) (idxD Tryz.underlying23 S70 (isR rfl) rfl (by omega) (bg_get hi)) fun a w e' hf => ?_
  replace e := Ext.tr e e'
  replace B4 := B4.ext e'
  clear e'
  refine tl_op hf (by decide) (ldBag T70 (isR rfl)) fun a w e' hf => ?_
  replace e := Ext.tr e e'
  replace B4 := B4.ext e'
  clear e'
  refine tl_alloc I70 hf (by decide) fun a b5 w e' hb5 hs5 B5 hf => ?_
  have hle5 := Nat.le_trans e.size (Nat.le_of_eq hb5.symm)
  have lt5_B4 := B4.lt
  replace e := Ext.tr e e'
  replace B4 := B4.ext e'
  clear e'
  haveI hinr : ∀ G0, InR (GB W G0) (some b5) := fun G0 => InR.gb (by omega)
  refine tl_stW T70 hf rfl rfl (bagC_one _) B5 rfl (bagC_size _) fun w hg hsz B5 hf => ?_
  replace e := e.gr hg (by omega)
  replace B4 := B4.gr hg (by omega)
  clear hg
  refine tl_nil ?_
  have hne : b4 ≠ b5 := by omega
  repeat refine seq ?_
  refine regn 3 hf (by decide +kernel) ?_
  refine st (fldA Tryz.underlying70 rfl T3 (by decide) rfl) ?_
  refine st (ld1 T3 rfl B5 (bagC_0 _)) ?_
  refine st (eql rfl rfl) ?_
  refine en fun a w e' hf => ?_
  replace e := Ext.tr e e'
  replace B4 := B4.ext e'
  replace B5 := B5.ext e'
  clear e'
  refine tl_nil ?_
  repeat refine seq ?_
  refine ifc hf rfl (fun hb => ?_) (fun hb => ?_)
  · have hb' : (bg t i).1 = -1 := by simpa using hb
    replace hf := hf.keep [4, 5]
    dsimp only [keep, List.filterMap, look, Nat.beq, Option.map] at hf
    repeat refine seq ?_
    refine regn 2 hf (by decide +kernel) ?_
    refine st (fldA Tryz.underlying70 rfl T67 (by decide) rfl) ?_
    refine st ((ldP T67 rfl B5 (bagC_le _)).eq (bagC_1 _)) ?_
    refine en fun a w e' hf => ?_
    replace e := Ext.tr e e'
    replace B4 := B4.ext e'
    replace B5 := B5.ext e'
    clear e'
    haveI hinr : ∀ G0, InR (GB W G0) (some b4) := fun G0 => InR.gb (by omega)
    refine tl_stW T67 hf rfl rfl (wordsC_one _) B4 rfl (rfl) fun w hg hsz B4 hf => ?_
    replace e := e.gr hg (by omega)
    replace B5 := B5.gr hg (by omega)
    clear hg
    refine tl_nil ?_
    refine wret (retS rfl T67 hf rfl B4 e ?_)
    rw [topsS, if_pos hb']
  · have hb' : (bg t i).1 ≠ -1 := by simpa using hb
    refine wskip ?_
    try simp only [Exit.then, Exit.inBlock, ↓reduceIte]
    repeat refine seq ?_
    refine reg 9 Mix.mix hf (by decide +kernel) ?_
    refine st (fldA Tryz.underlying70 rfl T67 (by decide) rfl) ?_
    refine st ((ldP T67 rfl B5 (bagC_le _)).eq (bagC_1 _)) ?_
    refine st (mv rfl) ?_
    refine st (fldA Tryz.underlying70 rfl T3 (by decide) rfl) ?_
    refine st (ld1 T3 rfl B5 (bagC_0 _)) ?_
    refine st (idxD Tryz.underlying23 S70 (isR rfl) rfl (by omega) (bg_get (i := (bg t i).1.toNat) (by omega))) ?_
    refine st (fldD Tryz.underlying70 rfl T67 (by decide) (Fld.snd Fld.refl rfl) (isR rfl)) ?_
    refine st (ldS T67 (isR rfl)) ?_
    refine st (call2 En82 rfl rfl (fun v u w he h h' => by cases h; cases h'; exact minus_spec _ _ w)) ?_
    refine en fun a w e' hf => ?_
    replace e := Ext.tr e e'
    replace B4 := B4.ext e'
    replace B5 := B5.ext e'
    clear e'
    haveI hinr : ∀ G0, InR (GB W G0) (some b4) := fun G0 => InR.gb (by omega)
    refine tl_stW T67 hf rfl rfl (wordsC_one _) B4 rfl (rfl) fun w hg hsz B4 hf => ?_
    replace e := e.gr hg (by omega)
    replace B5 := B5.gr hg (by omega)
    clear hg
    refine tl_nil ?_
    refine wret (retS rfl T67 hf rfl B4 e ?_)
    rw [topsS, if_neg hb']

/-- what the walk of Check leans on: depths ends, and counts no more than there are -/
structure Dp (t : List (Int × BS)) (f : Nat) : Prop where
  fb : f ≤ 50000
  hh : ∀ b ∈ rootN t, hgt (kN t) f b
  le : (depthsF t f (rootN t)).2 ≤ 100000
def seenTo (t : List (Int × BS)) : Nat → BS
  | 0 => 0
  | k + 1 => seenTo t k ||| topsS t k
open Classical in
noncomputable def chkT (t : List (Int × BS)) (f : Nat) : Int :=
  if t.length = 0 then 2 else
  if ¬ Rng t then 3 else
  if ¬ (rootN t).length = 1 then 3 else
  if ¬ (depthsF t f (rootN t)).2 = (t.length : Nat) then 15 else
  if ¬ ∀ i, i < t.length → topsS t i &&& seenTo t i = 0 then 7 else 0
theorem fstB_neg {p : Int × BS → Bool} {t : List (Int × BS)} : decide (0 ≤ fstB p t) = false ↔ ∀ i, i < t.length → p (bg t i) = false := by
  constructor
  · intro h i hi
    cases hp : p (bg t i)
    · rfl
    · exfalso
      obtain ⟨m, hm, hmin⟩ := least (p := fun j => j < t.length ∧ p (bg t j) = true) ⟨i, hi, hp⟩
      have : fstB p t = (m : Nat) := fstN_hit hm.1 (fun j hj => by
        cases ht : p (bg t j)
        · rfl
        · exact absurd ⟨by omega, ht⟩ (hmin j hj)) hm.2
      rw [this] at h
      exact absurd h (by simp)
  · intro h
    rw [fstB, fstN_none h]; rfl

theorem chkT_spec {G : Nat → Prop} (t : List (Int × BS)) (f : Nat) (v : Value) (W : World) (h : (Dv treeE G t).p v W) (hl : t.length ≤ 4096)
    (hd : Rng t → (rootN t).length = 1 → Dp t f) :
    Calls Tryz.prog 25 #[v] W (Post (E (I (chkT t f))) W) := by
  refine enter (args := [v]) (As := [Dv treeE (GB W G0) t]) Tryz.func25 rfl Tryz.ntmps25 (Nat.le_of_ble_eq_true rfl) ?_ (fun a hf => ?_) (Nat.le_of_ble_eq_true rfl)
  rotate_left
  dsimp only [params, Nat.reduceAdd] at hf
  rotate_right
  · exact arg1 (Dv.toB (Dv.weak h fun b _ hb => hb.elim))
  have e := Ext.rfl' W
  repeat refine seq ?_
  refine regn0 ?_
  refine tl_box hf rfl (by decide) fun a b1 w v1 hv1 e' hb1 hs1 B1 hf => ?_
  have hle1 := Nat.le_trans e.size (Nat.le_of_eq hb1.symm)
  replace e := Ext.tr e e'
  clear e'
  refine tl_as hf rfl (by decide) fun a hf => ?_
  refine tl_nil ?_
  rw [one_cells (Dv.slOne hv1)] at B1
  have HV := Dv.ex hv1 e
  cases h0 : (((t.length : Nat) : Int) == 0)
  rotate_left
  · have h0' : t.length = 0 := by have : ((t.length : Nat) : Int) = 0 := by simpa using h0
                                  omega
    repeat refine seq ?_
    refine regn 8 hf (by decide +kernel) ?_
    refine st (ld1 T23 rfl (by assumption) rfl) ?_
    refine st (lenD Tryz.underlying23 (isE rfl HV)) ?_
    refine st ((eql rfl rfl).eq (congrArg Value.bool (h0))) ?_
    refine st (mv rfl) ?_
    refine sn rfl rfl rfl ?_
    refine sn rfl rfl rfl ?_
    refine sn rfl rfl rfl ?_
    refine st (pkT rfl rfl) ?_
    refine en fun a w e' hf => ?_
    replace HV := Dv.ex HV e'
    replace e := Ext.tr e e'
    replace B1 := B1.ext e'
    clear e'
    refine tl_nil ?_
    repeat refine seq ?_
    refine ifc hf rfl (fun _ => ?_) (fun h => by cases h)
    repeat refine seq ?_
    refine regn0 ?_
    refine tl_as hf rfl (by decide) fun a hf => ?_
    refine tl_nil ?_
    refine wret ?_
    try simp only [Exit.then, Exit.inBlock]
    refine ret1 rfl hf rfl ?_
    rintro _ rfl
    exact ⟨_, rfl, e, congrArg I (by rw [chkT, if_pos h0'])⟩
  have h0' : ¬ t.length = 0 := by
    have : ¬ ((t.length : Nat) : Int) = 0 := by simpa using h0
    omega
  repeat refine seq ?_
  refine regn 8 hf (by decide +kernel) ?_
  refine st (ld1 T23 rfl (by assumption) rfl) ?_
  refine st (lenD Tryz.underlying23 (isE rfl HV)) ?_
  refine st ((eql rfl rfl).eq (congrArg Value.bool (h0))) ?_
  refine st (mv rfl) ?_
  refine sy rfl rfl (ld1 T23 rfl (by assumption) rfl) ?_
  refine sy rfl rfl (lenD Tryz.underlying23 (isE rfl HV)) ?_
  refine sy rfl rfl ((gtr rfl rfl).eq (congrArg Value.bool (show decide ((4096 : Int) < (t.length : Nat)) = false from decide_eq_false (by omega)))) ?_
  refine st (pkF rfl rfl) ?_
  refine en fun a w e' hf => ?_
  replace HV := Dv.ex HV e'
  replace e := Ext.tr e e'
  replace B1 := B1.ext e'
  clear e'
  refine tl_nil ?_
  repeat refine seq ?_
  refine ifc hf rfl (fun h => by cases h) (fun _ => ?_)
  refine wskip ?_
  try simp only [Exit.then, Exit.inBlock, ↓reduceIte]
  replace hf := hf.keep [1]
  dsimp only [keep, List.filterMap, look, Nat.beq, Option.map] at hf
  cases h1 : decide (0 ≤ fstB (fun b => decide (b.1 < -1 ∨ (t.length : Int) ≤ b.1)) t)
  rotate_left
  · repeat refine seq ?_
    refine regn 9 hf (by decide +kernel) ?_
    refine st (ld1 T23 rfl (by assumption) rfl) ?_
    refine st (makeF1 rfl) ?_
    refine st ((call2 En65 rfl rfl (fun v u w he h h' => by cases h; cases h'; exact containsFunc_spec t _ _ _ (fun b => decide (b.1 < -1 ∨ (t.length : Int) ≤ b.1)) w En66 (Dv.ex HV he) (fun w' b he' => by simpa using check1_spec b b1 t _ w' (B1.ext (Ext.tr he he')) (Dv.ex HV (Ext.tr he he')) hl) hl)).eq (congrArg Value.bool (h1))) ?_
    refine st (mv rfl) ?_
    refine sn rfl rfl rfl ?_
    refine sn rfl rfl rfl ?_
    refine sn rfl rfl rfl ?_
    refine sn rfl rfl rfl ?_
    refine st (pkT rfl rfl) ?_
    refine en fun a w e' hf => ?_
    replace HV := Dv.ex HV e'
    replace e := Ext.tr e e'
    replace B1 := B1.ext e'
    clear e'
    refine tl_nil ?_
    repeat refine seq ?_
    refine ifc hf rfl (fun _ => ?_) (fun h => by cases h)
    repeat refine seq ?_
    refine regn0 ?_
    refine tl_as hf rfl (by decide) fun a hf => ?_
    refine tl_nil ?_
    have hn : ¬ Rng t := fun hr => by
      have := (fstB_neg (p := fun b => decide (b.1 < -1 ∨ (t.length : Int) ≤ b.1)) (t := t)).2 (fun i hi => decide_eq_false (by have := hr i hi; omega))
      rw [h1] at this; cases this
    refine wret ?_
    try simp only [Exit.then, Exit.inBlock]
    refine ret1 rfl hf rfl ?_
    rintro _ rfl
    exact ⟨_, rfl, e, congrArg I (by rw [chkT, if_neg h0', if_pos hn])⟩
  have hr : Rng t := fun i hi => by
    have := of_decide_eq_false (fstB_neg.1 h1 i hi)
    omega
  have c1 := Classical.not_not.2 hr
  repeat refine seq ?_
  refine regn 9 hf (by decide +kernel) ?_
  refine st (ld1 T23 rfl (by assumption) rfl) ?_
  refine st (makeF1 rfl) ?_
  refine st ((call2 En65 rfl rfl (fun v u w he h h' => by cases h; cases h'; exact containsFunc_spec t _ _ _ (fun b => decide (b.1 < -1 ∨ (t.length : Int) ≤ b.1)) w En66 (Dv.ex HV he) (fun w' b he' => by simpa using check1_spec b b1 t _ w' (B1.ext (Ext.tr he he')) (Dv.ex HV (Ext.tr he he')) hl) hl)).eq (congrArg Value.bool (h1))) ?_
  refine st (mv rfl) ?_
  refine sy rfl rfl (ld1 T23 rfl (by assumption) rfl) ?_
  refine sy rfl rfl (call1 En67 rfl (fun v w he h => by cases h; exact roots_spec (G := G0) t _ w (Dv.weak (Dv.ex HV he) fun b _ hb => hb.elim) (fun b hb => hb.elim) hl)) ?_
  refine sy rfl rfl (lenD Tryz.underlying59 (isR rfl)) ?_
  refine sy rfl rfl (neq rfl rfl) ?_
  refine st (pkF rfl rfl) ?_
  refine en fun a w e' hf => ?_
  replace HV := Dv.ex HV e'
  replace e := Ext.tr e e'
  replace B1 := B1.ext e'
  clear e'
  refine tl_nil ?_
  have hrl : (rootsT t).length = (rootN t).length := by rw [rootsT_eq, List.length_map]
  repeat refine seq ?_
  refine ifc hf rfl (fun hb => ?_) (fun hb => ?_)
  · have hb' : ¬ (rootN t).length = 1 := by
      have : ¬ ((rootsT t).length : Int) = 1 := by simpa using hb
      omega
    repeat refine seq ?_
    refine regn0 ?_
    refine tl_as hf rfl (by decide) fun a hf => ?_
    refine tl_nil ?_
    refine wret ?_
    try simp only [Exit.then, Exit.inBlock]
    refine ret1 rfl hf rfl ?_
    rintro _ rfl
    exact ⟨_, rfl, e, congrArg I (by rw [chkT, if_neg h0', if_neg c1, if_pos hb'])⟩
  have hb' : (rootN t).length = 1 := by
    have : ((rootsT t).length : Int) = 1 := by simpa using hb
    omega
  have c2 := Classical.not_not.2 hb'
  have hdp := hd hr hb'
  refine wskip ?_
  try simp only [Exit.then, Exit.inBlock, ↓reduceIte]
  replace hf := hf.keep [1]
  dsimp only [keep, List.filterMap, look, Nat.beq, Option.map] at hf
  repeat refine seq ?_
  refine regn 5 hf (by decide +kernel) ?_
  refine st (ld1 T23 rfl (by assumption) rfl) ?_
  refine st (call1 En68 rfl (fun v w he h => by cases h; exact depths_spec (G := G0) t f _ w (Dv.weak (Dv.ex HV he) fun b _ hb => hb.elim) (fun b hb => hb.elim) hl hr hdp.hh hdp.fb hdp.le)) ?_
  refine st (mv rfl) ?_
  refine st (ext_ rfl rfl) ?_
  refine st (ext_ rfl rfl) ?_
  refine en fun a w e' hf => ?_
  replace HV := Dv.ex HV e'
  replace e := Ext.tr e e'
  replace B1 := B1.ext e'
  clear e'
  refine tl_as hf rfl (by decide) fun a hf => ?_
  refine tl_as hf rfl (by decide) fun a hf => ?_
  refine tl_nil ?_
  repeat refine seq ?_
  refine regn 2 hf (by decide +kernel) ?_
  refine st (mv rfl) ?_
  refine st (notp rfl) ?_
  refine en fun a w e' hf => ?_
  replace HV := Dv.ex HV e'
  replace e := Ext.tr e e'
  replace B1 := B1.ext e'
  clear e'
  refine tl_nil ?_
  replace hf := hf.keep [1, 31]
  dsimp only [keep, List.filterMap, look, Nat.beq, Option.map] at hf
  repeat refine seq ?_
  refine ifc hf rfl (fun hb => ?_) (fun hb => ?_)
  · have hb2 : ¬ (depthsF t f (rootN t)).2 = (t.length : Nat) := by simpa using hb
    repeat refine seq ?_
    refine regn0 ?_
    refine tl_as hf rfl (by decide) fun a hf => ?_
    refine tl_nil ?_
    refine wret ?_
    try simp only [Exit.then, Exit.inBlock]
    refine ret1 rfl hf rfl ?_
    rintro _ rfl
    exact ⟨_, rfl, e, congrArg I (by rw [chkT, if_neg h0', if_neg c1, if_neg c2, if_pos hb2])⟩
  have hb2 : (depthsF t f (rootN t)).2 = (t.length : Nat) := by simpa using hb
  have c3 := Classical.not_not.2 hb2
  refine wskip ?_
  try simp only [Exit.then, Exit.inBlock, ↓reduceIte]
  replace hf := hf.keep [1]
  dsimp only [keep, List.filterMap, look, Nat.beq, Option.map] at hf
  repeat refine seq ?_
  refine regn0 ?_
  refine tl_alloc I67 hf (by decide) fun a b5 w e' hb5 hs5 B5 hf => ?_
  have hle5 := Nat.le_trans e.size (Nat.le_of_eq hb5.symm)
  have lt5_B1 := B1.lt
  replace HV := Dv.ex HV e'
  replace e := Ext.tr e e'
  replace B1 := B1.ext e'
  clear e'
  refine tl_nil ?_
  simp only [Value.cells, zeroC] at B5
  have hne : b1 ≠ b5 := by have := B1.lt; omega
  clear hb h1 h0 hb2 hrl
  repeat refine seq ?_
  refine regn 3 hf (by decide +kernel) ?_
  refine st (ld1 T23 rfl (by assumption) rfl) ?_
  refine st (lenD Tryz.underlying23 (isE rfl HV)) ?_
  refine st (mv rfl) ?_
  refine en fun a w e' hf => ?_
  replace HV := Dv.ex HV e'
  replace e := Ext.tr e e'
  replace B1 := B1.ext e'
  replace B5 := B5.ext e'
  clear e'
  refine tl_nil ?_
  replace hf := hf.keep [1, 5, 33, 34]
  dsimp only [keep, List.filterMap, look, Nat.beq, Option.map] at hf
  repeat refine seq ?_
  refine blk (loopN (fun r0 a w => ∃ (k : Nat) , r0 = t.length - k ∧ k ≤ t.length ∧ Fr 49 a w [(1, E (.pointer (some ⟨b1, 0, none⟩))), (5, E (.pointer (some ⟨b5, 0, none⟩))), (33, E (I (t.length : Nat))), (34, E (I k))] ∧ Ext W w ∧ Blk w b1 #[v1] 23 ∧ Blk w b5 (setC (seenTo t k)) 67 ∧ (Dv treeE (GB W G0) t).p v1 w ∧ ∀ i, i < k → topsS t i &&& seenTo t i = 0) t.length ⟨0, rfl, by omega, hf, e, B1, B5, HV, (fun i hi => by omega)⟩ ?_)
  clear hf e; try clear B1; try clear B5; try clear HV; try clear Ho
  rintro r0 a w ⟨k, rfl, hk, hf, e, B1, B5, HV, Ho⟩
  repeat refine seq ?_
  refine regn 1 hf (by decide +kernel) ?_
  refine st (lss rfl rfl) ?_
  refine en fun a w e' hf => ?_
  replace HV := Dv.ex HV e'
  replace e := Ext.tr e e'
  replace B1 := B1.ext e'
  replace B5 := B5.ext e'
  clear e'
  refine tl_nil ?_
  repeat refine seq ?_
  refine ifc hf rfl (fun hc => wskip ?_) (fun hc => wexit ?_)
  rotate_left
  rotate_left
  · have hlt : k < t.length := by have := of_decide_eq_true hc; (try dsimp only at this); omega
    clear hc
    replace hf := hf.keep [1, 5, 33, 34]
    dsimp only [keep, List.filterMap, look, Nat.beq, Option.map] at hf
    repeat refine seq ?_
    refine blk ?_
    repeat refine seq ?_
    refine regn 1 hf (by decide +kernel) ?_
    refine st (mv rfl) ?_
    refine en fun a w e' hf => ?_
    replace HV := Dv.ex HV e'
    replace e := Ext.tr e e'
    replace B1 := B1.ext e'
    replace B5 := B5.ext e'
    clear e'
    refine tl_as hf rfl (by decide) fun a hf => ?_
    refine tl_nil ?_
    repeat refine seq ?_
    refine regn 3 hf (by decide +kernel) ?_
    refine st (ld1 T23 rfl (by assumption) rfl) ?_
    refine st (mv rfl) ?_
    refine st (call2 En69 rfl rfl (fun v u w he h h' => by cases h; cases h'; exact topsS_spec t k _ w (Dv.ex HV he) hr hlt)) ?_
    refine en fun a w e' hf => ?_
    replace HV := Dv.ex HV e'
    replace e := Ext.tr e e'
    replace B1 := B1.ext e'
    replace B5 := B5.ext e'
    clear e'
    refine tl_alloc I67 hf (by decide) fun a b7 w e' hb7 hs7 B7 hf => ?_
    have hle7 := Nat.le_trans e.size (Nat.le_of_eq hb7.symm)
    have lt7_B1 := B1.lt
    have lt7_B5 := B5.lt
    replace HV := Dv.ex HV e'
    replace e := Ext.tr e e'
    replace B1 := B1.ext e'
    replace B5 := B5.ext e'
    clear e'
    haveI hinr : ∀ G0, InR (GB W G0) (some b7) := fun G0 => InR.gb (by omega)
    refine tl_stW T67 hf rfl rfl (wordsC_one _) B7 rfl (rfl) fun w hg hsz B7 hf => ?_
    replace HV := Dv.gr HV hg (.inr (by omega))
    replace e := e.gr hg (by omega)
    replace B1 := B1.gr hg (by omega)
    replace B5 := B5.gr hg (by omega)
    clear hg
    refine tl_nil ?_
    have hne7 : b7 ≠ b5 ∧ b7 ≠ b1 := by omega
    replace hf := hf.keep [1, 5, 7, 33, 34]
    dsimp only [keep, List.filterMap, look, Nat.beq, Option.map] at hf
    repeat refine seq ?_
    refine regn 5 hf (by decide +kernel) ?_
    refine st (ldW T67 rfl (by assumption) rfl) ?_
    refine st (ldW T67 rfl (by assumption) rfl) ?_
    refine st (call2 En70 rfl rfl (fun v u w he h h' => by cases h; cases h'; exact inter_spec _ _ w)) ?_
    refine st (call1 En71 rfl (fun v w he h => by cases h; exact isEmpty_spec _ w)) ?_
    refine st (notp rfl) ?_
    refine en fun a w e' hf => ?_
    replace HV := Dv.ex HV e'
    replace e := Ext.tr e e'
    replace B1 := B1.ext e'
    replace B5 := B5.ext e'
    replace B7 := B7.ext e'
    clear e'
    refine tl_nil ?_
    repeat refine seq ?_
    refine ifc hf rfl (fun hb => ?_) (fun hb => ?_)
    · have hb3 : ¬ topsS t k &&& seenTo t k = 0 := by simpa using hb
      repeat refine seq ?_
      refine regn0 ?_
      refine tl_as hf rfl (by decide) fun a hf => ?_
      refine tl_nil ?_
      refine wret ?_
      try simp only [Exit.then, Exit.inBlock]
      refine ret1 rfl hf rfl ?_
      rintro _ rfl
      exact ⟨_, rfl, e, congrArg I (by rw [chkT, if_neg h0', if_neg c1, if_neg c2, if_neg c3, if_pos (fun h => hb3 (h k hlt))])⟩
    · have hb3 : topsS t k &&& seenTo t k = 0 := by simpa using hb
      refine wskip ?_
      try simp only [Exit.then, Exit.inBlock, ↓reduceIte]
      replace hf := hf.keep [1, 5, 7, 33, 34]
      dsimp only [keep, List.filterMap, look, Nat.beq, Option.map] at hf
      repeat refine seq ?_
      refine regn 3 hf (by decide +kernel) ?_
      refine st (ldW T67 rfl (by assumption) rfl) ?_
      refine st (ldW T67 rfl (by assumption) rfl) ?_
      refine st (call2 En59 rfl rfl (fun v u w he h h' => by cases h; cases h'; exact union_spec _ _ w)) ?_
      refine en fun a w e' hf => ?_
      replace HV := Dv.ex HV e'
      replace e := Ext.tr e e'
      replace B1 := B1.ext e'
      replace B5 := B5.ext e'
      replace B7 := B7.ext e'
      clear e'
      haveI hinr : ∀ G0, InR (GB W G0) (some b5) := fun G0 => InR.gb (by omega)
      refine tl_stW T67 hf rfl rfl (wordsC_one _) B5 rfl (rfl) fun w hg hsz B5 hf => ?_
      replace HV := Dv.gr HV hg (.inr (by omega))
      replace e := e.gr hg (by omega)
      replace B1 := B1.gr hg (by omega)
      replace B7 := B7.gr hg (by omega)
      clear hg
      refine tl_nil ?_
      try simp only [Exit.then, Exit.inBlock, ↓reduceIte]
      try simp only [Exit.then, Exit.inBlock, ↓reduceIte]
      repeat refine seq ?_
      refine regn 1 hf (by decide +kernel) ?_
      refine st ((add rfl rfl (by omega)).eq (congrArg (Value.int .i64) (show (k : Int) + 1 = ((k + 1 : Nat) : Int) from rfl))) ?_
      refine en fun a w e' hf => ?_
      replace HV := Dv.ex HV e'
      replace e := Ext.tr e e'
      replace B1 := B1.ext e'
      replace B5 := B5.ext e'
      replace B7 := B7.ext e'
      clear e'
      refine tl_op hf (by decide) (mv rfl) fun a w e' hf => ?_
      replace HV := Dv.ex HV e'
      replace e := Ext.tr e e'
      replace B1 := B1.ext e'
      replace B5 := B5.ext e'
      replace B7 := B7.ext e'
      clear e'
      refine tl_nil ?_
      replace hf := hf.keep [1, 5, 33, 34]
      dsimp only [keep, List.filterMap, look, Nat.beq, Option.map] at hf
      refine ⟨_, ?_, k + 1, rfl, by omega, hf, e, ?_⟩
      · omega
      refine ⟨B1, B5, HV, fun i hi => ?_⟩
      by_cases hk : i = k
      · subst hk; exact hb3
      · exact Ho i (by omega)
  · obtain rfl : k = t.length := by have := of_decide_eq_false hc; (try dsimp only at this); omega
    clear hc
    simp only [Exit.then, Exit.inBlock, ↓reduceIte]
    repeat refine seq ?_
    refine regn0 ?_
    refine tl_as hf rfl (by decide) fun a hf => ?_
    refine tl_nil ?_
    refine wret ?_
    try simp only [Exit.then, Exit.inBlock]
    refine ret1 rfl hf rfl ?_
    rintro _ rfl
    exact ⟨_, rfl, e, congrArg I (by rw [chkT, if_neg h0', if_neg c1, if_neg c2, if_neg c3, if_neg (Classical.not_not.2 Ho)])⟩
end Go.Mono

namespace Go.Mono
open Go Go.Proofs Go.RowKit

theorem cloneT_spec {G : Nat → Prop} (t : List (Int × BS)) (v : Value) (W : World) (h : (Dv (slE bagE) G t).p v W) (hl : t.length ≤ 4096) :
    Calls Tryz.prog 112 #[v] W (Post (Dv (slE bagE) (fun b => b < W.heap.size) t) W) := by
  have hG : ∀ b, Go.Mono.G0 b → b < W.heap.size := fun b hb => hb.elim
  have HV : (Dv (slE bagE) (GB W Go.Mono.G0) t).p v W := Dv.toB (Dv.weak h fun b _ hb => hb.elim)
  have hv : ∃ ao n c, v = .slice ao n c ∧ (ao = none → t = [] ∧ v = .slice none 0 0) := by
    rcases Dv.sl.1 h with ⟨rfl, rfl⟩ | ⟨ad, cap, cs, rfl, _⟩
    · exact ⟨none, 0, 0, rfl, fun _ => ⟨rfl, rfl⟩⟩
    · exact ⟨_, _, _, rfl, fun h => by cases h⟩
  obtain ⟨ao, n, c, hv1, hv2⟩ := hv
  refine enter (args := [v]) (As := [E v]) Tryz.func112 rfl Tryz.ntmps112 (Nat.le_of_ble_eq_true rfl) ?_ (fun a hf => ?_) (Nat.le_of_ble_eq_true rfl)
  rotate_left
  dsimp only [params, Nat.reduceAdd] at hf
  rotate_right
  · exact arg1 rfl
  have e := Ext.rfl' W
  rw [hv1] at hf
  repeat refine seq ?_
  refine regn0 ?_
  refine tl_as hf rfl (by decide) fun a hf => ?_
  refine tl_nil ?_
  repeat refine seq ?_
  refine regn 2 hf (by decide +kernel) ?_
  refine st (mv rfl) ?_
  refine st (eqlNil Tryz.underlying23 rfl) ?_
  refine en fun a w e' hf => ?_
  replace HV := Dv.ex HV e'
  replace e := Ext.tr e e'
  clear e'
  refine tl_nil ?_
  repeat refine seq ?_
  refine ifc hf rfl (fun hb => ?_) (fun hb => ?_)
  · have hn : ao = none := by cases ao <;> simp at hb ⊢
    obtain ⟨h1, _⟩ := hv2 hn
    subst h1
    repeat refine seq ?_
    refine regn0 ?_
    refine tl_as hf rfl (by decide) fun a hf => ?_
    refine tl_nil ?_
    refine wret ?_
    try simp only [Exit.then, Exit.inBlock]
    refine ret1 rfl hf rfl ?_
    rintro _ rfl
    exact ⟨_, rfl, e, Dv.nil⟩
  · refine wskip ?_
    try simp only [Exit.then, Exit.inBlock, ↓reduceIte]
    repeat refine seq ?_
    refine regn0 ?_
    refine tl_bsl0 W.heap.size Go.Mono.G0 bagE Tryz.underlying23 S70 hf (by decide) e.size hG fun a v w e' hov Ho hf => ?_
    replace HV := Dv.ex HV e'
    replace e := Ext.tr e e'
    clear e'
    refine tl_op hf (by decide) (mv rfl) fun a w e' hf => ?_
    replace HV := Dv.ex HV e'
    replace e := Ext.tr e e'
    replace Ho := Ho.ext e'
    clear e'
    haveI hin : ∀ G0, InR (GB W G0) _ := OwR.inGB (W := W) Ho (Nat.le_refl _)
    refine tl_app Tryz.underlying23 I70 rfl rfl hf (by decide) rfl Ho (isE rfl (by rw [← hv1]; exact Dv.weak HV fun b _ hb => hb.elim (fun h => h.elim) (fun h => .inr (Ho.row (Nat.le_refl _) b h)))) (by simp only [List.length_nil]; omega) (by simp only [List.length_nil, maxLen]; omega) fun a v w hg hat Hn hf => ?_
    replace e := e.gro hg (Ho.row (W := W) (Nat.le_refl _))
    replace Ho := Hn; clear Hn hg hat hin
    refine tl_as hf rfl (by decide) fun a hf => ?_
    refine tl_nil ?_
    refine wret ?_
    try simp only [Exit.then, Exit.inBlock]
    refine ret1 rfl hf rfl ?_
    rintro _ rfl
    exact ⟨_, rfl, e, (OwR.reG (by simpa using Ho) (fun b hb => hb)).sl⟩

theorem cloneI_spec {G : Nat → Prop} (t : List (Int)) (v : Value) (W : World) (h : (Dv (slE intE) G t).p v W) (hl : t.length ≤ 4096) :
    Calls Tryz.prog 85 #[v] W (Post (Dv (slE intE) (fun b => b < W.heap.size) t) W) := by
  have hG : ∀ b, Go.Mono.G0 b → b < W.heap.size := fun b hb => hb.elim
  have HV : (Dv (slE intE) (GB W Go.Mono.G0) t).p v W := Dv.toB (Dv.weak h fun b _ hb => hb.elim)
  have hv : ∃ ao n c, v = .slice ao n c ∧ (ao = none → t = [] ∧ v = .slice none 0 0) := by
    rcases Dv.sl.1 h with ⟨rfl, rfl⟩ | ⟨ad, cap, cs, rfl, _⟩
    · exact ⟨none, 0, 0, rfl, fun _ => ⟨rfl, rfl⟩⟩
    · exact ⟨_, _, _, rfl, fun h => by cases h⟩
  obtain ⟨ao, n, c, hv1, hv2⟩ := hv
  refine enter (args := [v]) (As := [E v]) Tryz.func85 rfl Tryz.ntmps85 (Nat.le_of_ble_eq_true rfl) ?_ (fun a hf => ?_) (Nat.le_of_ble_eq_true rfl)
  rotate_left
  dsimp only [params, Nat.reduceAdd] at hf
  rotate_right
  · exact arg1 rfl
  have e := Ext.rfl' W
  rw [hv1] at hf
  repeat refine seq ?_
  refine regn0 ?_
  refine tl_as hf rfl (by decide) fun a hf => ?_
  refine tl_nil ?_
  repeat refine seq ?_
  refine regn 2 hf (by decide +kernel) ?_
  refine st (mv rfl) ?_
  refine st (eqlNil Tryz.underlying59 rfl) ?_
  refine en fun a w e' hf => ?_
  replace HV := Dv.ex HV e'
  replace e := Ext.tr e e'
  clear e'
  refine tl_nil ?_
  repeat refine seq ?_
  refine ifc hf rfl (fun hb => ?_) (fun hb => ?_)
  · have hn : ao = none := by cases ao <;> simp at hb ⊢
    obtain ⟨h1, _⟩ := hv2 hn
    subst h1
    repeat refine seq ?_
    refine regn0 ?_
    refine tl_as hf rfl (by decide) fun a hf => ?_
    refine tl_nil ?_
    refine wret ?_
    try simp only [Exit.then, Exit.inBlock]
    refine ret1 rfl hf rfl ?_
    rintro _ rfl
    exact ⟨_, rfl, e, Dv.nil⟩
  · refine wskip ?_
    try simp only [Exit.then, Exit.inBlock, ↓reduceIte]
    repeat refine seq ?_
    refine regn0 ?_
    refine tl_bsl0 W.heap.size Go.Mono.G0 intE Tryz.underlying59 S3 hf (by decide) e.size hG fun a v w e' hov Ho hf => ?_
    replace HV := Dv.ex HV e'
    replace e := Ext.tr e e'
    clear e'
    refine tl_op hf (by decide) (mv rfl) fun a w e' hf => ?_
    replace HV := Dv.ex HV e'
    replace e := Ext.tr e e'
    replace Ho := Ho.ext e'
    clear e'
    haveI hin : ∀ G0, InR (GB W G0) _ := OwR.inGB (W := W) Ho (Nat.le_refl _)
    refine tl_app Tryz.underlying59 I3 rfl rfl hf (by decide) rfl Ho (isE rfl (by rw [← hv1]; exact Dv.weak HV fun b _ hb => hb.elim (fun h => h.elim) (fun h => .inr (Ho.row (Nat.le_refl _) b h)))) (by simp only [List.length_nil]; omega) (by simp only [List.length_nil, maxLen]; omega) fun a v w hg hat Hn hf => ?_
    replace e := e.gro hg (Ho.row (W := W) (Nat.le_refl _))
    replace Ho := Hn; clear Hn hg hat hin
    refine tl_as hf rfl (by decide) fun a hf => ?_
    refine tl_nil ?_
    refine wret ?_
    try simp only [Exit.then, Exit.inBlock]
    refine ret1 rfl hf rfl ?_
    rintro _ rfl
    exact ⟨_, rfl, e, (OwR.reG (by simpa using Ho) (fun b hb => hb)).sl⟩

end Go.Mono

namespace Go.Mono
open Go Go.Proofs Go.RowKit

theorem treeClone_spec {G : Nat → Prop} (t : List (Int × BS)) (v : Value) (W : World) (h : (Dv treeE G t).p v W) (hl : t.length ≤ 4096) :
    Calls Tryz.prog 53 #[v] W (Post (Dv treeE (fun b => b < W.heap.size) t) W) := by
  refine enter (args := [v]) (As := [Dv treeE G t]) Tryz.func53 rfl Tryz.ntmps53 (Nat.le_of_ble_eq_true rfl) ?_ (fun a hf => ?_) (Nat.le_of_ble_eq_true rfl)
  rotate_left
  dsimp only [params, Nat.reduceAdd] at hf
  rotate_right
  · exact arg1 h
  have e := Ext.rfl' W
  repeat refine seq ?_
  refine regn0 ?_
  refine tl_as hf rfl (by decide) fun a hf => ?_
  refine tl_nil ?_
  repeat refine seq ?_
  refine regn 2 hf (by decide +kernel) ?_
  refine st (mv rfl) ?_
  refine st (call1 En112 rfl (fun v w he h => Calls.mono (cloneT_spec _ _ w h hl) (fun en w' ⟨u, h1, h2, h3⟩ => ⟨u, h1, h2, Dv.weak (G' := fun b => b < W.heap.size) h3 fun b _ hb => Nat.lt_of_lt_of_le hb (Nat.le_trans e.size he.size)⟩))) ?_
  refine en fun a w e' hf => ?_
  replace e := Ext.tr e e'
  clear e'
  refine tl_as hf rfl (by decide) fun a hf => ?_
  refine tl_nil ?_
  refine wret ?_
  try simp only [Exit.then, Exit.inBlock]
  refine ret1 rfl hf rfl ?_
  intro v hv
  exact ⟨_, rfl, e, hv⟩


theorem root_spec {G : Nat → Prop} (t : List (Int × BS)) (f : Nat) (v : Value) (W : World) (h : (Dv treeE G t).p v W) (hl : t.length ≤ 4096)
    (hd : Rng t → (rootN t).length = 1 → Dp t f) (hc : chkT t f = 0) (r0 : Nat) (hr0 : (rootsT t)[0]? = some (r0 : Int)) :
    Calls Tryz.prog 80 #[v] W (Post (E (I (r0 : Nat))) W) := by
  refine enter (args := [v]) (As := [Dv treeE Go.Mono.G0 t]) Tryz.func80 rfl Tryz.ntmps80 (Nat.le_of_ble_eq_true rfl) ?_ (fun a hf => ?_) (Nat.le_of_ble_eq_true rfl)
  rotate_left
  dsimp only [params, Nat.reduceAdd] at hf
  rotate_right
  · exact arg1 (Dv.weak h fun b _ hb => hb.elim)
  have e := Ext.rfl' W
  repeat refine seq ?_
  refine regn0 ?_
  refine tl_as hf rfl (by decide) fun a hf => ?_
  refine tl_nil ?_
  repeat refine seq ?_
  refine regn 3 hf (by decide +kernel) ?_
  refine st (mv rfl) ?_
  refine st (call1 En25 rfl (fun v w he h => chkT_spec t f _ w h hl hd)) ?_
  refine st ((neq rfl rfl).eq (congrArg Value.bool (show (chkT t f != 0) = false from by rw [hc]; rfl))) ?_
  refine en fun a w e' hf => ?_
  replace e := Ext.tr e e'
  clear e'
  refine tl_nil ?_
  repeat refine seq ?_
  refine ifc hf rfl (fun h => by cases h) (fun _ => ?_)
  refine wskip ?_
  try simp only [Exit.then, Exit.inBlock, ↓reduceIte]
  repeat refine seq ?_
  refine regn 4 hf (by decide +kernel) ?_
  refine st (mv rfl) ?_
  refine st (call1 En67 rfl (fun v w he h => roots_spec (G := Go.Mono.G0) t _ w h (fun b hb => hb.elim) hl)) ?_
  refine st (idxD Tryz.underlying59 S3 (isR rfl) rfl (by omega) (hr0)) ?_
  refine st (ldI T3 (isR rfl)) ?_
  refine en fun a w e' hf => ?_
  replace e := Ext.tr e e'
  clear e'
  refine tl_as hf rfl (by decide) fun a hf => ?_
  refine tl_nil ?_
  refine wret ?_
  try simp only [Exit.then, Exit.inBlock]
  refine ret1 rfl hf rfl ?_
  rintro _ rfl
  exact ⟨_, rfl, e, rfl⟩

theorem of_spec {G : Nat → Prop} (r : List Int) (v : Value) (W : World) (h : (Dv (slE intE) G r).p v W) (hl : r.length ≤ 4096) :
    Calls Tryz.prog 29 #[v] W (Post (E (setV (r.foldl ins 0))) W) := by
  refine enter (args := [v]) (As := [Dv (slE intE) (GB W G) r]) Tryz.func29 rfl Tryz.ntmps29 (Nat.le_of_ble_eq_true rfl) ?_ (fun a hf => ?_) (Nat.le_of_ble_eq_true rfl)
  rotate_left
  dsimp only [params, Nat.reduceAdd] at hf
  rotate_right
  · exact arg1 (Dv.toB h)
  have e := Ext.rfl' W
  repeat refine seq ?_
  refine regn0 ?_
  refine tl_alloc I67 hf (by decide) fun a b2 w e' hb2 hs2 B2 hf => ?_
  have hle2 := Nat.le_trans e.size (Nat.le_of_eq hb2.symm)
  replace e := Ext.tr e e'
  clear e'
  refine tl_nil ?_
  repeat refine seq ?_
  refine regn0 ?_
  refine tl_alloc I67 hf (by decide) fun a b3 w e' hb3 hs3 B3 hf => ?_
  have hle3 := Nat.le_trans e.size (Nat.le_of_eq hb3.symm)
  have lt3_B2 := B2.lt
  replace e := Ext.tr e e'
  replace B2 := B2.ext e'
  clear e'
  refine tl_nil ?_
  have hne : b2 ≠ b3 := by omega
  simp only [Value.cells, zeroC] at B2 B3
  repeat refine seq ?_
  refine regn 3 hf (by decide +kernel) ?_
  refine st (mv rfl) ?_
  refine st (lenD Tryz.underlying59 (isR rfl)) ?_
  refine st (mv rfl) ?_
  refine en fun a w e' hf => ?_
  replace e := Ext.tr e e'
  replace B2 := B2.ext e'
  replace B3 := B3.ext e'
  clear e'
  refine tl_nil ?_
  replace hf := hf.keep [2, 3, 6, 7, 8]
  dsimp only [keep, List.filterMap, look, Nat.beq, Option.map] at hf
  repeat refine seq ?_
  refine blk (loopN (fun r0 a w => ∃ (k : Nat) , r0 = r.length - k ∧ k ≤ r.length ∧ Fr 17 a w [(2, E (.pointer (some ⟨b2, 0, none⟩))), (3, E (.pointer (some ⟨b3, 0, none⟩))), (6, Dv (slE intE) (GB W G) r), (7, E (I (r.length : Nat))), (8, E (I k))] ∧ Ext W w ∧ Blk w b2 (setC 0) 67 ∧ Blk w b3 (setC ((r.take k).foldl ins 0)) 67) r.length ⟨0, rfl, by omega, hf, e, B2, B3⟩ ?_)
  clear hf e; try clear B2; try clear B3
  rintro r0 a w ⟨k, rfl, hk, hf, e, B2, B3⟩
  repeat refine seq ?_
  refine regn 1 hf (by decide +kernel) ?_
  refine st (lss rfl rfl) ?_
  refine en fun a w e' hf => ?_
  replace e := Ext.tr e e'
  replace B2 := B2.ext e'
  replace B3 := B3.ext e'
  clear e'
  refine tl_nil ?_
  repeat refine seq ?_
  refine ifc hf rfl (fun hc => wskip ?_) (fun hc => wexit ?_)
  rotate_left
  rotate_left
  · have hlt : k < r.length := by have := of_decide_eq_true hc; (try dsimp only at this); omega
    clear hc
    replace hf := hf.keep [2, 3, 6, 7, 8]
    dsimp only [keep, List.filterMap, look, Nat.beq, Option.map] at hf
    repeat refine seq ?_
    refine blk ?_
    have hx := gi_get hlt
    have hS : (r.take (k + 1)).foldl ins 0 = ins ((r.take k).foldl ins 0) (gi r k) := by rw [gi_take hlt, List.foldl_append]; rfl
    repeat refine seq ?_
    refine regn 2 hf (by decide +kernel) ?_
    refine st (idxD Tryz.underlying59 S3 (isR rfl) rfl (by omega) (hx)) ?_
    refine st (ldI T3 (isR rfl)) ?_
    refine en fun a w e' hf => ?_
    replace e := Ext.tr e e'
    replace B2 := B2.ext e'
    replace B3 := B3.ext e'
    clear e'
    refine tl_as hf rfl (by decide) fun a hf => ?_
    refine tl_nil ?_
    repeat refine seq ?_
    refine regn 3 hf (by decide +kernel) ?_
    refine st (ldW T67 rfl (by assumption) rfl) ?_
    refine st (mv rfl) ?_
    refine st (call2 En87 rfl rfl (fun v u w he h h' => by cases h; cases h'; exact with_spec _ _ w)) ?_
    refine en fun a w e' hf => ?_
    replace e := Ext.tr e e'
    replace B2 := B2.ext e'
    replace B3 := B3.ext e'
    clear e'
    haveI hinr : ∀ G0, InR (GB W G0) (some b3) := fun G0 => InR.gb (by omega)
    refine tl_stW T67 hf rfl rfl (wordsC_one _) B3 rfl (rfl) fun w hg hsz B3 hf => ?_
    replace e := e.gr hg (by omega)
    replace B2 := B2.gr hg (by omega)
    clear hg
    refine tl_nil ?_
    try simp only [Exit.then, Exit.inBlock, ↓reduceIte]
    rw [← hS] at B3
    try simp only [Exit.then, Exit.inBlock, ↓reduceIte]
    repeat refine seq ?_
    refine regn 1 hf (by decide +kernel) ?_
    refine st ((add rfl rfl (by omega)).eq (congrArg (Value.int .i64) (show (k : Int) + 1 = ((k + 1 : Nat) : Int) from rfl))) ?_
    refine en fun a w e' hf => ?_
    replace e := Ext.tr e e'
    replace B2 := B2.ext e'
    replace B3 := B3.ext e'
    clear e'
    refine tl_op hf (by decide) (mv rfl) fun a w e' hf => ?_
    replace e := Ext.tr e e'
    replace B2 := B2.ext e'
    replace B3 := B3.ext e'
    clear e'
    refine tl_nil ?_
    replace hf := hf.keep [2, 3, 6, 7, 8]
    dsimp only [keep, List.filterMap, look, Nat.beq, Option.map] at hf
    refine ⟨_, ?_, k + 1, rfl, by omega, hf, e, ?_⟩
    · omega
    exact ⟨B2, B3⟩
  · obtain rfl : k = r.length := by have := of_decide_eq_false hc; (try dsimp only at this); omega
    clear hc
    simp only [Exit.then, Exit.inBlock, ↓reduceIte]
    rw [List.take_length] at B3
    replace hf := hf.keep [2, 3]
    dsimp only [keep, List.filterMap, look, Nat.beq, Option.map] at hf
    repeat refine seq ?_
    refine regn 1 hf (by decide +kernel) ?_
    refine st (ldW T67 rfl (by assumption) rfl) ?_
    refine en fun a w e' hf => ?_
    replace e := Ext.tr e e'
    replace B2 := B2.ext e'
    replace B3 := B3.ext e'
    clear e'
    haveI hinr : ∀ G0, InR (GB W G0) (some b2) := fun G0 => InR.gb (by omega)
    refine tl_stW T67 hf rfl rfl (wordsC_one _) B2 rfl (rfl) fun w hg hsz B2 hf => ?_
    replace e := e.gr hg (by omega)
    replace B3 := B3.gr hg (by omega)
    clear hg
    refine tl_nil ?_
    refine wret (retS rfl T67 hf rfl B2 e rfl)
end Go.Mono

namespace Go.Mono
open Go Go.RowKit

/-- block b is a map of at most n entries, that holds m -/
def MapR (P : Program) (k e : TypeId) (w : World) (b n : Nat) (m : Int → Option Int) : Prop :=
  ∃ D : DataW Unit, w.ownsMap P k (plainElem P e) b n D ∧ Maps.IsMap D ∧ ∀ x : Int, (Lit.int .i64 x).wf = true → Maps.has D (.int .i64 x) = (m x).isSome ∧ D.atKey (.int .i64 x) (.lit (.int .i64 0)) = .lit (.int .i64 ((m x).getD 0))
variable {P : Program} {k e : TypeId} {w w' : World} {b n : Nat} {m : Int → Option Int}
theorem MapR.pres (h : MapR P k e w b n m) (hb : w'.heap[b]? = w.heap[b]?) : MapR P k e w' b n m := by
  obtain ⟨D, ⟨es, clock, h1, h2⟩, h3⟩ := h
  exact ⟨D, ⟨es, clock, hb.trans h1, h2⟩, h3⟩
theorem MapR.lt (h : MapR P k e w b n m) : b < w.heap.size := by
  obtain ⟨D, h1, _⟩ := h
  exact h1.lt
def mapE (P : Program) (k e : TypeId) : Enc (Int → Option Int) where
  k := 1
  agg := false
  r := fun G w m cs => ∃ b n, cs = [.map (some b)] ∧ ¬G b ∧ MapR P k e w b n m
  pos := by decide
  k1 := fun _ => rfl
  len := fun ⟨b, n, h, _⟩ => by rw [h]; rfl
  one := fun ⟨b, n, h, _⟩ u hu => by rw [h] at hu; simp at hu; subst hu; rfl
  pres := fun ⟨b, n, h1, h2, h3⟩ hk hs => ⟨b, n, h1, h2, h3.pres (hk b h3.lt h2)⟩
  weak := fun ⟨b, n, h1, h2, h3⟩ hk => ⟨b, n, h1, fun hg => h2 (hk b h3.lt hg), h3⟩
theorem MapR.dv (h : MapR P k e w b n m) {G : Nat → Prop} (hG : ¬G b) : (Dv (mapE P k e) G m).p (.map (some b)) w := ⟨_, ⟨b, n, rfl, hG, h⟩, rfl⟩

/-- a new map -/
theorem MapR.made (w : World) : MapR P k e (w.alloc (.map #[] 0)) w.heap.size 0 (fun _ => none) :=
  ⟨_, World.ownsMap_made w P k _, Maps.isMap_empty, fun x _ => ⟨rfl, rfl⟩⟩
theorem run_mapPut {t : TypeId} (h : MapR P k e w b n m) (hk : P.underlying k = some (.int .i64)) (he : P.underlying e = some (.int .i64)) (ht : P.underlying t = some (.map k e)) (hn : n < maxLen) {x c : Int} (hx : (Lit.int .i64 x).wf = true) (hc : (Lit.int .i64 c).wf = true) :
    ∃ w', (Instr.mapUpdate t (.map (some b)) (.int .i64 x) (.int .i64 c)).run P w = .ok () w' ∧ MapR P k e w' b (n + 1) (fun y => if y = x then some c else m y) ∧ w.grownBy w' (some b) := by
  obtain ⟨D, h1, h2, h3⟩ := h
  obtain ⟨w', r1, r2, r3⟩ := h1.update (Maps.int_keyed hk) ht hn (Maps.keyOf_int_mk hk hx) (plainElem_int he hc)
  have hkl : WideAt.IsKeyLit (.int .i64 x) := (Maps.int_keyed hk).one.key ⟨_, Maps.keyOf_int_mk hk hx⟩
  refine ⟨w', r1, ⟨_, r2, h2.put _ _, fun y hy => ?_⟩, r3⟩
  by_cases hyx : y = x
  · subst hyx
    rw [Maps.has_put_same h2 hkl, Maps.atKey_put_same h2 hkl]
    simp
  · have hne : (Lit.int .i64 y) ≠ (Lit.int .i64 x) := by simp [hyx]
    rw [Maps.has_put_other hne, Maps.atKey_put_other hne]
    simp [hyx, h3 y hy]
theorem run_mapGet {t : TypeId} (h : MapR P k e w b n m) (hk : P.underlying k = some (.int .i64)) (he : P.underlying e = some (.int .i64)) (ht : P.underlying t = some (.map k e)) (hz : (zeroValue e).run P w = .ok (.int .i64 0) w) {x : Int} (hx : (Lit.int .i64 x).wf = true) :
    (Instr.lookup t (.map (some b)) (.int .i64 x) true).run P w = .ok (.tuple #[.int .i64 ((m x).getD 0), .bool (m x).isSome]) w := by
  obtain ⟨D, h1, h2, h3⟩ := h
  obtain ⟨v, ps, r1, r2⟩ := h1.look_ok (Maps.int_keyed hk) ht hz (plainElem_int he (by decide)) (Maps.keyOf_int_mk hk hx)
  obtain ⟨a, rfl, ha, _⟩ := plainElem_int_inv he r2
  obtain ⟨h4, h5⟩ := h3 x hx
  have h6 := congrArg Prod.fst ha
  simp only at h6
  rw [h5] at h6
  cases h6
  rw [r1, h4]
theorem zero_of {t : TypeId} {z : Value} {sz bz : Nat} (h : (P.info? t).map (fun i => (i.zero, i.size, i.bytes)) = some (some z, sz, bz)) : ∀ w, (zeroValue t).run P w = .ok z w := fun w => by
  obtain ⟨i, hi, hzi, _, _⟩ := info_parts h
  simp [zeroValue, typeInfo, hi, hzi]
section
variable {w0 : World} {L : Env} {dst : Option Tmp} {ty : TypeId} {pos : String} {aft : Array Edge} {g : Option (Nat × Bool)}
/-- v, ok := m[x] -/
theorem getM {x y : Operand} {t : TypeId} {G : Nat → Prop} {i : Int} (hk : P.underlying k = some (.int .i64)) (he : P.underlying e = some (.int .i64)) (ht : P.underlying t = some (.map k e)) (hz : ∀ w, (zeroValue e).run P w = .ok (.int .i64 0) w)
    (hx : Is L w0 x (Dv (mapE P k e) G m)) (hy : opd L y = some (E (.int .i64 i))) (hi : (Lit.int .i64 i).wf = true) : OpC P w0 L ⟨dst, .lookup t x y true, ty, pos, aft, g⟩ (Tup [E (.int .i64 ((m i).getD 0)), E (.bool (m i).isSome)]) :=
  opc_pure fun ρ w he' hv => by
    obtain ⟨cs, ⟨b, n, h1, h2, h3⟩, h4⟩ := hx.v he' hv (by simp [Op.operands])
    subst h1
    have h5 : ρ x = .map (some b) := h4
    have h6 := opE hv (x := y) (by simp [Op.operands]) hy
    exact ⟨_, by simp only [execOp, h5, h6, Sem.run_bind, run_mapGet h3 hk he ht (hz w) hi, Result.andThen_ok, Sem.run_pure], Tup.two rfl rfl⟩
end
end Go.Mono

namespace Go.Mono
open Go Go.RowKit
variable {P : Program} {w0 : World} {L : Env} {dst : Option Tmp} {ty : TypeId} {pos : String} {aft : Array Edge} {g : Option (Nat × Bool)} {x y : Operand} {t yt : TypeId}
variable {α β : Type} {e : Enc α} {G : Nat → Prop} {z : α}

theorem nilC (hx : Is L w0 x (Dv (ptE e) G (some z))) : OpC P w0 L ⟨dst, .nilCheck x, ty, pos, aft, g⟩ (Dv (ptE e) G (some z)) :=
  opc_pure fun ρ w he hv => by
    have h := hx.v he hv (by simp [Op.operands])
    obtain ⟨ad, h1, h2⟩ := Dv.pt.1 h
    exact ⟨ρ x, by simp [execOp, h1], h⟩
theorem nilE {ad : Addr} (hx : opd L x = some (E (.pointer (some ad)))) : OpC P w0 L ⟨dst, .nilCheck x, ty, pos, aft, g⟩ (E (.pointer (some ad))) :=
  opc_pure fun ρ w he hv => by
    have h1 := opE hv (x := x) (by simp [Op.operands]) hx
    exact ⟨ρ x, by simp [execOp, h1], h1⟩
theorem opc_cmp {op : BinOp} {A : VA} {c : Value} {b : Bool} (hx : Is L w0 x A) (h : ∀ v w, A.p v w → (eqGuard op t x (.const c) v c).run P w = .ok () w ∧ (binOp op t v c).run P w = .ok (.bool b) w) :
    OpC P w0 L ⟨dst, .binOp op t x (.const c) yt, ty, pos, aft, g⟩ (E (.bool b)) :=
  opc_pure fun ρ w he hv => by
    have h1 := hx.v he hv (by simp [Op.operands])
    have h2 : ρ (.const c) = c := hv (.const c) (by simp [Op.operands]) _ rfl
    obtain ⟨h3, h4⟩ := h _ _ h1
    exact ⟨_, by simp only [execOp, h2, Sem.run_bind, h3, h4, Result.andThen_ok, Sem.run_pure], rfl⟩
theorem ptee {pe : TypeId} (h : P.underlying t = some (.pointer pe)) : P.underlying t = some (.pointer (P.pointee t)) := by
  rw [h]; simp [Program.pointee, h]
theorem neqP {pe : TypeId} (ht0 : P.underlying t = some (.pointer pe)) (hx : Is L w0 x (Dv (ptE e) G (some z))) : OpC P w0 L ⟨dst, .binOp .neq t x (.const (.pointer none)) yt, ty, pos, aft, g⟩ (E (.bool true)) :=
  have ht := ptee ht0
  opc_cmp hx fun v w h => by
    obtain ⟨ad, h1, _⟩ := Dv.pt.1 h
    subst h1
    exact ⟨rfl, run_neq_pointer_nil w t (some ad) ht⟩
theorem eqlP {pe : TypeId} (ht0 : P.underlying t = some (.pointer pe)) (hx : Is L w0 x (Dv (ptE e) G (some z))) : OpC P w0 L ⟨dst, .binOp .eql t x (.const (.pointer none)) yt, ty, pos, aft, g⟩ (E (.bool false)) :=
  have ht := ptee ht0
  opc_cmp hx fun v w h => by
    obtain ⟨ad, h1, _⟩ := Dv.pt.1 h
    subst h1
    exact ⟨rfl, run_eql_pointer_nil w t (some ad) ht⟩
theorem neqP0 {pe : TypeId} (ht0 : P.underlying t = some (.pointer pe)) (hx : Is L w0 x (E (.pointer none))) : OpC P w0 L ⟨dst, .binOp .neq t x (.const (.pointer none)) yt, ty, pos, aft, g⟩ (E (.bool false)) :=
  have ht := ptee ht0
  opc_cmp hx fun v w h => by cases h; exact ⟨rfl, run_neq_pointer_nil w t none ht⟩
/-- a part of a struct's value: one cell -/
theorem fieldD {fs : Array Field} {f : Nat} {fl : Field} {e' : Enc β} {q : α → β} (ha : e.agg = true) (ht : P.underlying t = some (.struct fs)) (hf : fs[f]? = some fl) (hs : TI P fl.type false 1) (ha' : e'.agg = false) (F : Fld e fl.offset e' q)
    (hx : Is L w0 x (Dv e G z)) : OpC P w0 L ⟨dst, .field t x f, ty, pos, aft, g⟩ (Dv e' G (q z)) :=
  opc_pure fun ρ w he hv => by
    obtain ⟨cs, h1, h2⟩ := hx.v he hv (by simp [Op.operands])
    obtain ⟨c, h3, h4⟩ := F.at' h1
    have hl := e'.len h3
    rw [e'.k1 ha'] at hl
    match c, hl with
    | [u], _ =>
      have h5 := h4 0 u rfl
      rw [Enc.pack, ha] at h2
      have h2' : ρ x = .agg cs.toArray := h2
      refine ⟨u, ?_, [u], h3, ?_⟩
      · have h6 : cs[fl.offset]? = some u := by simpa using h5
        simp [execOp, h2', Instr.field, run_underlying ht, hf, asAgg, part, hs.agg, h6]
      · rw [Enc.pack, ha']; rfl
theorem fieldI {fs : Array Field} {f : Nat} {fl : Field} {q : α → Int} (ha : e.agg = true) (ht : P.underlying t = some (.struct fs)) (hf : fs[f]? = some fl) (hs : TI P fl.type false 1) (F : Fld e fl.offset intE q)
    (hx : Is L w0 x (Dv e G z)) : OpC P w0 L ⟨dst, .field t x f, ty, pos, aft, g⟩ (E (.int .i64 (q z))) := (fieldD (e' := intE) ha ht hf hs rfl F hx).conv fun v w => Dv.int.1
end Go.Mono
namespace Go.Mono
open Go Go.RowKit
theorem bldK {P : Program} {w0 : World} {L : Env} {dst : Option Tmp} {ty : TypeId} {pos : String} {aft : Array Edge} {g : Option (Nat × Bool)} {t : TypeId} {i : Nat} {c : Value} {cs : Array Value} (hb : P.built t [(i, c)] = some cs) :
    OpC P w0 L ⟨dst, .build t #[(i, .const c)], ty, pos, aft, g⟩ (E (.agg cs)) :=
  opc_pure fun ρ w _ hv => by
    have h2 : ρ (.const c) = c := hv (.const c) (by simp [Op.operands]) _ rfl
    exact ⟨_, by simp only [execOp, List.map_toArray, List.map_cons, List.map_nil, h2, Sem.run_bind, run_build w t _ cs (by simpa using hb), Result.andThen_ok, Sem.run_pure], rfl⟩
end Go.Mono
namespace Go.Mono
open Go Go.RowKit
end Go.Mono

namespace Go.Mono
open Go Go.Proofs Go.RowKit

/-- derived data of a bag: kids, light, size, heavy, deep -/
abbrev Nd := List Int × List Int × Int × Int × Int
abbrev nodeE : Enc Nd := prE (slE intE) (prE (slE intE) (prE intE (prE intE intE)))
abbrev Fm := List (Int × BS) × List Nd × (Int → Option Int)
noncomputable abbrev frE : Enc Fm := prE treeE (prE (slE nodeE) (mapE Tryz.prog 3 3))
def inT (t : List (Int × BS)) (b : Int) : Bool := decide (0 ≤ b) && decide (b < (t.length : Nat))

theorem fis_spec {G : Nat → Prop} (F : Fm) (b : Int) (v : Value) (W : World) (h : (Dv (ptE frE) G (some F)).p v W) :
    Calls Tryz.prog 46 #[v, I b] W (Post (E (B (inT F.1 b))) W) := by
  refine enter (args := [v, I b]) (As := [Dv (ptE frE) G (some F), E (I b)]) Tryz.func46 rfl Tryz.ntmps46 (Nat.le_of_ble_eq_true rfl) ?_ (fun a hf => ?_) (Nat.le_of_ble_eq_true rfl)
  rotate_left
  dsimp only [params, Nat.reduceAdd] at hf
  rotate_right
  · exact arg2 h rfl
  have e := Ext.rfl' W
  repeat refine seq ?_
  refine regn0 ?_
  refine tl_as hf rfl (by decide) fun a hf => ?_
  refine tl_nil ?_
  cases h1 : decide (0 ≤ b)
  · repeat refine seq ?_
    refine regn 15 hf (by decide +kernel) ?_
    refine st (mv rfl) ?_
    refine st (neqP Tryz.underlying27 (isR rfl)) ?_
    refine st (mv rfl) ?_
    refine sy rfl rfl (mv rfl) ?_
    refine sy rfl rfl ((geq rfl rfl).eq (congrArg Value.bool (h1))) ?_
    refine st (pkT rfl rfl) ?_
    refine st (mv rfl) ?_
    refine sn rfl rfl rfl ?_
    refine sn rfl rfl rfl ?_
    refine sn rfl rfl rfl ?_
    refine sn rfl rfl rfl ?_
    refine sn rfl rfl rfl ?_
    refine sn rfl rfl rfl ?_
    refine sn rfl rfl rfl ?_
    refine st (pkF rfl rfl) ?_
    refine en fun a w e' hf => ?_
    replace e := Ext.tr e e'
    clear e'
    refine tl_as hf rfl (by decide) fun a hf => ?_
    refine tl_nil ?_
    refine wret ?_
    try simp only [Exit.then, Exit.inBlock]
    refine ret1 rfl hf rfl ?_
    rintro _ rfl
    exact ⟨_, rfl, e, congrArg B (by rw [inT, h1]; rfl)⟩
  · repeat refine seq ?_
    refine regn 15 hf (by decide +kernel) ?_
    refine st (mv rfl) ?_
    refine st (neqP Tryz.underlying27 (isR rfl)) ?_
    refine st (mv rfl) ?_
    refine sy rfl rfl (mv rfl) ?_
    refine sy rfl rfl ((geq rfl rfl).eq (congrArg Value.bool (h1))) ?_
    refine st (pkT rfl rfl) ?_
    refine st (mv rfl) ?_
    refine sy rfl rfl (mv rfl) ?_
    refine sy rfl rfl (mv rfl) ?_
    refine sy rfl rfl (nilC (isR rfl)) ?_
    refine sy rfl rfl (fldD Tryz.underlying92 rfl T23 (by decide) (Fld.fst Fld.refl) (isR rfl)) ?_
    refine sy rfl rfl (ldD T23 (isR rfl)) ?_
    refine sy rfl rfl (lenD Tryz.underlying23 (isR rfl)) ?_
    refine sy rfl rfl (lss rfl rfl) ?_
    refine st (pkT rfl rfl) ?_
    refine en fun a w e' hf => ?_
    replace e := Ext.tr e e'
    clear e'
    refine tl_as hf rfl (by decide) fun a hf => ?_
    refine tl_nil ?_
    refine wret ?_
    try simp only [Exit.then, Exit.inBlock]
    refine ret1 rfl hf rfl ?_
    rintro _ rfl
    exact ⟨_, rfl, e, congrArg B (by rw [inT, h1]; rfl)⟩

def ndG (F : Fm) (i : Nat) : Nd := match F.2.1[i]? with
  | some x => x
  | none => ([], [], 0, -1, 0)
theorem ndG_get {F : Fm} {i : Nat} (h : i < F.2.1.length) : F.2.1[i]? = some (ndG F i) := by simp [ndG, h]
def ofF (F : Fm) (b : Int) : Nd := if inT F.1 b then ndG F b.toNat else ([], [], 0, -1, 0)
theorem bld_nd0 : Tryz.prog.built 130 [(3, I (-1))] = some #[.slice none 0 0, .slice none 0 0, I 0, I (-1), I 0] := by kernel_rfl
theorem node0 {G : Nat → Prop} {w : World} : nodeE.r G w ([], [], 0, -1, 0) [.slice none 0 0, .slice none 0 0, I 0, I (-1), I 0] :=
  ⟨[.slice none 0 0], [.slice none 0 0, I 0, I (-1), I 0], rfl, ⟨_, rfl, .inl ⟨rfl, rfl⟩⟩, [.slice none 0 0], [I 0, I (-1), I 0], rfl, ⟨_, rfl, .inl ⟨rfl, rfl⟩⟩, [I 0], [I (-1), I 0], rfl, rfl, [I (-1)], [I 0], rfl, rfl, rfl⟩

theorem fof_spec {G : Nat → Prop} (F : Fm) (b : Int) (v : Value) (W : World) (h : (Dv (ptE frE) G (some F)).p v W) (hl : F.2.1.length = F.1.length) :
    Calls Tryz.prog 90 #[v, I b] W (Post (Dv nodeE G (ofF F b)) W) := by
  refine enter (args := [v, I b]) (As := [Dv (ptE frE) (GB W G) (some F), E (I b)]) Tryz.func90 rfl Tryz.ntmps90 (Nat.le_of_ble_eq_true rfl) ?_ (fun a hf => ?_) (Nat.le_of_ble_eq_true rfl)
  rotate_left
  dsimp only [params, Nat.reduceAdd] at hf
  rotate_right
  · exact arg2 (Dv.toB h) rfl
  have e := Ext.rfl' W
  repeat refine seq ?_
  refine regn0 ?_
  refine tl_alloc I130 hf (by decide) fun a b4 w e' hb4 hs4 B4 hf => ?_
  have hle4 := Nat.le_trans e.size (Nat.le_of_eq hb4.symm)
  replace e := Ext.tr e e'
  clear e'
  refine tl_nil ?_
  repeat refine seq ?_
  refine regn 4 hf (by decide +kernel) ?_
  refine st (mv rfl) ?_
  refine st (mv rfl) ?_
  refine st (call2 En46 rfl rfl (fun v u w he h h' => by cases h'; exact fis_spec F _ _ w h)) ?_
  refine st (notp rfl) ?_
  refine en fun a w e' hf => ?_
  replace e := Ext.tr e e'
  replace B4 := B4.ext e'
  clear e'
  refine tl_nil ?_
  repeat refine seq ?_
  refine ifc hf rfl (fun hb => ?_) (fun hb => ?_)
  · have hb' : inT F.1 b = false := by simpa using hb
    replace hf := hf.keep [4]
    dsimp only [keep, List.filterMap, look, Nat.beq, Option.map] at hf
    repeat refine seq ?_
    refine regn 1 hf (by decide +kernel) ?_
    refine st (bldK bld_nd0) ?_
    refine en fun a w e' hf => ?_
    replace e := Ext.tr e e'
    replace B4 := B4.ext e'
    clear e'
    haveI hinr : ∀ G0, InR (GB W G0) (some b4) := fun G0 => InR.gb (by omega)
    refine tl_stW T130 hf rfl rfl (by decide +kernel) B4 rfl (rfl) fun w hg hsz B4 hf => ?_
    replace e := e.gr hg (by omega)
    clear hg
    refine tl_nil ?_
    refine wret (retc rfl T130 hf rfl B4 rfl ⟨_, rfl, e, ?_⟩)
    rw [ofF, hb']
    exact ⟨_, node0, rfl⟩
  · have hb' : inT F.1 b = true := by simpa using hb
    have hb2 : 0 ≤ b ∧ b < (F.1.length : Nat) := by simpa [inT] using hb'
    refine wskip ?_
    try simp only [Exit.then, Exit.inBlock, ↓reduceIte]
    repeat refine seq ?_
    refine regn 7 hf (by decide +kernel) ?_
    refine st (mv rfl) ?_
    refine st (nilC (isR rfl)) ?_
    refine st (fldD Tryz.underlying92 rfl T89 (by decide) (Fld.snd (Fld.fst Fld.refl) rfl) (isR rfl)) ?_
    refine st (ldD T89 (isR rfl)) ?_
    refine st (mv rfl) ?_
    refine st (idxD Tryz.underlying89 S130 (isR rfl) rfl (by omega) (ndG_get (i := b.toNat) (by omega))) ?_
    refine st (ldD T130 (isR rfl)) ?_
    refine en fun a w e' hf => ?_
    replace e := Ext.tr e e'
    replace B4 := B4.ext e'
    clear e'
    obtain ⟨v, ⟨cs, hcs, hv⟩, hf⟩ := hf.fix 16 rfl
    subst hv
    have hcl : cs.toArray.size = 5 := by rw [List.size_toArray]; exact nodeE.len hcs
    replace hf := hf.keep [4, 16]
    dsimp only [keep, List.filterMap, look, Nat.beq, Option.map] at hf
    haveI hinr : ∀ G0, InR (GB W G0) (some b4) := fun G0 => InR.gb (by omega)
    refine tl_stW T130 hf rfl rfl (Array.all_eq_true_iff_forall_mem.2 fun u hu => nodeE.one hcs u (by simpa using hu)) B4 rfl hcl fun w hg hsz B4 hf => ?_
    replace e := e.gr hg (by omega)
    replace hcs := Enc.gro hcs hg (fun c hc => by cases hc; exact .inr (by omega))
    refine tl_nil ?_
    refine wret (retc rfl T130 hf rfl B4 hcl ⟨_, rfl, e, ?_⟩)
    rw [ofF, hb']
    exact ⟨cs, nodeE.weak hcs fun b _ hb => .inl hb, rfl⟩
end Go.Mono

namespace Go.Mono
open Go Go.Proofs Go.RowKit

theorem fsize_spec {G : Nat → Prop} (F : Fm) (b : Int) (v : Value) (W : World) (h : (Dv (ptE frE) G (some F)).p v W) (hl : F.2.1.length = F.1.length) :
    Calls Tryz.prog 35 #[v, I b] W (Post (E (I (ofF F b).2.2.1)) W) := by
  refine enter (args := [v, I b]) (As := [Dv (ptE frE) G (some F), E (I b)]) Tryz.func35 rfl Tryz.ntmps35 (Nat.le_of_ble_eq_true rfl) ?_ (fun a hf => ?_) (Nat.le_of_ble_eq_true rfl)
  rotate_left
  dsimp only [params, Nat.reduceAdd] at hf
  rotate_right
  · exact arg2 h rfl
  have e := Ext.rfl' W
  repeat refine seq ?_
  refine regn0 ?_
  refine tl_as hf rfl (by decide) fun a hf => ?_
  refine tl_nil ?_
  repeat refine seq ?_
  refine regn 4 hf (by decide +kernel) ?_
  refine st (mv rfl) ?_
  refine st (mv rfl) ?_
  refine st (call2 En90 rfl rfl (fun v u w he h h' => by cases h'; exact fof_spec F _ _ w h hl)) ?_
  refine st (fieldI rfl Tryz.underlying130 rfl T3 (Fld.snd (Fld.snd (Fld.fst Fld.refl) rfl) rfl) (isR rfl)) ?_
  refine en fun a w e' hf => ?_
  replace e := Ext.tr e e'
  clear e'
  refine tl_as hf rfl (by decide) fun a hf => ?_
  refine tl_nil ?_
  refine wret ?_
  try simp only [Exit.then, Exit.inBlock]
  refine ret1 rfl hf rfl ?_
  rintro _ rfl
  exact ⟨_, rfl, e, rfl⟩

theorem fheavy_spec {G : Nat → Prop} (F : Fm) (b : Int) (v : Value) (W : World) (h : (Dv (ptE frE) G (some F)).p v W) (hl : F.2.1.length = F.1.length) :
    Calls Tryz.prog 36 #[v, I b] W (Post (E (I (ofF F b).2.2.2.1)) W) := by
  refine enter (args := [v, I b]) (As := [Dv (ptE frE) G (some F), E (I b)]) Tryz.func36 rfl Tryz.ntmps36 (Nat.le_of_ble_eq_true rfl) ?_ (fun a hf => ?_) (Nat.le_of_ble_eq_true rfl)
  rotate_left
  dsimp only [params, Nat.reduceAdd] at hf
  rotate_right
  · exact arg2 h rfl
  have e := Ext.rfl' W
  repeat refine seq ?_
  refine regn0 ?_
  refine tl_as hf rfl (by decide) fun a hf => ?_
  refine tl_nil ?_
  repeat refine seq ?_
  refine regn 4 hf (by decide +kernel) ?_
  refine st (mv rfl) ?_
  refine st (mv rfl) ?_
  refine st (call2 En90 rfl rfl (fun v u w he h h' => by cases h'; exact fof_spec F _ _ w h hl)) ?_
  refine st (fieldI rfl Tryz.underlying130 rfl T3 (Fld.snd (Fld.snd (Fld.snd (Fld.fst Fld.refl) rfl) rfl) rfl) (isR rfl)) ?_
  refine en fun a w e' hf => ?_
  replace e := Ext.tr e e'
  clear e'
  refine tl_as hf rfl (by decide) fun a hf => ?_
  refine tl_nil ?_
  refine wret ?_
  try simp only [Exit.then, Exit.inBlock]
  refine ret1 rfl hf rfl ?_
  rintro _ rfl
  exact ⟨_, rfl, e, rfl⟩

theorem fdepth_spec {G : Nat → Prop} (F : Fm) (b : Int) (v : Value) (W : World) (h : (Dv (ptE frE) G (some F)).p v W) (hl : F.2.1.length = F.1.length) :
    Calls Tryz.prog 89 #[v, I b] W (Post (E (I (ofF F b).2.2.2.2)) W) := by
  refine enter (args := [v, I b]) (As := [Dv (ptE frE) G (some F), E (I b)]) Tryz.func89 rfl Tryz.ntmps89 (Nat.le_of_ble_eq_true rfl) ?_ (fun a hf => ?_) (Nat.le_of_ble_eq_true rfl)
  rotate_left
  dsimp only [params, Nat.reduceAdd] at hf
  rotate_right
  · exact arg2 h rfl
  have e := Ext.rfl' W
  repeat refine seq ?_
  refine regn0 ?_
  refine tl_as hf rfl (by decide) fun a hf => ?_
  refine tl_nil ?_
  repeat refine seq ?_
  refine regn 4 hf (by decide +kernel) ?_
  refine st (mv rfl) ?_
  refine st (mv rfl) ?_
  refine st (call2 En90 rfl rfl (fun v u w he h h' => by cases h'; exact fof_spec F _ _ w h hl)) ?_
  refine st (fieldI rfl Tryz.underlying130 rfl T3 (Fld.snd (Fld.snd (Fld.snd (Fld.snd Fld.refl rfl) rfl) rfl) rfl) (isR rfl)) ?_
  refine en fun a w e' hf => ?_
  replace e := Ext.tr e e'
  clear e'
  refine tl_as hf rfl (by decide) fun a hf => ?_
  refine tl_nil ?_
  refine wret ?_
  try simp only [Exit.then, Exit.inBlock]
  refine ret1 rfl hf rfl ?_
  rintro _ rfl
  exact ⟨_, rfl, e, rfl⟩

theorem fchildren_spec {G : Nat → Prop} (F : Fm) (b : Int) (v : Value) (W : World) (h : (Dv (ptE frE) G (some F)).p v W) (hl : F.2.1.length = F.1.length) (hn : (ofF F b).1.length ≤ 4096) :
    Calls Tryz.prog 48 #[v, I b] W (Post (Dv (slE intE) (fun b => b < W.heap.size) (ofF F b).1) W) := by
  refine enter (args := [v, I b]) (As := [Dv (ptE frE) G (some F), E (I b)]) Tryz.func48 rfl Tryz.ntmps48 (Nat.le_of_ble_eq_true rfl) ?_ (fun a hf => ?_) (Nat.le_of_ble_eq_true rfl)
  rotate_left
  dsimp only [params, Nat.reduceAdd] at hf
  rotate_right
  · exact arg2 h rfl
  have e := Ext.rfl' W
  repeat refine seq ?_
  refine regn0 ?_
  refine tl_as hf rfl (by decide) fun a hf => ?_
  refine tl_nil ?_
  repeat refine seq ?_
  refine regn 5 hf (by decide +kernel) ?_
  refine st (mv rfl) ?_
  refine st (mv rfl) ?_
  refine st (call2 En90 rfl rfl (fun v u w he h h' => by cases h'; exact fof_spec F _ _ w h hl)) ?_
  refine st (fieldD rfl Tryz.underlying130 rfl T59 rfl (Fld.fst Fld.refl) (isR rfl)) ?_
  refine st (call1 En85 rfl (fun v w he h => Calls.mono (cloneI_spec _ _ w h hn) (fun en w' ⟨u, h1, h2, h3⟩ => ⟨u, h1, h2, Dv.weak (G' := fun b => b < W.heap.size) h3 fun b _ hb => Nat.lt_of_lt_of_le hb (Nat.le_trans e.size he.size)⟩))) ?_
  refine en fun a w e' hf => ?_
  replace e := Ext.tr e e'
  clear e'
  refine tl_as hf rfl (by decide) fun a hf => ?_
  refine tl_nil ?_
  refine wret ?_
  try simp only [Exit.then, Exit.inBlock]
  refine ret1 rfl hf rfl ?_
  intro v hv
  exact ⟨_, rfl, e, hv⟩

theorem flight_spec {G : Nat → Prop} (F : Fm) (b : Int) (v : Value) (W : World) (h : (Dv (ptE frE) G (some F)).p v W) (hl : F.2.1.length = F.1.length) (hn : (ofF F b).2.1.length ≤ 4096) :
    Calls Tryz.prog 32 #[v, I b] W (Post (Dv (slE intE) (fun b => b < W.heap.size) (ofF F b).2.1) W) := by
  refine enter (args := [v, I b]) (As := [Dv (ptE frE) G (some F), E (I b)]) Tryz.func32 rfl Tryz.ntmps32 (Nat.le_of_ble_eq_true rfl) ?_ (fun a hf => ?_) (Nat.le_of_ble_eq_true rfl)
  rotate_left
  dsimp only [params, Nat.reduceAdd] at hf
  rotate_right
  · exact arg2 h rfl
  have e := Ext.rfl' W
  repeat refine seq ?_
  refine regn0 ?_
  refine tl_as hf rfl (by decide) fun a hf => ?_
  refine tl_nil ?_
  repeat refine seq ?_
  refine regn 5 hf (by decide +kernel) ?_
  refine st (mv rfl) ?_
  refine st (mv rfl) ?_
  refine st (call2 En90 rfl rfl (fun v u w he h h' => by cases h'; exact fof_spec F _ _ w h hl)) ?_
  refine st (fieldD rfl Tryz.underlying130 rfl T59 rfl (Fld.snd (Fld.fst Fld.refl) rfl) (isR rfl)) ?_
  refine st (call1 En85 rfl (fun v w he h => Calls.mono (cloneI_spec _ _ w h hn) (fun en w' ⟨u, h1, h2, h3⟩ => ⟨u, h1, h2, Dv.weak (G' := fun b => b < W.heap.size) h3 fun b _ hb => Nat.lt_of_lt_of_le hb (Nat.le_trans e.size he.size)⟩))) ?_
  refine en fun a w e' hf => ?_
  replace e := Ext.tr e e'
  clear e'
  refine tl_as hf rfl (by decide) fun a hf => ?_
  refine tl_nil ?_
  refine wret ?_
  try simp only [Exit.then, Exit.inBlock]
  refine ret1 rfl hf rfl ?_
  intro v hv
  exact ⟨_, rfl, e, hv⟩

theorem fbags_spec {G : Nat → Prop} (F : Fm) (v : Value) (W : World) (h : (Dv (ptE frE) G (some F)).p v W) (hl : F.1.length ≤ 4096) :
    Calls Tryz.prog 20 #[v] W (Post (Dv treeE (fun b => b < W.heap.size) F.1) W) := by
  refine enter (args := [v]) (As := [Dv (ptE frE) G (some F)]) Tryz.func20 rfl Tryz.ntmps20 (Nat.le_of_ble_eq_true rfl) ?_ (fun a hf => ?_) (Nat.le_of_ble_eq_true rfl)
  rotate_left
  dsimp only [params, Nat.reduceAdd] at hf
  rotate_right
  · exact arg1 h
  have e := Ext.rfl' W
  repeat refine seq ?_
  refine regn0 ?_
  refine tl_as hf rfl (by decide) fun a hf => ?_
  refine tl_nil ?_
  repeat refine seq ?_
  refine regn 2 hf (by decide +kernel) ?_
  refine st (mv rfl) ?_
  refine st (eqlP Tryz.underlying27 (isR rfl)) ?_
  refine en fun a w e' hf => ?_
  replace e := Ext.tr e e'
  clear e'
  refine tl_nil ?_
  repeat refine seq ?_
  refine ifc hf rfl (fun h => by cases h) (fun _ => ?_)
  refine wskip ?_
  try simp only [Exit.then, Exit.inBlock, ↓reduceIte]
  repeat refine seq ?_
  refine regn 5 hf (by decide +kernel) ?_
  refine st (mv rfl) ?_
  refine st (nilC (isR rfl)) ?_
  refine st (fldD Tryz.underlying92 rfl T23 (by decide) (Fld.fst Fld.refl) (isR rfl)) ?_
  refine st (ldD T23 (isR rfl)) ?_
  refine st (call1 En53 rfl (fun v w he h => Calls.mono (treeClone_spec _ _ w h hl) (fun en w' ⟨u, h1, h2, h3⟩ => ⟨u, h1, h2, Dv.weak (G' := fun b => b < W.heap.size) h3 fun b _ hb => Nat.lt_of_lt_of_le hb (Nat.le_trans e.size he.size)⟩))) ?_
  refine en fun a w e' hf => ?_
  replace e := Ext.tr e e'
  clear e'
  refine tl_as hf rfl (by decide) fun a hf => ?_
  refine tl_nil ?_
  refine wret ?_
  try simp only [Exit.then, Exit.inBlock]
  refine ret1 rfl hf rfl ?_
  intro v hv
  exact ⟨_, rfl, e, hv⟩

theorem postG {P : Program} {α : Type} {e : Enc α} {x : α} {f : FuncId} {args : Array Value} {w : World} {G : Nat → Prop} (h : Calls P f args w (Post (Dv e (fun b => b < w.heap.size) x) w)) (hG : ∀ b, G b → b < w.heap.size) : Calls P f args w (Post (Dv e G x) w) :=
  Calls.mono h fun en w' ⟨u, h1, h2, h3⟩ => ⟨u, h1, h2, Dv.weak h3 fun b _ hb => hG b hb⟩

theorem flen_spec {G : Nat → Prop} (F : Fm) (v : Value) (W : World) (h : (Dv (ptE frE) G (some F)).p v W) (hl : F.1.length ≤ 4096) :
    Calls Tryz.prog 33 #[v] W (Post (E (I (F.1.length : Nat))) W) := by
  refine enter (args := [v]) (As := [Dv (ptE frE) G (some F)]) Tryz.func33 rfl Tryz.ntmps33 (Nat.le_of_ble_eq_true rfl) ?_ (fun a hf => ?_) (Nat.le_of_ble_eq_true rfl)
  rotate_left
  dsimp only [params, Nat.reduceAdd] at hf
  rotate_right
  · exact arg1 h
  have e := Ext.rfl' W
  repeat refine seq ?_
  refine regn0 ?_
  refine tl_as hf rfl (by decide) fun a hf => ?_
  refine tl_nil ?_
  repeat refine seq ?_
  refine regn 3 hf (by decide +kernel) ?_
  refine st (mv rfl) ?_
  refine st (call1 En20 rfl (fun v w he h => postG (G := Go.Mono.G0) (fbags_spec F _ w h hl) (fun b hb => hb.elim))) ?_
  refine st (lenD Tryz.underlying23 (isR rfl)) ?_
  refine en fun a w e' hf => ?_
  replace e := Ext.tr e e'
  clear e'
  refine tl_as hf rfl (by decide) fun a hf => ?_
  refine tl_nil ?_
  refine wret ?_
  try simp only [Exit.then, Exit.inBlock]
  refine ret1 rfl hf rfl ?_
  rintro _ rfl
  exact ⟨_, rfl, e, rfl⟩

theorem froot1_spec (b : Int × BS) (W : World) : Calls Tryz.prog 92 #[bagV b] W (Post (E (B (decide (b.1 < 0)))) W) := by
  refine enter (args := [bagV b]) (As := [E (bagV b)]) Tryz.func92 rfl Tryz.ntmps92 (Nat.le_of_ble_eq_true rfl) ?_ (fun a hf => ?_) (Nat.le_of_ble_eq_true rfl)
  rotate_left
  dsimp only [params, Nat.reduceAdd] at hf
  rotate_right
  · exact arg1 rfl
  have e := Ext.rfl' W
  repeat refine seq ?_
  refine regn0 ?_
  refine tl_box hf rfl (by decide) fun a b1 w v1 hv1 e' hb1 hs1 B1 hf => ?_
  have hle1 := Nat.le_trans e.size (Nat.le_of_eq hb1.symm)
  replace e := Ext.tr e e'
  clear e'
  refine tl_as hf rfl (by decide) fun a hf => ?_
  refine tl_nil ?_
  cases hv1
  repeat refine seq ?_
  refine regn 3 hf (by decide +kernel) ?_
  refine st (fldA Tryz.underlying70 rfl T3 (by decide) rfl) ?_
  refine st (ld1 T3 rfl B1 (bagC_0 _)) ?_
  refine st (lss rfl rfl) ?_
  refine en fun a w e' hf => ?_
  replace e := Ext.tr e e'
  replace B1 := B1.ext e'
  clear e'
  refine tl_as hf rfl (by decide) fun a hf => ?_
  refine tl_nil ?_
  refine wret ?_
  try simp only [Exit.then, Exit.inBlock]
  refine ret1 rfl hf rfl ?_
  rintro _ rfl
  exact ⟨_, rfl, e, rfl⟩

theorem froot_spec {G : Nat → Prop} (F : Fm) (v : Value) (W : World) (h : (Dv (ptE frE) G (some F)).p v W) (hl : F.1.length ≤ 4096) :
    Calls Tryz.prog 34 #[v] W (Post (E (I (fstB (fun b => decide (b.1 < 0)) F.1))) W) := by
  refine enter (args := [v]) (As := [Dv (ptE frE) G (some F)]) Tryz.func34 rfl Tryz.ntmps34 (Nat.le_of_ble_eq_true rfl) ?_ (fun a hf => ?_) (Nat.le_of_ble_eq_true rfl)
  rotate_left
  dsimp only [params, Nat.reduceAdd] at hf
  rotate_right
  · exact arg1 h
  have e := Ext.rfl' W
  repeat refine seq ?_
  refine regn0 ?_
  refine tl_as hf rfl (by decide) fun a hf => ?_
  refine tl_nil ?_
  repeat refine seq ?_
  refine regn 3 hf (by decide +kernel) ?_
  refine st (mv rfl) ?_
  refine st (call1 En20 rfl (fun v w he h => postG (G := Go.Mono.G0) (fbags_spec F _ w h hl) (fun b hb => hb.elim))) ?_
  refine st (call2 En91 rfl rfl (fun v u w he h h' => by cases h'; exact indexFunc_spec _ _ _ _ (fun b => decide (b.1 < 0)) w En92 h (fun w' b _ => froot1_spec b w') hl)) ?_
  refine en fun a w e' hf => ?_
  replace e := Ext.tr e e'
  clear e'
  refine tl_as hf rfl (by decide) fun a hf => ?_
  refine tl_nil ?_
  refine wret ?_
  try simp only [Exit.then, Exit.inBlock]
  refine ret1 rfl hf rfl ?_
  rintro _ rfl
  exact ⟨_, rfl, e, rfl⟩

theorem fparent_spec {G : Nat → Prop} (F : Fm) (b : Int) (v : Value) (W : World) (h : (Dv (ptE frE) G (some F)).p v W) :
    Calls Tryz.prog 47 #[v, I b] W (Post (E (I (if inT F.1 b then (bg F.1 b.toNat).1 else -1))) W) := by
  refine enter (args := [v, I b]) (As := [Dv (ptE frE) G (some F), E (I b)]) Tryz.func47 rfl Tryz.ntmps47 (Nat.le_of_ble_eq_true rfl) ?_ (fun a hf => ?_) (Nat.le_of_ble_eq_true rfl)
  rotate_left
  dsimp only [params, Nat.reduceAdd] at hf
  rotate_right
  · exact arg2 h rfl
  have e := Ext.rfl' W
  repeat refine seq ?_
  refine regn0 ?_
  refine tl_as hf rfl (by decide) fun a hf => ?_
  refine tl_nil ?_
  repeat refine seq ?_
  refine regn 4 hf (by decide +kernel) ?_
  refine st (mv rfl) ?_
  refine st (mv rfl) ?_
  refine st (call2 En46 rfl rfl (fun v u w he h h' => by cases h'; exact fis_spec F _ _ w h)) ?_
  refine st (notp rfl) ?_
  refine en fun a w e' hf => ?_
  replace e := Ext.tr e e'
  clear e'
  refine tl_nil ?_
  repeat refine seq ?_
  refine ifc hf rfl (fun hb => ?_) (fun hb => ?_)
  · have hb' : inT F.1 b = false := by simpa using hb
    repeat refine seq ?_
    refine regn0 ?_
    refine tl_as hf rfl (by decide) fun a hf => ?_
    refine tl_nil ?_
    refine wret ?_
    try simp only [Exit.then, Exit.inBlock]
    refine ret1 rfl hf rfl ?_
    rintro _ rfl
    exact ⟨_, rfl, e, congrArg I (by rw [hb']; rfl)⟩
  · have hb' : inT F.1 b = true := by simpa using hb
    have hb2 : 0 ≤ b ∧ b < (F.1.length : Nat) := by simpa [inT] using hb'
    refine wskip ?_
    try simp only [Exit.then, Exit.inBlock, ↓reduceIte]
    repeat refine seq ?_
    refine regn 8 hf (by decide +kernel) ?_
    refine st (mv rfl) ?_
    refine st (nilC (isR rfl)) ?_
    refine st (fldD Tryz.underlying92 rfl T23 (by decide) (Fld.fst Fld.refl) (isR rfl)) ?_
    refine st (ldD T23 (isR rfl)) ?_
    refine st (mv rfl) ?_
    refine st (idxD Tryz.underlying23 S70 (isR rfl) rfl (by omega) (bg_get (i := b.toNat) (by omega))) ?_
    refine st (fldD Tryz.underlying70 rfl T3 (by decide) (Fld.fst Fld.refl) (isR rfl)) ?_
    refine st (ldI T3 (isR rfl)) ?_
    refine en fun a w e' hf => ?_
    replace e := Ext.tr e e'
    clear e'
    refine tl_as hf rfl (by decide) fun a hf => ?_
    refine tl_nil ?_
    refine wret ?_
    try simp only [Exit.then, Exit.inBlock]
    refine ret1 rfl hf rfl ?_
    rintro _ rfl
    exact ⟨_, rfl, e, congrArg I (by rw [hb']; rfl)⟩

end Go.Mono

namespace Go.Mono
open Go Go.Proofs Go.RowKit

theorem fvhome_spec {G : Nat → Prop} (F : Fm) (id : Int) (v : Value) (W : World) (h : (Dv (ptE frE) G (some F)).p v W) (hw : (Lit.int .i64 id).wf = true) :
    Calls Tryz.prog 31 #[v, I id] W (Post (E (.tuple #[I ((F.2.2 id).getD 0), B (F.2.2 id).isSome])) W) := by
  refine enter (args := [v, I id]) (As := [Dv (ptE frE) G (some F), E (I id)]) Tryz.func31 rfl Tryz.ntmps31 (Nat.le_of_ble_eq_true rfl) ?_ (fun a hf => ?_) (Nat.le_of_ble_eq_true rfl)
  rotate_left
  dsimp only [params, Nat.reduceAdd] at hf
  rotate_right
  · exact arg2 h rfl
  have e := Ext.rfl' W
  repeat refine seq ?_
  refine regn0 ?_
  refine tl_as hf rfl (by decide) fun a hf => ?_
  refine tl_as hf rfl (by decide) fun a hf => ?_
  refine tl_nil ?_
  repeat refine seq ?_
  refine regn 2 hf (by decide +kernel) ?_
  refine st (mv rfl) ?_
  refine st (eqlP Tryz.underlying27 (isR rfl)) ?_
  refine en fun a w e' hf => ?_
  replace e := Ext.tr e e'
  clear e'
  refine tl_nil ?_
  repeat refine seq ?_
  refine ifc hf rfl (fun h => by cases h) (fun _ => ?_)
  refine wskip ?_
  try simp only [Exit.then, Exit.inBlock, ↓reduceIte]
  repeat refine seq ?_
  refine regn 9 hf (by decide +kernel) ?_
  refine st (mv rfl) ?_
  refine st (nilC (isR rfl)) ?_
  refine st (fldD Tryz.underlying92 rfl T90 (by decide) (Fld.snd (Fld.snd Fld.refl rfl) rfl) (isR rfl)) ?_
  refine st (ldD T90 (isR rfl)) ?_
  refine st (mv rfl) ?_
  refine st (getM Tryz.underlying3 Tryz.underlying3 Tryz.underlying90 (zero_of I3) (isR rfl) rfl (by assumption)) ?_
  refine st (mv rfl) ?_
  refine st (ext_ rfl rfl) ?_
  refine st (ext_ rfl rfl) ?_
  refine en fun a w e' hf => ?_
  replace e := Ext.tr e e'
  clear e'
  refine tl_as hf rfl (by decide) fun a hf => ?_
  refine tl_as hf rfl (by decide) fun a hf => ?_
  refine tl_nil ?_
  repeat refine seq ?_
  refine regn 2 hf (by decide +kernel) ?_
  refine st (mv rfl) ?_
  refine st (mv rfl) ?_
  refine en fun a w e' hf => ?_
  replace e := Ext.tr e e'
  clear e'
  refine tl_as hf rfl (by decide) fun a hf => ?_
  refine tl_as hf rfl (by decide) fun a hf => ?_
  refine tl_nil ?_
  refine wret (ret2 rfl hf rfl rfl ?_)
  rintro _ _ rfl rfl
  exact ⟨_, rfl, e, rfl⟩

end Go.Mono

namespace Go.Mono
open Go Go.RowKit
variable {P : Program} {w0 : World} {L : Env} {dst : Option Tmp} {ty : TypeId} {pos : String} {aft : Array Edge} {g : Option (Nat × Bool)} {x y : Operand} {t te : TypeId}

theorem sz_of {te : TypeId} {s : Nat} (hs : (P.info? te).map (·.size) = some s) (w : World) : (sizeOf te).run P w = .ok s w := by
  cases hi : P.info? te with
  | none => simp [hi] at hs
  | some i => simp [hi] at hs; simp [sizeOf, typeInfo, hi, hs]
/-- s[i:] -/
theorem slcLo {b o n c i : Nat} (ht : P.underlying t = some (.slice te)) (hs : (P.info? te).map (·.size) = some 1) (hx : opd L x = some (E (.slice (some ⟨b, o, none⟩) n c))) (hy : opd L y = some (E (.int .i64 (i : Nat)))) (hi : i ≤ n) (hn : i < c) :
    OpC P w0 L ⟨dst, .slice t x (some y) none none, ty, pos, aft, g⟩ (E (.slice (some ⟨b, o + i, none⟩) (n - i) (c - i))) :=
  opc_pure fun ρ w _ hv => by
    have h1 := opE hv (x := x) (by simp [Op.operands]) hx
    have h2 := opE hv (x := y) (by simp [Op.operands]) hy
    refine ⟨_, ?_, rfl⟩
    have hi' : (0 : Int) ≤ (i : Int) ∧ (i : Int) ≤ (n : Int) := by omega
    have hne : ¬ c = i := by omega
    simp [execOp, h1, h2, Instr.sliceAt, Instr.slice, Instr.sliceBounds, Instr.sliceBound, asIntOf, run_underlying ht, hi, sz_of hs, hne, Addr.add_lit]
/-- s[:i] -/
theorem slcHi {b o n c i : Nat} (ht : P.underlying t = some (.slice te)) (hs : (P.info? te).map (·.size) = some 1) (hx : opd L x = some (E (.slice (some ⟨b, o, none⟩) n c))) (hy : opd L y = some (E (.int .i64 (i : Nat)))) (hi : i ≤ c) :
    OpC P w0 L ⟨dst, .slice t x none (some y) none, ty, pos, aft, g⟩ (E (.slice (some ⟨b, o, none⟩) i c)) :=
  opc_pure fun ρ w _ hv => by
    have h1 := opE hv (x := x) (by simp [Op.operands]) hx
    have h2 := opE hv (x := y) (by simp [Op.operands]) hy
    refine ⟨_, ?_, rfl⟩
    have hi' : (0 : Int) ≤ (i : Int) ∧ (i : Int) ≤ (c : Int) := by omega
    simp [execOp, h1, h2, Instr.sliceAt, Instr.slice, Instr.sliceBounds, Instr.sliceBound, asIntOf, run_underlying ht, hi, sz_of hs, Addr.add_lit]
section tail
variable {r : Option Nat} {ds : List Deferred} {ops : Array Oper} {rest : List Oper} {Q : Exit → Act → World → Prop} {n : Nat} {a : Act} {w : World}
/-- clear(s) -/
theorem tl_clear {b off m c sz bz : Nat} {z : Value} {cs : Array Value} {bt : TypeId} {d : Option Nat} (ht : P.underlying t = some (.slice te)) (hi : (P.info? te).map (fun i => (i.zero, i.size, i.bytes)) = some (some z, sz, bz)) (hz : z.cells = #[z]) (h1 : z.oneCell' = true)
    (hf : FrD n ds a w L) [hL : AvL b L] (hx : opd L x = some (E (.slice (some ⟨b, off, none⟩) m c))) (hb : Blk w b cs bt) (hm : 0 < m) (ho : off + m ≤ cs.size) (hd : ∀ k, d = some k → k < n)
    (k : ∀ a' w', w.grownBy w' (some b) → w'.heap.size = w.heap.size → Blk w' b (cs.toList.take off ++ List.replicate m z ++ cs.toList.drop (off + m)).toArray bt → FrD n ds a' w' (push d Any L) → wpListIn (FW r) 0 P ops Q rest a' w') :
    wpListIn (FW r) 0 P ops Q (⟨d, .call ⟨.builtin .clear, #[x], #[t]⟩, ty, pos, aft, none⟩ :: rest) a w :=
  wpListIn_plain rfl fun K hK => by
    have hxv : a.eval x = .slice (some ⟨b, off, none⟩) m c := hf.opd x _ hx
    obtain ⟨it, hit, hiz, _, _⟩ := info_parts hi
    have hzc : (Builtin.zeroCells z.cells m).toList = List.replicate m z := by
      rw [hz]
      simp [Builtin.zeroCells]
      apply List.ext_getElem
      · simp
      · intro i h1 h2
        simp [Nat.mod_one]
    have hst := run_storeCells_at (P := P) b off bt (List.replicate m z) 0 cs w hb (by simpa using ho) (by intro v hv'; rw [List.eq_of_mem_replicate hv']; exact h1)
    simp only [Nat.add_zero, List.length_replicate] at hst
    obtain ⟨m', rfl⟩ : ∃ k, m = k + 1 := ⟨m - 1, by omega⟩
    have hzv : (zeroValue te).run P w = .ok z w := by simp [zeroValue, typeInfo, hit, hiz]
    have hrun : (Builtin.clear_ #[t] ty #[.slice (some ⟨b, off, none⟩) (m' + 1) c]).run P w = .ok (.tuple #[]) (w.setRow b (cs.toList.take off ++ List.replicate (m' + 1) z ++ cs.toList.drop (off + (m' + 1))).toArray) := by
      simp [Builtin.clear_, run_underlying ht, hzv, hzc, hst]
    refine OpR.wp (R := fun v w' => v = .tuple #[] ∧ w' = w.setRow b (cs.toList.take off ++ List.replicate (m' + 1) z ++ cs.toList.drop (off + (m' + 1))).toArray) ?_ ?_
    · simp only [OpR, execOp, resolve, invoke, builtin, Sem.run_bind, Sem.run_pure, Result.andThen_ok, List.map_toArray, List.map_cons, List.map_nil, hxv, hrun]
      trivial
    · rintro v w' ⟨rfl, rfl⟩
      refine hK _ _ (k _ _ (grownBy_setRow _ _ _) (by simp) (setRow_heap _ _ _ _ _ _ hb) ?_)
      exact (hf.gr (grownBy_setRow _ _ _)).put (d := d) (A := Any) (Ext.rfl' _) hd trivial
end tail
/-- a slice that was made: a block of its own -/
def MkA (B n : Nat) (cs : Array Value) (te : TypeId) : VA := ⟨fun v w => ∃ b, B ≤ b ∧ v = .slice (some ⟨b, 0, none⟩) n n ∧ Blk w b cs te, fun v w w' e ⟨b, h1, h2, h3⟩ => ⟨b, h1, h2, h3.ext e⟩⟩
theorem mkS {z : Value} {k : IntKind} {c sz bz : Nat} (ht : P.underlying t = some (.slice te)) (hi : (P.info? te).map (fun i => (i.zero, i.size, i.bytes)) = some (some z, sz, bz)) (hx : opd L x = some (E (.int k (c : Nat)))) (hc : c ≤ 1048576) (hb : bz ≤ 1048576) :
    OpC P w0 L ⟨dst, .makeSlice t x x, ty, pos, aft, g⟩ (MkA w0.heap.size c (madeCells z.cells (c * sz)) te) := by
  refine ⟨fun ρ w he hv => ?_⟩
  have hxv : ρ x = .int k (c : Nat) := opE hv (x := x) (by simp [Op.operands]) hx
  obtain ⟨it, hit, hiz, hs, hby⟩ := info_parts hi
  have hprod : (bz : Int) * (c : Nat) ≤ 1048576 * 1048576 := Int.mul_le_mul (by omega) (by omega) (by omega) (by omega)
  have hr := run_make (P := P) w t te it z ht hit hiz k k (c : Nat) (c : Nat) (by omega) (by omega) (by rw [hby]; omega) (by omega)
  rw [hs, Int.toNat_natCast] at hr
  simp only [OpR, execOp, hxv, Sem.run_bind, hr, Result.andThen_ok, Sem.run_pure]
  exact ⟨ext_alloc _ _, _, he.size, rfl, blk_alloc _ _ _⟩
/-- a map that was made -/
def MpA (P : Program) (k e : TypeId) (B : Nat) : VA := ⟨fun v w => ∃ b, B ≤ b ∧ v = .map (some b) ∧ MapR P k e w b 0 (fun _ => none), fun v w w' e ⟨b, h1, h2, h3⟩ => ⟨b, h1, h2, h3.pres (e.block b h3.lt)⟩⟩
theorem mkM {k e : TypeId} : OpC P w0 L ⟨dst, .makeMap t none, ty, pos, aft, g⟩ (MpA P k e w0.heap.size) := by
  refine ⟨fun ρ w he hv => ?_⟩
  simp only [OpR, execOp, Sem.run_bind, Option.map_none, run_makeMap, Result.andThen_ok, Sem.run_pure]
  exact ⟨ext_alloc _ _, _, he.size, rfl, MapR.made w⟩
/-- a value in a block of its own -/
def BxA (B : Nat) (A : VA) (e : TypeId) : VA := ⟨fun v w => ∃ b u, B ≤ b ∧ v = .pointer (some ⟨b, 0, none⟩) ∧ A.p u w ∧ Blk w b u.cells e, fun v w w' e ⟨b, u, h1, h2, h3, h4⟩ => ⟨b, u, h1, h2, A.st _ _ _ e h3, h4.ext e⟩⟩
theorem bxD {e : TypeId} {A : VA} (hx : opd L x = some A) : OpC P w0 L ⟨dst, .box e x, ty, pos, aft, g⟩ (BxA w0.heap.size A e) := by
  refine ⟨fun ρ w he hv => ?_⟩
  have hxv := hv x (by simp [Op.operands]) _ hx
  simp only [OpR, execOp, Instr.box, Sem.run_bind, run_newVar, Result.andThen_ok, Sem.run_pure]
  exact ⟨ext_alloc _ _, _, _, he.size, rfl, A.st _ _ _ (ext_alloc _ _) hxv, blk_alloc _ _ _⟩
theorem exE {vs : Array Value} {i : Nat} {u : Value} (hx : opd L x = some (E (.tuple vs))) (hi : vs[i]? = some u) : OpC P w0 L ⟨dst, .extract x i, ty, pos, aft, g⟩ (E u) :=
  opc_pure fun ρ w he hv => by
    have h1 := opE hv (x := x) (by simp [Op.operands]) hx
    have hlt : i < vs.size := (Array.getElem?_eq_some_iff.1 hi).1
    exact ⟨u, by simp [execOp, h1, Instr.extract, hi], rfl⟩
end Go.Mono

namespace Go.Mono
open Go Go.RowKit

/-- the operation that changes the row: it runs once, ahead of it the world has but grown -/
structure XOpY (P : Program) (w0 : World) (row : Option Nat) (F : World → Prop) (L : Env) (o : Oper) (A : VA) : Prop where
  out : ∀ ρ w, Ext w0 w → (∀ x ∈ o.op.operands, ∀ B, opd L x = some B → B.p (ρ x) w) → OpR P o ρ w (fun v w' => w.grownBy w' row ∧ A.p v w' ∧ F w')

/-- the operations in the order of the text; which one is the row's -/
def RegY (P : Program) (ops : Array Oper) (w0 : World) (row : Option Nat) (F : World → Prop) : Option Nat → List Oper → (Env → Prop) → Env → Prop
  | _, [], K, L => K L
  | some 0, o :: rest, K, L => o.guard = none ∧ ∃ A, XOpY P w0 row F L o A ∧ RegY P ops w0 row F none rest K (push o.dst A L)
  | some (x + 1), o :: rest, K, L => ∃ A, (∀ w1, w0.grownBy w1 row → GOp P ops w1 L o A) ∧ AvR row A ∧ RegY P ops w0 row F (some x) rest K (push o.dst A L)
  | none, o :: rest, K, L => ∃ A, (∀ w1, w0.grownBy w1 row → GOp P ops w1 L o A) ∧ AvR row A ∧ RegY P ops w0 row F none rest K (push o.dst A L)

section
variable {P : Program} {ops : Array Oper} {Q : Exit → Act → World → Prop} {w0 : World} {n : Nat} {ds : List Deferred} {r : Option Nat}

def consFY (A : VA) (As : Nat → VA) : Nat → VA
  | 0 => A
  | i + 1 => As i
theorem envFY_cons (L : Env) (A : VA) (As : Nat → VA) (k j : Nat) : envF ops L (consFY A As) k (j + 1) = envF ops (push (dstOf ops k) A L) As (k + 1) j := by
  rw [← envF_shift]
  congr 1
theorem RegY_As {row : Option Nat} {F : World → Prop} {K : Env → Prop} : ∀ (M : List Oper) (k : Nat) (x : Option Nat) (L : Env), (∀ j, j < M.length → ops[k + j]? = M[j]?) → RegY P ops w0 row F x M K L →
    ∃ As : Nat → VA, (∀ j o, j < M.length → x ≠ some j → ops[k + j]? = some o → (∀ w1, w0.grownBy w1 row → GOp P ops w1 (envF ops L As k j) o (As j)) ∧ AvR row (As j)) ∧
      (∀ j o, j < M.length → x = some j → ops[k + j]? = some o → o.guard = none ∧ XOpY P w0 row F (envF ops L As k j) o (As j)) ∧ K (envF ops L As k M.length)
  | [], k, x, L, _, h => ⟨fun _ => Any, fun j o hj => by simp at hj, fun j o hj => by simp at hj, by
    match x, h with
    | none, h => exact h
    | some 0, h => exact h
    | some (x + 1), h => exact h⟩
  | o :: M, k, x, L, hM, h => by
    have h0 : ops[k]? = some o := by simpa using hM 0 (by simp)
    have hd : dstOf ops k = o.dst := by simp [dstOf, h0]
    obtain ⟨A, x', hA, hx', hr⟩ : ∃ A x', ((x ≠ some 0 → (∀ w1, w0.grownBy w1 row → GOp P ops w1 L o A) ∧ AvR row A) ∧ (x = some 0 → o.guard = none ∧ XOpY P w0 row F L o A)) ∧ (∀ j, x = some (j + 1) ↔ x' = some j) ∧ RegY P ops w0 row F x' M K (push o.dst A L) := by
      match x, h with
      | none, ⟨A, h1, h2, h3⟩ => exact ⟨A, none, ⟨fun _ => ⟨h1, h2⟩, fun h => by cases h⟩, fun j => by simp, h3⟩
      | some 0, ⟨hg, A, h1, h2⟩ => exact ⟨A, none, ⟨fun h => absurd rfl h, fun _ => ⟨hg, h1⟩⟩, fun j => by simp, h2⟩
      | some (x + 1), ⟨A, h1, h2, h3⟩ => exact ⟨A, some x, ⟨fun _ => ⟨h1, h2⟩, fun h => by cases h⟩, fun j => by simp, h3⟩
    obtain ⟨As, h1, h2, h3⟩ := RegY_As M (k + 1) x' (push o.dst A L) (fun j hj => by
      have := hM (j + 1) (by simpa using hj)
      rw [show k + 1 + j = k + (j + 1) by omega]
      simpa using this) hr
    refine ⟨consFY A As, ?_, ?_, ?_⟩
    · intro j o' hj hjx ho'
      cases j with
      | zero =>
        rw [Nat.add_zero, h0] at ho'
        obtain rfl := Option.some.inj ho'
        exact hA.1 hjx
      | succ j =>
        rw [envFY_cons, hd]
        exact h1 j o' (by simpa using hj) (fun h => hjx ((hx' j).2 h)) (by rw [show k + 1 + j = k + (j + 1) by omega]; exact ho')
    · intro j o' hj hjx ho'
      cases j with
      | zero =>
        rw [Nat.add_zero, h0] at ho'
        obtain rfl := Option.some.inj ho'
        exact hA.2 hjx
      | succ j =>
        rw [envFY_cons, hd]
        exact h2 j o' (by simpa using hj) ((hx' j).1 hjx) (by rw [show k + 1 + j = k + (j + 1) by omega]; exact ho')
    · rw [List.length_cons, envFY_cons, hd]
      exact h3

structure InvY (ops : Array Oper) (m x : Nat) (row : Option Nat) (F : World → Prop) (n : Nat) (ds : List Deferred) (w0 : World) (L : Env) (As : Nat → VA) (listed : Array Bool) (a : Act) (w : World) : Prop where
  ext : w0.grownBy w row
  pre : listed.getD x true = false → Ext w0 w
  post : listed.getD x false = true → F w
  size : a.tmps.size = n
  defers : a.defers = ds
  hL : ∀ t A, look L t = some A → (∀ j, j < m → dstOf ops j ≠ some t) → A.p (a.eval (.tmp t)) w
  hA : ∀ i, i < m → listed.getD i false = true → ∀ d, dstOf ops i = some d → (As i).p (a.eval (.tmp d)) w

theorem wpAny_mainY {m x : Nat} {row : Option Nat} {F : World → Prop} (hx0 : x < m) (hFst : ∀ w w', Ext w w' → F w → F w') {L : Env} {As : Nat → VA} (hm : m ≤ ops.size) (hchk : ∀ i, i < m → chkOp ops m n i = true) (hchk2 : ∀ i, m ≤ i → i < ops.size → chkTail ops i = true)
    (hops : ∀ j o, j < m → j ≠ x → ops[j]? = some o → (∀ w1, w0.grownBy w1 row → GOp P ops w1 (envF ops L As 0 j) o (As j)) ∧ AvR row (As j))
    (hX : ∀ o, ops[x]? = some o → o.guard = none ∧ XOpY P w0 row F (envF ops L As 0 x) o (As x)) (hLav : AvRL row L)
    (hend : ∀ a w, w0.grownBy w row → F w → FrD n ds a w (envF ops L As 0 m) → wpListIn (FW r) 0 P ops Q (ops.toList.drop m) a w) :
    ∀ (c : Nat) (listed : Array Bool) (a : Act) (w : World), (List.range m).countP (fun i => !listed.getD i true) = c → listed.size = ops.size →
      (∀ j, m ≤ j → j < ops.size → listed.getD j true = false) → LD ops listed → InvY ops m x row F n ds w0 L As listed a w → wpAnyIn (FW r) 0 P .any ops Q (c + (ops.size - m)) listed a w
  | 0, listed, a, w, hc, hsz, hun, hld, hi => by
    have hall : ∀ j, j < m → listed.getD j false = true := by
      intro j hj
      have := (List.countP_eq_zero.1 hc) j (List.mem_range.2 hj)
      have hjl : j < listed.size := by omega
      simpa [hjl] using this
    rw [Nat.zero_add]
    refine wpAny_tail m hchk2 (ops.size - m) m (by omega) (Nat.le_refl _) listed a w hall hun hsz hld (hend a w hi.ext (hi.post (hall x hx0)) ⟨hi.size, hi.defers, fun t A ht => ?_⟩)
    rcases look_envF L As t A m ht with ⟨j, hj, hd, rfl⟩ | ⟨hn, hl⟩
    · exact hi.hA j hj (hall j hj) t hd
    · exact hi.hL t A hl hn
  | c + 1, listed, a, w, hc, hsz, hun, hld, hi => by
    have facts : ∀ i o, i < m → ops[i]? = some o → (∀ e ∈ o.after, Region.binds .any e = true → e.on < i) ∧ (∀ d, o.dst = some d → d < n) ∧
        (∀ t, t ∈ tmpsOf o ∨ gdst ops o = some t → ∀ j, j < m → dstOf ops j = some t → bnd ops i j = true) ∧ (∀ j, j < m → j ≠ i → ∀ d, o.dst = some d → dstOf ops j ≠ some d) := by
      intro i o hlt ho
      have := hchk i hlt
      simp only [chkOp, ho, Bool.and_eq_true, Array.all_eq_true_iff_forall_mem, Bool.or_eq_true, Bool.not_eq_true', List.all_eq_true, List.mem_range, List.mem_append, Option.mem_toList] at this
      obtain ⟨⟨⟨h1, h2⟩, h3⟩, h4⟩ := this
      refine ⟨fun e he hb => ?_, fun d hd => ?_, fun t ht j hj hd => ?_, fun j hj hne d hd hd' => ?_⟩
      · rcases h1 e he with h | h
        · rw [hb] at h; cases h
        · simpa [Nat.blt_eq] using h
      · simpa [hd, Nat.blt_eq] using h2
      · have := h3 t ht j hj
        rcases this with h | h
        · rw [hd] at h; simp at h
        · exact h
      · have := h4 j hj
        rcases this with h | h
        · exact hne (Nat.eq_of_beq_eq_true h)
        · rw [hd, hd'] at h; simp at h
    have prog : ∃ i, i < m ∧ listed.getD i true = false ∧ ∀ j, j < i → listed.getD j true = true := by
      have hex : ∃ i, i < m ∧ listed.getD i true = false := by
        have hpos : 0 < (List.range m).countP (fun i => !listed.getD i true) := by omega
        obtain ⟨i, hi, hb⟩ := List.countP_pos_iff.1 hpos
        exact ⟨i, List.mem_range.1 hi, by simpa using hb⟩
      obtain ⟨i, hlt, hb⟩ := hex
      induction i using Nat.strongRecOn with
      | _ i ih =>
        by_cases h : ∃ j, j < i ∧ listed.getD j true = false
        · obtain ⟨j, hj, hjb⟩ := h
          exact ih j hj (by omega) hjb
        · refine ⟨i, hlt, hb, fun j hj => ?_⟩
          cases hjb : listed.getD j true with
          | true => rfl
          | false => exact absurd ⟨j, hj, hjb⟩ h
    obtain ⟨i0, hi0, hu0, hbelow⟩ := prog
    have hready : i0 ∈ Region.ready .any ops listed := by
      have ho : ops[i0]? = some (ops[i0]'(by omega)) := by simp
      refine mem_ready.2 ⟨hu0, _, ho, fun e he hb => ?_⟩
      have hlt := (facts i0 _ hi0 ho).1 e he hb
      have := hbelow _ hlt
      have hjl : e.on < listed.size := by omega
      simpa [hjl] using this
    rw [show c + 1 + (ops.size - m) = (c + (ops.size - m)) + 1 by omega]
    refine ⟨fun h0 => (by rw [h0] at hready; cases hready), fun i hir => ?_⟩
    obtain ⟨hu, o, ho, hall⟩ := mem_ready.1 hir
    have hilt : i < ops.size := (Array.getElem?_eq_some_iff.1 ho).1
    have listed_of_bnd : ∀ j, bnd ops i j = true → listed.getD j false = true := by
      intro j hb
      simp only [bnd, ho] at hb
      obtain ⟨e, he, hb⟩ := Array.any_eq_true'.1 hb
      simp only [Bool.and_eq_true] at hb
      have := hall e he hb.1
      rwa [Nat.eq_of_beq_eq_true hb.2] at this
    have him : i < m := by
      rcases Nat.lt_or_ge i m with h | h
      · exact h
      · have hc := hchk2 i h hilt
        simp only [chkTail, ho, Bool.and_eq_true, List.all_eq_true, List.mem_range] at hc
        have := cov hld 12 i i0 (hc.2 i0 (by omega)) (fun o' ho' e he hb => by
          rw [ho] at ho'
          obtain rfl := Option.some.inj ho'
          exact hall e he hb)
        rw [not_listed hu0] at this
        cases this
    obtain ⟨f1, f2, f3, f4⟩ := facts i o him ho
    have byLook : ∀ t, (t ∈ tmpsOf o ∨ gdst ops o = some t) → ∀ B, look (envF ops L As 0 i) t = some B → B.p (a.eval (.tmp t)) w := by
      intro t ht B hB
      rcases look_envF L As t B i hB with ⟨j, hj, hd, rfl⟩ | ⟨hn, hl⟩
      · exact hi.hA j (by omega) (listed_of_bnd j (f3 t ht j (by omega) hd)) t hd
      · refine hi.hL t B hl fun j hj hd => ?_
        have hb := f3 t ht j hj hd
        simp only [bnd, ho] at hb
        obtain ⟨e, he, hb⟩ := Array.any_eq_true'.1 hb
        simp only [Bool.and_eq_true] at hb
        have hlt := f1 e he hb.1
        rw [Nat.eq_of_beq_eq_true hb.2] at hlt
        exact hn j hlt hd
    have ops1 : ∀ x ∈ o.op.operands, ∀ B, opd (envF ops L As 0 i) x = some B → B.p (a.eval x) w := fun x hx B hB => by
      cases x with
      | tmp t => exact byLook t (.inl (List.mem_filterMap.2 ⟨.tmp t, by simpa using hx, rfl⟩)) B hB
      | const v => simp [opd] at hB; subst hB; rfl
      | global g => simp [opd] at hB; subst hB; rfl
      | func f => simp [opd] at hB; subst hB; rfl
    have hdst : dstOf ops i = o.dst := by simp [dstOf, ho]
    have step : ∀ v w', w.grownBy w' row → (i ≠ x → Ext w w') → (i = x → ∀ j, j < m → j ≠ x → AvR row (As j)) → (As i).p v w' → (i = x → F w') → wpAnyIn (FW r) 0 P .any ops Q (c + (ops.size - m)) (listed.setIfInBounds i true) (a.put o.dst v) w' := by
      intro v w' hx hxe hxa hv hvF
      have stab : ∀ (A : VA) u, AvR row A → A.p u w → A.p u w' := fun A u hA h => hA.av _ _ _ hx h
      refine wpAny_mainY hx0 hFst hm hchk hchk2 hops hX hLav hend c _ _ _ ?_ (by simpa using hsz) ?_ ?_ ?_
      · have := countP_upd m (fun j => !listed.getD j true) (fun j => !(listed.setIfInBounds i true).getD j true) i him (by simp only [hu, Bool.not_false])
          (by have hjl : i < listed.size := by omega
              simp [hjl]) (fun j hj => by simp only [getD_set_ne true (Ne.symm hj)])
        omega
      · intro j hj hj'
        rw [getD_set_ne true (by omega)]
        exact hun j hj hj'
      · exact hld.set fun o' ho' e he hb => by
          rw [ho] at ho'
          obtain rfl := Option.some.inj ho'
          exact hall e he hb
      · refine ⟨World.grownBy.trans hi.ext hx, fun hl => ?_, fun hl => ?_, by simp [hi.size], by simp [hi.defers], fun t A ht hn => ?_, fun j hj hl d hd => ?_⟩
        · have hix : i ≠ x := by
            rintro rfl
            have hjl : i < listed.size := by omega
            simp [hjl] at hl
          rw [getD_set_ne true hix] at hl
          exact Ext.tr (hi.pre hl) (hxe hix)
        · by_cases hix : i = x
          · exact hvF hix
          · rw [getD_set_ne false hix] at hl
            exact hFst _ _ (hxe hix) (hi.post hl)
        · have h0 := stab A _ ⟨hLav.av t A ht⟩ (hi.hL t A ht hn)
          cases hod : o.dst with
          | none => exact h0
          | some d =>
            have : d ≠ t := fun e => hn i him (by rw [hdst, hod, e])
            rw [eval_put_ne this]
            exact h0
        · by_cases hji : j = i
          · subst hji
            rw [hdst] at hd
            rw [hd, eval_put_same (by rw [hi.size]; exact f2 d hd)]
            exact hv
          · have hl' : listed.getD j false = true := by rwa [getD_set_ne false (Ne.symm hji)] at hl
            have h1 := hi.hA j hj hl' d hd
            have h0 : (As j).p (a.eval (.tmp d)) w' := by
              by_cases hix : i = x
              · exact stab _ _ (hxa hix j hj (fun h => hji (h.trans hix.symm))) h1
              · exact (As j).st _ _ _ (hxe hix) h1
            cases hod : o.dst with
            | none => exact h0
            | some d' =>
              have : d' ≠ d := fun e => f4 j hj hji d' hod (by rw [hd, e])
              rw [eval_put_ne this]
              exact h0
    unfold wpOpIn
    simp only [ho]
    by_cases hix : i = x
    · obtain ⟨hgd, hxo⟩ := hX o (hix ▸ ho)
      have hw : Region.wanted o (yielded ops a.tmps) = true := by unfold Region.wanted; rw [hgd]
      rw [if_pos hw]
      have hpre : Ext w0 w := hi.pre (hix ▸ hu)
      exact (hxo.out a.eval w hpre (hix ▸ ops1)).wp fun v w' hv => step v w' hv.1 (fun h => absurd hix h) (fun _ j hj hjx => by
        have hoj : ops[j]? = some (ops[j]'(by omega)) := by simp
        exact (hops j _ hj hjx hoj).2) (hix ▸ hv.2.1) (fun _ => hv.2.2)
    · have hg := (hops i o him hix ho).1 w hi.ext a w (Ext.rfl' w) ops1 (fun d B hd hB => byLook d (.inr hd) B hB)
      split
      · rename_i hw
        rw [if_pos hw] at hg
        exact (hg.wp fun v w' hv => step v w' ⟨hv.1.os, hv.1.tape, hv.1.output, hv.1.size, fun k hk _ => hv.1.block k hk⟩ (fun _ => hv.1) (fun h => absurd h hix) hv.2 (fun h => absurd h hix))
      · rename_i hw
        rw [if_neg hw] at hg
        exact ⟨fun _ _ => trivial, step undef w ⟨rfl, rfl, rfl, Nat.le_refl _, fun _ _ _ => rfl⟩ (fun _ => Ext.rfl' _) (fun h => absurd h hix) hg (fun h => absurd h hix)⟩

/-- THE RULE: m operations first, number x of them changes the row -/
theorem regY {id : Nat} {ops : Array Oper} {L : Env} {a : Act} {w : World} (m x : Nat) (row : Option Nat) (F : World → Prop) (hFst : ∀ w w', Ext w w' → F w → F w') (hx : x < m) (hmix : P.follows .mixedOrders = true) (hf : FrD n ds a w L) [hL : AvRL row L] (hchk : chk ops m n = true)
    (h : RegY P ops w row F (some x) (ops.toList.take m) (fun L' => ∀ a' w', w.grownBy w' row → F w' → FrD n ds a' w' L' → wpListIn (FW r) 0 P ops Q (ops.toList.drop m) a' w') L) : (Code.region id ops true).wpIn (FW r) 0 P Q a w := by
  simp only [chk, Bool.and_eq_true, List.all_eq_true, List.mem_range, Bool.or_eq_true, Nat.ble_eq] at hchk
  obtain ⟨⟨hm, h1⟩, h2⟩ := hchk
  refine wpIn_region_any hmix ?_
  have hlen : (ops.toList.take m).length = m := by simp; omega
  obtain ⟨As, hAs, hX, hK⟩ := RegY_As (ops := ops) (ops.toList.take m) 0 (some x) L (fun j hj => by
    rw [hlen] at hj
    rw [Nat.zero_add, List.getElem?_take, if_pos hj]; simp) h
  rw [hlen] at hK hAs hX
  have hdrew : w.grownBy w.drew none := ⟨rfl, rfl, rfl, Nat.le_refl _, fun _ _ _ => rfl⟩
  have hext : Ext w { w with drawn := w.drawn + 1 } := Ext.drew w
  have := wpAny_mainY (P := P) (ops := ops) (Q := Q) (w0 := w) (n := n) (ds := ds) (m := m) (x := x) (row := row) (r := r) (L := L) (As := As) hx hFst hm h1 (fun i hi hi' => by
      rcases h2 i hi' with h | h
      · simp only [Nat.blt_eq] at h; omega
      · exact h) (fun j o hj hjx ho => hAs j o hj (by simpa using fun h => hjx h.symm) (by simpa using ho)) (fun o ho => hX x o hx rfl (by simpa using ho)) hL (fun a w hx hF hf => hK a w hx hF hf) m
    (Array.replicate ops.size false) a { w with drawn := w.drawn + 1 } ?_ (by simp) ?_ ?_ ⟨⟨rfl, rfl, rfl, Nat.le_refl _, fun _ _ _ => rfl⟩, fun _ => hext, fun hl => ?_, hf.size, hf.defers, fun t A ht _ => A.st _ _ _ hext (hf.val t A ht), fun i hi hl => ?_⟩
  · rwa [show m + (ops.size - m) = ops.size by omega] at this
  · have : (List.range m).countP (fun i => !(Array.replicate ops.size false).getD i true) = (List.range m).length := by
      refine List.countP_eq_length.2 fun i hi => ?_
      have := List.mem_range.1 hi
      have hlt : i < ops.size := by omega
      simp [hlt]
    simpa using this
  · intro j _ hj
    simp [hj]
  · intro i o hl
    have : (Array.replicate ops.size false).getD i false = false := by
      by_cases hlt : i < ops.size <;> simp [hlt]
    rw [this] at hl; cases hl
  · have : (Array.replicate ops.size false).getD x false = false := by
      by_cases hlt : x < ops.size <;> simp [hlt]
    rw [this] at hl; cases hl
  · have : (Array.replicate ops.size false).getD i false = false := by
      by_cases hlt : i < ops.size <;> simp [hlt]
    rw [this] at hl; cases hl
end
end Go.Mono
namespace Go.Mono
open Go Go.RowKit
section
variable {P : Program} {w0 : World} {L : Env} {ty : TypeId} {pos : String} {aft : Array Edge}
variable {ops : Array Oper} {rest : List Oper} {K : Env → Prop} {A : VA} {op : Op} {dd : Nat} {row : Option Nat} {F : World → Prop}
theorem ym {x : Nat} (h : ∀ w1, w0.grownBy w1 row → OpC P w1 L ⟨some dd, op, ty, pos, aft, none⟩ A) [hA : AvR row A] (k : RegY P ops w0 row F (some x) rest K ((dd, A) :: L)) : RegY P ops w0 row F (some (x + 1)) (⟨some dd, op, ty, pos, aft, none⟩ :: rest) K L :=
  ⟨A, fun w1 h1 a w he hv _ => by simp only [Region.wanted, if_true]; exact (h w1 h1).out _ w he hv, hA, k⟩
theorem yx {d : Option Nat} (h : XOpY P w0 row F L ⟨d, op, ty, pos, aft, none⟩ A) (k : RegY P ops w0 row F none rest K (push d A L)) : RegY P ops w0 row F (some 0) (⟨d, op, ty, pos, aft, none⟩ :: rest) K L :=
  ⟨rfl, A, h, k⟩
theorem ye {x : Option Nat} (h : K L) : RegY P ops w0 row F x [] K L := by
  match x, h with
  | none, h => exact h
  | some 0, h => exact h
  | some (x + 1), h => exact h
/-- a store into one cell -/
theorem yst1 {x y : Operand} {t bt : TypeId} {b off : Nat} {v : Value} {cs : Array Value} (ht : TI P t false 1) (hx : opd L x = some (E (.pointer (some ⟨b, off, none⟩)))) (hy : opd L y = some (E v)) (h1 : v.oneCell' = true) (hb : Blk w0 b cs bt) (ho : off < cs.size) :
    XOpY P w0 (some b) (fun w => Blk w b (cs.setIfInBounds off v) bt) L ⟨none, .store t x y, ty, pos, aft, none⟩ Any := by
  refine ⟨fun ρ w he hv => ?_⟩
  have hxv : ρ x = .pointer (some ⟨b, off, none⟩) := hv x (by simp [Op.operands]) _ hx
  have hyv : ρ y = v := hv y (by simp [Op.operands]) _ hy
  have hb' := hb.ext he
  have hc : v.cells = #[v] := by cases v <;> simp [Value.cells, Value.oneCell'] at h1 ⊢
  have hrun := run_storeCells_at (P := P) b off bt [v] 0 cs w hb' (by simp; omega) (by simpa using h1)
  have e := setRow_take cs off v ho
  simp only [List.length_singleton, Nat.add_zero] at hrun
  rw [e] at hrun
  simp only [OpR, execOp, Sem.run_bind, Instr.storeAt, Instr.sureAddr, hxv, hyv, storeVar, hc, ht.size, hrun, Result.andThen_ok, Sem.run_pure]
  simp [ht.size, hrun]
  exact ⟨grownBy_setRow _ _ _, trivial, setRow_heap _ _ _ _ _ _ hb'⟩
end
end Go.Mono
