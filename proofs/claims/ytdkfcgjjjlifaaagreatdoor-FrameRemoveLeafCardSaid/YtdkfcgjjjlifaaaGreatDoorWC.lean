/-
  Walks and plain facts, in this order: Frame4, R26c, Tree, Plain1, R45, R45b, Plain2, Plain3, Frame5, MonoZ, Frame6, Node, MonoW, MonoP, Below2, Leave, Words, Min.
  No condition.
-/
import Derived.Test.YtdkfcgjjjlifaaaGreatDoorWB
import Derived.Test.YtdkfcgjjjlifaaaGreatDoorWA
set_option linter.unusedVariables false
set_option linter.unusedSimpArgs false
namespace Go.Mono
open Go Go.Proofs Go.RowKit

theorem feh1_spec (b : Int × BS) (p q : Nat) (x y : Int) (W : World) (B1 : Blk W p #[I x] 3) (B2 : Blk W q #[I y] 3) :
    Calls Tryz.prog 88 #[bagV b, .pointer (some ⟨p, 0, none⟩), .pointer (some ⟨q, 0, none⟩)] W (Post (E (B (has b.2 x && has b.2 y))) W) := by
  refine enter (args := [bagV b, .pointer (some ⟨p, 0, none⟩), .pointer (some ⟨q, 0, none⟩)]) (As := [E (bagV b), E (.pointer (some ⟨p, 0, none⟩)), E (.pointer (some ⟨q, 0, none⟩))]) Tryz.func88 rfl Tryz.ntmps88 (Nat.le_of_ble_eq_true rfl) ?_ (fun a hf => ?_) (Nat.le_of_ble_eq_true rfl)
  rotate_left
  dsimp only [params, Nat.reduceAdd] at hf
  rotate_right
  · exact arg3 rfl rfl rfl
  have e := Ext.rfl' W
  repeat refine seq ?_
  refine regn0 ?_
  refine tl_box hf rfl (by decide) fun a b3 w v3 hv3 e' hb3 hs3 B3 hf => ?_
  have hle3 := Nat.le_trans e.size (Nat.le_of_eq hb3.symm)
  have lt3_B1 := B1.lt
  have lt3_B2 := B2.lt
  replace e := Ext.tr e e'
  replace B1 := B1.ext e'
  replace B2 := B2.ext e'
  clear e'
  refine tl_as hf rfl (by decide) fun a hf => ?_
  refine tl_nil ?_
  cases hv3
  cases h1 : has b.2 x
  · repeat refine seq ?_
    refine regn 10 hf (by decide +kernel) ?_
    refine st (fldA Tryz.underlying70 rfl T67 (by decide) rfl) ?_
    refine st ((ldP T67 rfl B3 (bagC_le _)).eq (bagC_1 _)) ?_
    refine st (ld1 T3 rfl B1 rfl) ?_
    refine st ((call2 En75 rfl rfl (fun v u w he h h' => by cases h; cases h'; exact has_spec _ _ w)).eq (congrArg Value.bool (h1))) ?_
    refine st (mv rfl) ?_
    refine sn rfl rfl rfl ?_
    refine sn rfl rfl rfl ?_
    refine sn rfl rfl rfl ?_
    refine sn rfl rfl rfl ?_
    refine st (pkF rfl rfl) ?_
    refine en fun a w e' hf => ?_
    replace e := Ext.tr e e'
    replace B1 := B1.ext e'
    replace B2 := B2.ext e'
    replace B3 := B3.ext e'
    clear e'
    refine tl_as hf rfl (by decide) fun a hf => ?_
    refine tl_nil ?_
    refine wret ?_
    try simp only [Exit.then, Exit.inBlock]
    refine ret1 rfl hf rfl ?_
    rintro _ rfl
    exact ⟨_, rfl, e, rfl⟩
  · repeat refine seq ?_
    refine regn 10 hf (by decide +kernel) ?_
    refine st (fldA Tryz.underlying70 rfl T67 (by decide) rfl) ?_
    refine st ((ldP T67 rfl B3 (bagC_le _)).eq (bagC_1 _)) ?_
    refine st (ld1 T3 rfl B1 rfl) ?_
    refine st ((call2 En75 rfl rfl (fun v u w he h h' => by cases h; cases h'; exact has_spec _ _ w)).eq (congrArg Value.bool (h1))) ?_
    refine st (mv rfl) ?_
    refine sy rfl rfl (fldA Tryz.underlying70 rfl T67 (by decide) rfl) ?_
    refine sy rfl rfl ((ldP T67 rfl B3 (bagC_le _)).eq (bagC_1 _)) ?_
    refine sy rfl rfl (ld1 T3 rfl B2 rfl) ?_
    refine sy rfl rfl (call2 En75 rfl rfl (fun v u w he h h' => by cases h; cases h'; exact has_spec _ _ w)) ?_
    refine st (pkT rfl rfl) ?_
    refine en fun a w e' hf => ?_
    replace e := Ext.tr e e'
    replace B1 := B1.ext e'
    replace B2 := B2.ext e'
    replace B3 := B3.ext e'
    clear e'
    refine tl_as hf rfl (by decide) fun a hf => ?_
    refine tl_nil ?_
    refine wret ?_
    try simp only [Exit.then, Exit.inBlock]
    refine ret1 rfl hf rfl ?_
    rintro _ rfl
    exact ⟨_, rfl, e, rfl⟩

/-- some bag has both -/
def bothF (t : List (Int × BS)) (x y : Int) : Bool := decide (0 ≤ fstB (fun b => has b.2 x && has b.2 y) t)
def ehF (F : Fm) (x y : Int) : Int × Bool :=
  if ((F.2.2 x).isSome && ((F.2.2 y).isSome && (!(x == y) && bothF F.1 x y))) = true then
    (if (ofF F ((F.2.2 y).getD 0)).2.2.2.2 < (ofF F ((F.2.2 x).getD 0)).2.2.2.2 then (F.2.2 x).getD 0 else (F.2.2 y).getD 0, true)
  else (0, false)

theorem fehome_spec {G : Nat → Prop} (F : Fm) (x y : Int) (v : Value) (W : World) (h : (Dv (ptE frE) G (some F)).p v W) (hw : (Lit.int .i64 x).wf = true) (hw' : (Lit.int .i64 y).wf = true) (hl : F.1.length ≤ 4096) (hn : F.2.1.length = F.1.length) :
    Calls Tryz.prog 30 #[v, I x, I y] W (Post (E (.tuple #[I (ehF F x y).1, B (ehF F x y).2])) W) := by
  refine enter (args := [v, I x, I y]) (As := [Dv (ptE frE) (GB W G) (some F), E (I x), E (I y)]) Tryz.func30 rfl Tryz.ntmps30 (Nat.le_of_ble_eq_true rfl) ?_ (fun a hf => ?_) (Nat.le_of_ble_eq_true rfl)
  rotate_left
  dsimp only [params, Nat.reduceAdd] at hf
  rotate_right
  · exact arg3 (Dv.toB h) rfl rfl
  have e := Ext.rfl' W
  repeat refine seq ?_
  refine regn0 ?_
  refine tl_box hf rfl (by decide) fun a b4 w v4 hv4 e' hb4 hs4 B4 hf => ?_
  have hle4 := Nat.le_trans e.size (Nat.le_of_eq hb4.symm)
  replace e := Ext.tr e e'
  clear e'
  refine tl_box hf rfl (by decide) fun a b5 w v5 hv5 e' hb5 hs5 B5 hf => ?_
  have hle5 := Nat.le_trans e.size (Nat.le_of_eq hb5.symm)
  have lt5_B4 := B4.lt
  replace e := Ext.tr e e'
  replace B4 := B4.ext e'
  clear e'
  refine tl_as hf rfl (by decide) fun a hf => ?_
  refine tl_as hf rfl (by decide) fun a hf => ?_
  refine tl_nil ?_
  cases hv4
  cases hv5
  have hne : b4 ≠ b5 := by omega
  repeat refine seq ?_
  refine regn 6 hf (by decide +kernel) ?_
  refine st (mv rfl) ?_
  refine st (ld1 T3 rfl B4 rfl) ?_
  refine st (call2 En31 rfl rfl (fun v u w he h h' => by cases h'; exact fvhome_spec F _ _ w h hw)) ?_
  refine st (mv rfl) ?_
  refine st (exE rfl rfl) ?_
  refine st (exE rfl rfl) ?_
  refine en fun a w e' hf => ?_
  replace e := Ext.tr e e'
  replace B4 := B4.ext e'
  replace B5 := B5.ext e'
  clear e'
  refine tl_as hf rfl (by decide) fun a hf => ?_
  refine tl_as hf rfl (by decide) fun a hf => ?_
  refine tl_nil ?_
  replace hf := hf.keep [0, 4, 5, 6, 7, 8, 9]
  dsimp only [keep, List.filterMap, look, Nat.beq, Option.map] at hf
  repeat refine seq ?_
  refine regn 6 hf (by decide +kernel) ?_
  refine st (mv rfl) ?_
  refine st (ld1 T3 rfl B5 rfl) ?_
  refine st (call2 En31 rfl rfl (fun v u w he h h' => by cases h'; exact fvhome_spec F _ _ w h hw')) ?_
  refine st (mv rfl) ?_
  refine st (exE rfl rfl) ?_
  refine st (exE rfl rfl) ?_
  refine en fun a w e' hf => ?_
  replace e := Ext.tr e e'
  replace B4 := B4.ext e'
  replace B5 := B5.ext e'
  clear e'
  refine tl_as hf rfl (by decide) fun a hf => ?_
  refine tl_as hf rfl (by decide) fun a hf => ?_
  refine tl_nil ?_
  replace hf := hf.keep [0, 4, 5, 6, 7, 8, 9, 10, 11]
  dsimp only [keep, List.filterMap, look, Nat.beq, Option.map] at hf
  have no : ((F.2.2 x).isSome && ((F.2.2 y).isSome && (!(x == y) && bothF F.1 x y))) = false → ehF F x y = (0, false) := fun h => by rw [ehF, if_neg (by rw [h]; decide)]
  have yes : ((F.2.2 x).isSome && ((F.2.2 y).isSome && (!(x == y) && bothF F.1 x y))) = true → ehF F x y = (if (ofF F ((F.2.2 y).getD 0)).2.2.2.2 < (ofF F ((F.2.2 x).getD 0)).2.2.2.2 then (F.2.2 x).getD 0 else (F.2.2 y).getD 0, true) := fun h => by rw [ehF, if_pos h]
  cases h1 : (F.2.2 x).isSome
  · rw [h1] at hf
    repeat refine seq ?_
    refine regn 20 hf (by decide +kernel) ?_
    refine st (mv rfl) ?_
    refine st (notp rfl) ?_
    refine st (mv rfl) ?_
    refine sn rfl rfl rfl ?_
    refine sn rfl rfl rfl ?_
    refine st (pkT rfl rfl) ?_
    refine st (mv rfl) ?_
    refine sn rfl rfl rfl ?_
    refine sn rfl rfl rfl ?_
    refine sn rfl rfl rfl ?_
    refine st (pkT rfl rfl) ?_
    refine st (mv rfl) ?_
    refine sn rfl rfl rfl ?_
    refine sn rfl rfl rfl ?_
    refine sn rfl rfl rfl ?_
    refine sn rfl rfl rfl ?_
    refine sn rfl rfl rfl ?_
    refine sn rfl rfl rfl ?_
    refine sn rfl rfl rfl ?_
    refine st (pkT rfl rfl) ?_
    refine en fun a w e' hf => ?_
    replace e := Ext.tr e e'
    replace B4 := B4.ext e'
    replace B5 := B5.ext e'
    clear e'
    refine tl_nil ?_
    repeat refine seq ?_
    refine ifc hf rfl (fun _ => ?_) (fun h => by cases h)
    repeat refine seq ?_
    refine regn0 ?_
    refine tl_as hf rfl (by decide) fun a hf => ?_
    refine tl_as hf rfl (by decide) fun a hf => ?_
    refine tl_nil ?_
    refine wret (ret2 rfl hf rfl rfl ?_)
    rintro _ _ rfl rfl
    exact ⟨_, rfl, e, by rw [no (by rw [h1]; rfl)]; rfl⟩
  cases h2 : (F.2.2 y).isSome
  · rw [h1, h2] at hf
    repeat refine seq ?_
    refine regn 20 hf (by decide +kernel) ?_
    refine st (mv rfl) ?_
    refine st (notp rfl) ?_
    refine st (mv rfl) ?_
    refine sy rfl rfl (mv rfl) ?_
    refine sy rfl rfl (notp rfl) ?_
    refine st (pkF rfl rfl) ?_
    refine st (mv rfl) ?_
    refine sn rfl rfl rfl ?_
    refine sn rfl rfl rfl ?_
    refine sn rfl rfl rfl ?_
    refine st (pkT rfl rfl) ?_
    refine st (mv rfl) ?_
    refine sn rfl rfl rfl ?_
    refine sn rfl rfl rfl ?_
    refine sn rfl rfl rfl ?_
    refine sn rfl rfl rfl ?_
    refine sn rfl rfl rfl ?_
    refine sn rfl rfl rfl ?_
    refine sn rfl rfl rfl ?_
    refine st (pkT rfl rfl) ?_
    refine en fun a w e' hf => ?_
    replace e := Ext.tr e e'
    replace B4 := B4.ext e'
    replace B5 := B5.ext e'
    clear e'
    refine tl_nil ?_
    repeat refine seq ?_
    refine ifc hf rfl (fun _ => ?_) (fun h => by cases h)
    repeat refine seq ?_
    refine regn0 ?_
    refine tl_as hf rfl (by decide) fun a hf => ?_
    refine tl_as hf rfl (by decide) fun a hf => ?_
    refine tl_nil ?_
    refine wret (ret2 rfl hf rfl rfl ?_)
    rintro _ _ rfl rfl
    exact ⟨_, rfl, e, by rw [no (by rw [h1, h2]; rfl)]; rfl⟩
  rw [h1, h2] at hf
  cases h3 : (x == y)
  rotate_left
  · repeat refine seq ?_
    refine regn 20 hf (by decide +kernel) ?_
    refine st (mv rfl) ?_
    refine st (notp rfl) ?_
    refine st (mv rfl) ?_
    refine sy rfl rfl (mv rfl) ?_
    refine sy rfl rfl (notp rfl) ?_
    refine st (pkF rfl rfl) ?_
    refine st (mv rfl) ?_
    refine sy rfl rfl (ld1 T3 rfl B4 rfl) ?_
    refine sy rfl rfl (ld1 T3 rfl B5 rfl) ?_
    refine sy rfl rfl ((eql rfl rfl).eq (congrArg Value.bool (h3))) ?_
    refine st (pkF rfl rfl) ?_
    refine st (mv rfl) ?_
    refine sn rfl rfl rfl ?_
    refine sn rfl rfl rfl ?_
    refine sn rfl rfl rfl ?_
    refine sn rfl rfl rfl ?_
    refine sn rfl rfl rfl ?_
    refine sn rfl rfl rfl ?_
    refine sn rfl rfl rfl ?_
    refine st (pkT rfl rfl) ?_
    refine en fun a w e' hf => ?_
    replace e := Ext.tr e e'
    replace B4 := B4.ext e'
    replace B5 := B5.ext e'
    clear e'
    refine tl_nil ?_
    repeat refine seq ?_
    refine ifc hf rfl (fun _ => ?_) (fun h => by cases h)
    repeat refine seq ?_
    refine regn0 ?_
    refine tl_as hf rfl (by decide) fun a hf => ?_
    refine tl_as hf rfl (by decide) fun a hf => ?_
    refine tl_nil ?_
    refine wret (ret2 rfl hf rfl rfl ?_)
    rintro _ _ rfl rfl
    exact ⟨_, rfl, e, by rw [no (by rw [h1, h2, h3]; rfl)]; rfl⟩
  cases h4 : bothF F.1 x y
  · repeat refine seq ?_
    refine regn 20 hf (by decide +kernel) ?_
    refine st (mv rfl) ?_
    refine st (notp rfl) ?_
    refine st (mv rfl) ?_
    refine sy rfl rfl (mv rfl) ?_
    refine sy rfl rfl (notp rfl) ?_
    refine st (pkF rfl rfl) ?_
    refine st (mv rfl) ?_
    refine sy rfl rfl (ld1 T3 rfl B4 rfl) ?_
    refine sy rfl rfl (ld1 T3 rfl B5 rfl) ?_
    refine sy rfl rfl ((eql rfl rfl).eq (congrArg Value.bool (h3))) ?_
    refine st (pkF rfl rfl) ?_
    refine st (mv rfl) ?_
    refine sy rfl rfl (mv rfl) ?_
    refine sy rfl rfl (nilC (isR rfl)) ?_
    refine sy rfl rfl (fldD Tryz.underlying92 rfl T23 (by decide) (Fld.fst Fld.refl) (isR rfl)) ?_
    refine sy rfl rfl (ldD T23 (isR rfl)) ?_
    refine sy rfl rfl (makeF2 rfl rfl) ?_
    refine sy rfl rfl ((call2 En65 rfl rfl (fun v u w he h h' => by cases h'; exact containsFunc_spec F.1 _ _ _ (fun b => has b.2 x && has b.2 y) w En88 h (fun w' b he' => feh1_spec b _ _ x y w' (B4.ext (Ext.tr he he')) (B5.ext (Ext.tr he he'))) hl)).eq (congrArg Value.bool (h4))) ?_
    refine sy rfl rfl (notp rfl) ?_
    refine st (pkF rfl rfl) ?_
    refine en fun a w e' hf => ?_
    replace e := Ext.tr e e'
    replace B4 := B4.ext e'
    replace B5 := B5.ext e'
    clear e'
    refine tl_nil ?_
    repeat refine seq ?_
    refine ifc hf rfl (fun _ => ?_) (fun h => by cases h)
    repeat refine seq ?_
    refine regn0 ?_
    refine tl_as hf rfl (by decide) fun a hf => ?_
    refine tl_as hf rfl (by decide) fun a hf => ?_
    refine tl_nil ?_
    refine wret (ret2 rfl hf rfl rfl ?_)
    rintro _ _ rfl rfl
    exact ⟨_, rfl, e, by rw [no (by rw [h1, h2, h3, h4]; rfl)]; rfl⟩
  · repeat refine seq ?_
    refine regn 20 hf (by decide +kernel) ?_
    refine st (mv rfl) ?_
    refine st (notp rfl) ?_
    refine st (mv rfl) ?_
    refine sy rfl rfl (mv rfl) ?_
    refine sy rfl rfl (notp rfl) ?_
    refine st (pkF rfl rfl) ?_
    refine st (mv rfl) ?_
    refine sy rfl rfl (ld1 T3 rfl B4 rfl) ?_
    refine sy rfl rfl (ld1 T3 rfl B5 rfl) ?_
    refine sy rfl rfl ((eql rfl rfl).eq (congrArg Value.bool (h3))) ?_
    refine st (pkF rfl rfl) ?_
    refine st (mv rfl) ?_
    refine sy rfl rfl (mv rfl) ?_
    refine sy rfl rfl (nilC (isR rfl)) ?_
    refine sy rfl rfl (fldD Tryz.underlying92 rfl T23 (by decide) (Fld.fst Fld.refl) (isR rfl)) ?_
    refine sy rfl rfl (ldD T23 (isR rfl)) ?_
    refine sy rfl rfl (makeF2 rfl rfl) ?_
    refine sy rfl rfl ((call2 En65 rfl rfl (fun v u w he h h' => by cases h'; exact containsFunc_spec F.1 _ _ _ (fun b => has b.2 x && has b.2 y) w En88 h (fun w' b he' => feh1_spec b _ _ x y w' (B4.ext (Ext.tr he he')) (B5.ext (Ext.tr he he'))) hl)).eq (congrArg Value.bool (h4))) ?_
    refine sy rfl rfl (notp rfl) ?_
    refine st (pkF rfl rfl) ?_
    refine en fun a w e' hf => ?_
    replace e := Ext.tr e e'
    replace B4 := B4.ext e'
    replace B5 := B5.ext e'
    clear e'
    refine tl_nil ?_
    have hy := yes (by rw [h1, h2, h3, h4]; rfl)
    repeat refine seq ?_
    refine ifc hf rfl (fun h => by cases h) (fun _ => ?_)
    refine wskip ?_
    try simp only [Exit.then, Exit.inBlock, ↓reduceIte]
    replace hf := hf.keep [0, 6, 7, 8, 10]
    dsimp only [keep, List.filterMap, look, Nat.beq, Option.map] at hf
    repeat refine seq ?_
    refine regn 7 hf (by decide +kernel) ?_
    refine st (mv rfl) ?_
    refine st (mv rfl) ?_
    refine st (call2 En89 rfl rfl (fun v u w he h h' => by cases h'; exact fdepth_spec F _ _ w h hn)) ?_
    refine st (mv rfl) ?_
    refine st (mv rfl) ?_
    refine st (call2 En89 rfl rfl (fun v u w he h h' => by cases h'; exact fdepth_spec F _ _ w h hn)) ?_
    refine st (gtr rfl rfl) ?_
    refine en fun a w e' hf => ?_
    replace e := Ext.tr e e'
    replace B4 := B4.ext e'
    replace B5 := B5.ext e'
    clear e'
    refine tl_nil ?_
    repeat refine seq ?_
    refine ifc hf rfl (fun hb => ?_) (fun hb => ?_)
    · rw [if_pos (of_decide_eq_true hb)] at hy
      repeat refine seq ?_
      refine regn 1 hf (by decide +kernel) ?_
      refine st (mv rfl) ?_
      refine en fun a w e' hf => ?_
      replace e := Ext.tr e e'
      replace B4 := B4.ext e'
      replace B5 := B5.ext e'
      clear e'
      refine tl_as hf rfl (by decide) fun a hf => ?_
      refine tl_as hf rfl (by decide) fun a hf => ?_
      refine tl_nil ?_
      refine wret (ret2 rfl hf rfl rfl ?_)
      rintro _ _ rfl rfl
      exact ⟨_, rfl, e, by rw [hy]; rfl⟩
    · rw [if_neg (of_decide_eq_false hb)] at hy
      refine wskip ?_
      try simp only [Exit.then, Exit.inBlock, ↓reduceIte]
      repeat refine seq ?_
      refine regn 1 hf (by decide +kernel) ?_
      refine st (mv rfl) ?_
      refine en fun a w e' hf => ?_
      replace e := Ext.tr e e'
      replace B4 := B4.ext e'
      replace B5 := B5.ext e'
      clear e'
      refine tl_as hf rfl (by decide) fun a hf => ?_
      refine tl_as hf rfl (by decide) fun a hf => ?_
      refine tl_nil ?_
      refine wret (ret2 rfl hf rfl rfl ?_)
      rintro _ _ rfl rfl
      exact ⟨_, rfl, e, by rw [hy]; rfl⟩
end Go.Mono

namespace Go.Mono
open Go Go.Proofs Go.RowKit

structure Vals (xs : List RB) : Prop where
  range : ∀ i, i < xs.length → -1 ≤ up xs i ∧ up xs i < xs.length
  root : (selN (fun i => decide (up xs i < 0)) xs.length).length = 1
  loop : ∀ i, i < xs.length → (above xs i).isSome = true
  dup : ∀ i, i < xs.length → ∀ id ∈ hs xs i, (topsR xs id).length = 1
open Classical in
/-- the error's number -/
noncomputable def chkR (xs : List RB) : Int :=
  if xs.length < 1 then 2 else
  if ¬ ∀ i, i < xs.length → -1 ≤ up xs i ∧ up xs i < xs.length then 3 else
  if ¬ (selN (fun i => decide (up xs i < 0)) xs.length).length = 1 then 3 else
  if ¬ ∀ i, i < xs.length → (above xs i).isSome = true then 15 else
  if ¬ ∀ i, i < xs.length → ∀ id ∈ hs xs i, (topsR xs id).length = 1 then 7 else 0
theorem chkR_ok {xs : List RB} : chkR xs = 0 ↔ 0 < xs.length ∧ Vals xs := by
  unfold chkR
  constructor
  · intro h
    split at h
    · cases h
    · split at h
      · cases h
      · split at h
        · cases h
        · split at h
          · cases h
          · split at h
            · cases h
            · rename_i h1 h2 h3 h4 h5
              exact ⟨by omega, ⟨Classical.not_not.1 h2, Classical.not_not.1 h3, Classical.not_not.1 h4, Classical.not_not.1 h5⟩⟩
  · rintro ⟨h0, h⟩
    rw [if_neg (by omega), if_neg (Classical.not_not.2 h.range), if_neg (Classical.not_not.2 h.root), if_neg (Classical.not_not.2 h.loop), if_neg (Classical.not_not.2 h.dup)]

theorem chkR_spec {G : Nat → Prop} (xs : List RB) (v : Value) (W : World) (h : (Dv rtE G xs).p v W) (hl : xs.length ≤ 4096) (hh : ∀ i, i < xs.length → (hs xs i).length ≤ 4096) :
    Calls Tryz.prog 39 #[v] W (Post (E (I (chkR xs))) W) := by
  refine enter (args := [v]) (As := [Dv rtE G0 xs]) Tryz.func39 rfl Tryz.ntmps39 (Nat.le_of_ble_eq_true rfl) ?_ (fun a hf => ?_) (Nat.le_of_ble_eq_true rfl)
  rotate_left
  dsimp only [params, Nat.reduceAdd] at hf
  rotate_right
  · exact arg1 (Dv.weak h fun b _ hb => hb.elim)
  have e := Ext.rfl' W
  repeat refine seq ?_
  refine regn0 ?_
  refine tl_as hf rfl (by decide) fun a hf => ?_
  refine tl_nil ?_
  cases h0 : decide (((xs.length : Nat) : Int) < 1)
  rotate_left
  · repeat refine seq ?_
    refine regn 8 hf (by decide +kernel) ?_
    refine st (mv rfl) ?_
    refine st (lenD Tryz.underlying29 (isR rfl)) ?_
    refine st ((lss rfl rfl).eq (congrArg Value.bool (h0))) ?_
    refine st (mv rfl) ?_
    refine sn rfl rfl rfl ?_
    refine sn rfl rfl rfl ?_
    refine sn rfl rfl rfl ?_
    refine st (pkT rfl rfl) ?_
    refine en fun a w e' hf => ?_
    replace e := Ext.tr e e'
    clear e'
    refine tl_nil ?_
    have h0' := of_decide_eq_true h0
    repeat refine seq ?_
    refine ifc hf rfl (fun _ => ?_) (fun h => by cases h)
    repeat refine seq ?_
    refine regn0 ?_
    refine tl_as hf rfl (by decide) fun a hf => ?_
    refine tl_nil ?_
    refine wret ?_
    try simp only [Exit.then, Exit.inBlock]
    refine ret1 rfl hf rfl ?_
    rintro _ rfl
    exact ⟨_, rfl, e, congrArg I (by rw [chkR, if_pos (by omega)])⟩
  have h0' := of_decide_eq_false h0
  repeat refine seq ?_
  refine regn 8 hf (by decide +kernel) ?_
  refine st (mv rfl) ?_
  refine st (lenD Tryz.underlying29 (isR rfl)) ?_
  refine st ((lss rfl rfl).eq (congrArg Value.bool (h0))) ?_
  refine st (mv rfl) ?_
  refine sy rfl rfl (mv rfl) ?_
  refine sy rfl rfl (lenD Tryz.underlying29 (isR rfl)) ?_
  refine sy rfl rfl ((gtr rfl rfl).eq (congrArg Value.bool (show decide ((4096 : Int) < (xs.length : Nat)) = false from decide_eq_false (by omega)))) ?_
  refine st (pkF rfl rfl) ?_
  refine en fun a w e' hf => ?_
  replace e := Ext.tr e e'
  clear e'
  refine tl_nil ?_
  repeat refine seq ?_
  refine ifc hf rfl (fun h => by cases h) (fun _ => ?_)
  refine wskip ?_
  try simp only [Exit.then, Exit.inBlock, ↓reduceIte]
  repeat refine seq ?_
  refine regn0 ?_
  refine tl_as hf rfl (by decide) fun a hf => ?_
  refine tl_nil ?_
  repeat refine seq ?_
  refine regn0 ?_
  refine tl_as hf rfl (by decide) fun a hf => ?_
  refine tl_nil ?_
  replace hf := hf.keep [0, 3, 4]
  dsimp only [keep, List.filterMap, look, Nat.beq, Option.map] at hf
  repeat refine seq ?_
  refine blk (loopN (fun r0 a w => ∃ (k : Nat) , r0 = xs.length - k ∧ k ≤ xs.length ∧ Fr 92 a w [(0, Dv rtE G0 xs), (3, E (I ((selN (fun i => decide (up xs i < 0)) k).length : Nat))), (4, E (I k))] ∧ Ext W w ∧ ∀ i, i < k → -1 ≤ up xs i ∧ up xs i < xs.length) xs.length ⟨0, rfl, by omega, hf, e, (fun i hi => by omega)⟩ ?_)
  clear hf e; try clear Ho
  rintro r0 a w ⟨k, rfl, hk, hf, e, Ho⟩
  repeat refine seq ?_
  refine regn 4 hf (by decide +kernel) ?_
  refine st (mv rfl) ?_
  refine st (mv rfl) ?_
  refine st (lenD Tryz.underlying29 (isR rfl)) ?_
  refine st (lss rfl rfl) ?_
  refine en fun a w e' hf => ?_
  replace e := Ext.tr e e'
  clear e'
  refine tl_nil ?_
  repeat refine seq ?_
  refine ifc hf rfl (fun hc => wskip ?_) (fun hc => wexit ?_)
  rotate_left
  rotate_left
  · have hlt : k < xs.length := by have := of_decide_eq_true hc; (try dsimp only at this); omega
    clear hc
    replace hf := hf.keep [0, 3, 4]
    dsimp only [keep, List.filterMap, look, Nat.beq, Option.map] at hf
    repeat refine seq ?_
    refine blk ?_
    have g := up_get hlt
    have hsel := selN_len (fun i => decide (up xs i < 0)) k
    cases h1 : decide (up xs k < -1)
    · repeat refine seq ?_
      refine regn 16 hf (by decide +kernel) ?_
      refine st (mv rfl) ?_
      refine st (mv rfl) ?_
      refine st (idxD Tryz.underlying29 S97 (isR rfl) rfl (by omega) (g)) ?_
      refine st (fldD Tryz.underlying97 rfl T3 (by decide) (Fld.fst Fld.refl) (isR rfl)) ?_
      refine st (ldI T3 (isR rfl)) ?_
      refine st ((lss rfl rfl).eq (congrArg Value.bool (h1))) ?_
      refine st (mv rfl) ?_
      refine sy rfl rfl (mv rfl) ?_
      refine sy rfl rfl (mv rfl) ?_
      refine sy rfl rfl (idxD Tryz.underlying29 S97 (isR rfl) rfl (by omega) (g)) ?_
      refine sy rfl rfl (fldD Tryz.underlying97 rfl T3 (by decide) (Fld.fst Fld.refl) (isR rfl)) ?_
      refine sy rfl rfl (ldI T3 (isR rfl)) ?_
      refine sy rfl rfl (mv rfl) ?_
      refine sy rfl rfl (lenD Tryz.underlying29 (isR rfl)) ?_
      refine sy rfl rfl (geq rfl rfl) ?_
      refine st (pkF rfl rfl) ?_
      refine en fun a w e' hf => ?_
      replace e := Ext.tr e e'
      clear e'
      refine tl_nil ?_
      have h1' := of_decide_eq_false h1
      repeat refine seq ?_
      refine ifc hf rfl (fun hb => ?_) (fun hb => ?_)
      · have hb' := of_decide_eq_true hb
        repeat refine seq ?_
        refine regn0 ?_
        refine tl_as hf rfl (by decide) fun a hf => ?_
        refine tl_nil ?_
        refine wret ?_
        try simp only [Exit.then, Exit.inBlock]
        refine ret1 rfl hf rfl ?_
        rintro _ rfl
        exact ⟨_, rfl, e, congrArg I (by rw [chkR, if_neg (by omega), if_pos (fun h => by have := (h k hlt).2; omega)])⟩
      · have hb' := of_decide_eq_false hb
        have Ho' : ∀ i, i < k + 1 → -1 ≤ up xs i ∧ up xs i < xs.length := by
          intro i hi
          by_cases hk : i = k
          · subst hk; exact ⟨by omega, by omega⟩
          · exact Ho i (by omega)
        refine wskip ?_
        try simp only [Exit.then, Exit.inBlock, ↓reduceIte]
        replace hf := hf.keep [0, 3, 4]
        dsimp only [keep, List.filterMap, look, Nat.beq, Option.map] at hf
        repeat refine seq ?_
        refine regn 6 hf (by decide +kernel) ?_
        refine st (mv rfl) ?_
        refine st (mv rfl) ?_
        refine st (idxD Tryz.underlying29 S97 (isR rfl) rfl (by omega) (g)) ?_
        refine st (fldD Tryz.underlying97 rfl T3 (by decide) (Fld.fst Fld.refl) (isR rfl)) ?_
        refine st (ldI T3 (isR rfl)) ?_
        refine st (lss rfl rfl) ?_
        refine en fun a w e' hf => ?_
        replace e := Ext.tr e e'
        clear e'
        refine tl_nil ?_
        repeat refine seq ?_
        refine ifc hf rfl (fun hb => ?_) (fun hb => ?_)
        · repeat refine seq ?_
          refine regn 2 hf (by decide +kernel) ?_
          refine st (mv rfl) ?_
          refine st ((add rfl rfl (by omega)).eq (congrArg (Value.int .i64) (show ((selN (fun i => decide (up xs i < 0)) k).length : Int) + 1 = ((selN (fun i => decide (up xs i < 0)) (k + 1)).length : Nat) from by rw [selN_succ, if_pos hb]; simp))) ?_
          refine en fun a w e' hf => ?_
          replace e := Ext.tr e e'
          clear e'
          refine tl_as hf rfl (by decide) fun a hf => ?_
          refine tl_nil ?_
          try simp only [Exit.then, Exit.inBlock, ↓reduceIte]
          repeat refine seq ?_
          refine regn 2 hf (by decide +kernel) ?_
          refine st (mv rfl) ?_
          refine st ((add rfl rfl (by omega)).eq (congrArg (Value.int .i64) (show (k : Int) + 1 = ((k + 1 : Nat) : Int) from rfl))) ?_
          refine en fun a w e' hf => ?_
          replace e := Ext.tr e e'
          clear e'
          refine tl_as hf rfl (by decide) fun a hf => ?_
          refine tl_nil ?_
          replace hf := hf.keep [0, 3, 4]
          dsimp only [keep, List.filterMap, look, Nat.beq, Option.map] at hf
          refine ⟨_, ?_, k + 1, rfl, by omega, hf, e, ?_⟩
          · omega
          exact Ho'
        · have hs' : (selN (fun i => decide (up xs i < 0)) k).length = (selN (fun i => decide (up xs i < 0)) (k + 1)).length := by rw [selN_succ, if_neg (by rw [hb]; decide)]
          rw [hs'] at hf
          refine wskip ?_
          try simp only [Exit.then, Exit.inBlock, ↓reduceIte]
          try simp only [Exit.then, Exit.inBlock, ↓reduceIte]
          repeat refine seq ?_
          refine regn 2 hf (by decide +kernel) ?_
          refine st (mv rfl) ?_
          refine st ((add rfl rfl (by omega)).eq (congrArg (Value.int .i64) (show (k : Int) + 1 = ((k + 1 : Nat) : Int) from rfl))) ?_
          refine en fun a w e' hf => ?_
          replace e := Ext.tr e e'
          clear e'
          refine tl_as hf rfl (by decide) fun a hf => ?_
          refine tl_nil ?_
          replace hf := hf.keep [0, 3, 4]
          dsimp only [keep, List.filterMap, look, Nat.beq, Option.map] at hf
          refine ⟨_, ?_, k + 1, rfl, by omega, hf, e, ?_⟩
          · omega
          exact Ho'
    · repeat refine seq ?_
      refine regn 16 hf (by decide +kernel) ?_
      refine st (mv rfl) ?_
      refine st (mv rfl) ?_
      refine st (idxD Tryz.underlying29 S97 (isR rfl) rfl (by omega) (g)) ?_
      refine st (fldD Tryz.underlying97 rfl T3 (by decide) (Fld.fst Fld.refl) (isR rfl)) ?_
      refine st (ldI T3 (isR rfl)) ?_
      refine st ((lss rfl rfl).eq (congrArg Value.bool (h1))) ?_
      refine st (mv rfl) ?_
      refine sn rfl rfl rfl ?_
      refine sn rfl rfl rfl ?_
      refine sn rfl rfl rfl ?_
      refine sn rfl rfl rfl ?_
      refine sn rfl rfl rfl ?_
      refine sn rfl rfl rfl ?_
      refine sn rfl rfl rfl ?_
      refine sn rfl rfl rfl ?_
      refine st (pkT rfl rfl) ?_
      refine en fun a w e' hf => ?_
      replace e := Ext.tr e e'
      clear e'
      refine tl_nil ?_
      have h1' := of_decide_eq_true h1
      repeat refine seq ?_
      refine ifc hf rfl (fun _ => ?_) (fun h => by cases h)
      repeat refine seq ?_
      refine regn0 ?_
      refine tl_as hf rfl (by decide) fun a hf => ?_
      refine tl_nil ?_
      refine wret ?_
      try simp only [Exit.then, Exit.inBlock]
      refine ret1 rfl hf rfl ?_
      rintro _ rfl
      exact ⟨_, rfl, e, congrArg I (by rw [chkR, if_neg (by omega), if_pos (fun h => by have := (h k hlt).1; omega)])⟩
  · obtain rfl : k = xs.length := by have := of_decide_eq_false hc; (try dsimp only at this); omega
    clear hc
    simp only [Exit.then, Exit.inBlock, ↓reduceIte]
    have c1 := Classical.not_not.2 Ho
    repeat refine seq ?_
    refine regn 2 hf (by decide +kernel) ?_
    refine st (mv rfl) ?_
    refine st (neq rfl rfl) ?_
    refine en fun a w e' hf => ?_
    replace e := Ext.tr e e'
    clear e'
    refine tl_nil ?_
    repeat refine seq ?_
    refine ifc hf rfl (fun hb => ?_) (fun hb => ?_)
    · have hb' : ¬ (selN (fun i => decide (up xs i < 0)) xs.length).length = 1 := by
        have : ((selN (fun i => decide (up xs i < 0)) xs.length).length : Int) ≠ 1 := by simpa using hb
        omega
      repeat refine seq ?_
      refine regn0 ?_
      refine tl_as hf rfl (by decide) fun a hf => ?_
      refine tl_nil ?_
      refine wret ?_
      try simp only [Exit.then, Exit.inBlock]
      refine ret1 rfl hf rfl ?_
      rintro _ rfl
      exact ⟨_, rfl, e, congrArg I (by rw [chkR, if_neg (by omega), if_neg c1, if_pos hb'])⟩
    · have c2 : ¬ ¬ (selN (fun i => decide (up xs i < 0)) xs.length).length = 1 := by
        have : ((selN (fun i => decide (up xs i < 0)) xs.length).length : Int) = 1 := by simpa using hb
        omega
      refine wskip ?_
      try simp only [Exit.then, Exit.inBlock, ↓reduceIte]
      repeat refine seq ?_
      refine regn0 ?_
      refine tl_as hf rfl (by decide) fun a hf => ?_
      refine tl_nil ?_
      have hr := Ho
      clear Ho
      replace hf := hf.keep [0, 5]
      dsimp only [keep, List.filterMap, look, Nat.beq, Option.map] at hf
      repeat refine seq ?_
      refine blk (loopN (fun r0 a w => ∃ (k : Nat) , r0 = xs.length - k ∧ k ≤ xs.length ∧ Fr 92 a w [(0, Dv rtE G0 xs), (5, E (I k))] ∧ Ext W w ∧ ∀ i, i < k → (above xs i).isSome = true) xs.length ⟨0, rfl, by omega, hf, e, (fun i hi => by omega)⟩ ?_)
      clear hf e; try clear Ho
      rintro r0 a w ⟨k, rfl, hk, hf, e, Ho⟩
      repeat refine seq ?_
      refine regn 4 hf (by decide +kernel) ?_
      refine st (mv rfl) ?_
      refine st (mv rfl) ?_
      refine st (lenD Tryz.underlying29 (isR rfl)) ?_
      refine st (lss rfl rfl) ?_
      refine en fun a w e' hf => ?_
      replace e := Ext.tr e e'
      clear e'
      refine tl_nil ?_
      repeat refine seq ?_
      refine ifc hf rfl (fun hc => wskip ?_) (fun hc => wexit ?_)
      rotate_left
      rotate_left
      · have hlt : k < xs.length := by have := of_decide_eq_true hc; (try dsimp only at this); omega
        clear hc
        replace hf := hf.keep [0, 5]
        dsimp only [keep, List.filterMap, look, Nat.beq, Option.map] at hf
        repeat refine seq ?_
        refine blk ?_
        repeat refine seq ?_
        refine regn 6 hf (by decide +kernel) ?_
        refine st (mv rfl) ?_
        refine st (mv rfl) ?_
        refine st (call2 En99 rfl rfl (fun v u w he h h' => by cases h'; exact above_spec (G := G0) _ _ _ _ h (fun b hb => hb.elim) hl (fun i hi => (hr i hi).2) hlt)) ?_
        refine st (mv rfl) ?_
        refine st (ext_ rfl rfl) ?_
        refine st (ext_ rfl rfl) ?_
        refine en fun a w e' hf => ?_
        replace e := Ext.tr e e'
        clear e'
        refine tl_as hf rfl (by decide) fun a hf => ?_
        refine tl_as hf rfl (by decide) fun a hf => ?_
        refine tl_nil ?_
        repeat refine seq ?_
        refine regn 2 hf (by decide +kernel) ?_
        refine st (mv rfl) ?_
        refine st (notp rfl) ?_
        refine en fun a w e' hf => ?_
        replace e := Ext.tr e e'
        clear e'
        refine tl_nil ?_
        repeat refine seq ?_
        refine ifc hf rfl (fun hb => ?_) (fun hb => ?_)
        · have hb' : ¬ (above xs k).isSome = true := by simpa using hb
          repeat refine seq ?_
          refine regn0 ?_
          refine tl_as hf rfl (by decide) fun a hf => ?_
          refine tl_nil ?_
          refine wret ?_
          try simp only [Exit.then, Exit.inBlock]
          refine ret1 rfl hf rfl ?_
          rintro _ rfl
          exact ⟨_, rfl, e, congrArg I (by rw [chkR, if_neg (by omega), if_neg c1, if_neg c2, if_pos (fun h => hb' (h k hlt))])⟩
        · have hb' : (above xs k).isSome = true := by simpa using hb
          refine wskip ?_
          try simp only [Exit.then, Exit.inBlock, ↓reduceIte]
          try simp only [Exit.then, Exit.inBlock, ↓reduceIte]
          repeat refine seq ?_
          refine regn 2 hf (by decide +kernel) ?_
          refine st (mv rfl) ?_
          refine st ((add rfl rfl (by omega)).eq (congrArg (Value.int .i64) (show (k : Int) + 1 = ((k + 1 : Nat) : Int) from rfl))) ?_
          refine en fun a w e' hf => ?_
          replace e := Ext.tr e e'
          clear e'
          refine tl_as hf rfl (by decide) fun a hf => ?_
          refine tl_nil ?_
          replace hf := hf.keep [0, 5]
          dsimp only [keep, List.filterMap, look, Nat.beq, Option.map] at hf
          refine ⟨_, ?_, k + 1, rfl, by omega, hf, e, ?_⟩
          · omega
          intro i hi
          by_cases hk : i = k
          · subst hk; exact hb'
          · exact Ho i (by omega)
      · obtain rfl : k = xs.length := by have := of_decide_eq_false hc; (try dsimp only at this); omega
        clear hc
        simp only [Exit.then, Exit.inBlock, ↓reduceIte]
        have c3 := Classical.not_not.2 Ho
        clear Ho
        repeat refine seq ?_
        refine regn0 ?_
        refine tl_as hf rfl (by decide) fun a hf => ?_
        refine tl_nil ?_
        replace hf := hf.keep [0, 8]
        dsimp only [keep, List.filterMap, look, Nat.beq, Option.map] at hf
        repeat refine seq ?_
        refine blk (loopN (fun r0 a w => ∃ (k : Nat) , r0 = xs.length - k ∧ k ≤ xs.length ∧ Fr 92 a w [(0, Dv rtE G0 xs), (8, E (I k))] ∧ Ext W w ∧ ∀ i, i < k → ∀ id ∈ hs xs i, (topsR xs id).length = 1) xs.length ⟨0, rfl, by omega, hf, e, (fun i hi => by omega)⟩ ?_)
        clear hf e; try clear Ho
        rintro r0 a w ⟨k, rfl, hk, hf, e, Ho⟩
        repeat refine seq ?_
        refine regn 4 hf (by decide +kernel) ?_
        refine st (mv rfl) ?_
        refine st (mv rfl) ?_
        refine st (lenD Tryz.underlying29 (isR rfl)) ?_
        refine st (lss rfl rfl) ?_
        refine en fun a w e' hf => ?_
        replace e := Ext.tr e e'
        clear e'
        refine tl_nil ?_
        repeat refine seq ?_
        refine ifc hf rfl (fun hc => wskip ?_) (fun hc => wexit ?_)
        rotate_left
        rotate_left
        · have hlt : k < xs.length := by have := of_decide_eq_true hc; (try dsimp only at this); omega
          clear hc
          replace hf := hf.keep [0, 8]
          dsimp only [keep, List.filterMap, look, Nat.beq, Option.map] at hf
          repeat refine seq ?_
          refine blk ?_
          have g := up_get hlt
          have hlk := hh k hlt
          repeat refine seq ?_
          refine regn0 ?_
          refine tl_as hf rfl (by decide) fun a hf => ?_
          refine tl_nil ?_
          have Ho1 : ∀ id ∈ (hs xs k).take 0, (topsR xs id).length = 1 := by simp
          replace hf := hf.keep [0, 8, 9]
          dsimp only [keep, List.filterMap, look, Nat.beq, Option.map] at hf
          repeat refine seq ?_
          refine blk (loopN (fun r0 a w => ∃ (j : Nat) , r0 = (hs xs k).length - j ∧ j ≤ (hs xs k).length ∧ Fr 92 a w [(0, Dv rtE G0 xs), (8, E (I k)), (9, E (I j))] ∧ Ext W w ∧ ∀ id ∈ (hs xs k).take j, (topsR xs id).length = 1) (hs xs k).length ⟨0, rfl, by omega, hf, e, Ho1⟩ ?_)
          clear hf e; try clear Ho1
          rintro r0 a w ⟨j, rfl, hj, hf, e, Ho1⟩
          repeat refine seq ?_
          refine regn 8 hf (by decide +kernel) ?_
          refine st (mv rfl) ?_
          refine st (mv rfl) ?_
          refine st (mv rfl) ?_
          refine st (idxD Tryz.underlying29 S97 (isR rfl) rfl (by omega) (g)) ?_
          refine st (fldD Tryz.underlying97 rfl T95 (by decide) (Fld.snd Fld.refl rfl) (isR rfl)) ?_
          refine st (ldD T95 (isR rfl)) ?_
          refine st (lenD Tryz.underlying95 (isR rfl)) ?_
          refine st (lss rfl rfl) ?_
          refine en fun a w e' hf => ?_
          replace e := Ext.tr e e'
          clear e'
          refine tl_nil ?_
          repeat refine seq ?_
          refine ifc hf rfl (fun hc => wskip ?_) (fun hc => wexit ?_)
          rotate_left
          rotate_left
          · have hltj : j < (hs xs k).length := by have := of_decide_eq_true hc; (try dsimp only at this); omega
            clear hc
            replace hf := hf.keep [0, 8, 9]
            dsimp only [keep, List.filterMap, look, Nat.beq, Option.map] at hf
            repeat refine seq ?_
            refine blk ?_
            have g2 := gi_get hltj
            repeat refine seq ?_
            refine regn 12 hf (by decide +kernel) ?_
            refine st (mv rfl) ?_
            refine st (mv rfl) ?_
            refine st (mv rfl) ?_
            refine st (idxD Tryz.underlying29 S97 (isR rfl) rfl (by omega) (g)) ?_
            refine st (fldD Tryz.underlying97 rfl T95 (by decide) (Fld.snd Fld.refl rfl) (isR rfl)) ?_
            refine st (ldD T95 (isR rfl)) ?_
            refine st (mv rfl) ?_
            refine st (idxD Tryz.underlying95 S3 (isR rfl) rfl (by omega) (g2)) ?_
            refine st (ldI T3 (isR rfl)) ?_
            refine st (call2 En100 rfl rfl (fun v u w he h h' => by cases h'; exact topsR_spec (G := G0) _ _ _ _ h (fun b hb => hb.elim) hl ⟨fun i hi => (hr i hi).2, hh⟩)) ?_
            refine st (lenD Tryz.underlying59 (isR rfl)) ?_
            refine st (neq rfl rfl) ?_
            refine en fun a w e' hf => ?_
            replace e := Ext.tr e e'
            clear e'
            refine tl_nil ?_
            repeat refine seq ?_
            refine ifc hf rfl (fun hb => ?_) (fun hb => ?_)
            · have hb' : ¬ (topsR xs (gi (hs xs k) j)).length = 1 := by
                have : ((topsR xs (gi (hs xs k) j)).length : Int) ≠ 1 := by simpa using hb
                omega
              repeat refine seq ?_
              refine regn0 ?_
              refine tl_as hf rfl (by decide) fun a hf => ?_
              refine tl_nil ?_
              refine wret ?_
              try simp only [Exit.then, Exit.inBlock]
              refine ret1 rfl hf rfl ?_
              rintro _ rfl
              exact ⟨_, rfl, e, congrArg I (by rw [chkR, if_neg (by omega), if_neg c1, if_neg c2, if_neg c3, if_pos (fun h => hb' (h k hlt _ (List.mem_of_getElem? g2)))])⟩
            · have hb' : (topsR xs (gi (hs xs k) j)).length = 1 := by
                have : ((topsR xs (gi (hs xs k) j)).length : Int) = 1 := by simpa using hb
                omega
              refine wskip ?_
              try simp only [Exit.then, Exit.inBlock, ↓reduceIte]
              try simp only [Exit.then, Exit.inBlock, ↓reduceIte]
              repeat refine seq ?_
              refine regn 2 hf (by decide +kernel) ?_
              refine st (mv rfl) ?_
              refine st ((add rfl rfl (by omega)).eq (congrArg (Value.int .i64) (show (j : Int) + 1 = ((j + 1 : Nat) : Int) from rfl))) ?_
              refine en fun a w e' hf => ?_
              replace e := Ext.tr e e'
              clear e'
              refine tl_as hf rfl (by decide) fun a hf => ?_
              refine tl_nil ?_
              replace hf := hf.keep [0, 8, 9]
              dsimp only [keep, List.filterMap, look, Nat.beq, Option.map] at hf
              refine ⟨_, ?_, j + 1, rfl, by omega, hf, e, ?_⟩
              · omega
              rw [gi_take hltj]
              intro id hid
              rcases List.mem_append.1 hid with hid | hid
              · exact Ho1 id hid
              · rw [List.mem_singleton.1 hid]; exact hb'
          · obtain rfl : j = (hs xs k).length := by have := of_decide_eq_false hc; (try dsimp only at this); omega
            clear hc
            simp only [Exit.then, Exit.inBlock, ↓reduceIte]
            rw [List.take_length] at Ho1
            try simp only [Exit.then, Exit.inBlock, ↓reduceIte]
            repeat refine seq ?_
            refine regn 2 hf (by decide +kernel) ?_
            refine st (mv rfl) ?_
            refine st ((add rfl rfl (by omega)).eq (congrArg (Value.int .i64) (show (k : Int) + 1 = ((k + 1 : Nat) : Int) from rfl))) ?_
            refine en fun a w e' hf => ?_
            replace e := Ext.tr e e'
            clear e'
            refine tl_as hf rfl (by decide) fun a hf => ?_
            refine tl_nil ?_
            replace hf := hf.keep [0, 8]
            dsimp only [keep, List.filterMap, look, Nat.beq, Option.map] at hf
            refine ⟨_, ?_, k + 1, rfl, by omega, hf, e, ?_⟩
            · omega
            intro i hi
            by_cases hk : i = k
            · subst hk; exact Ho1
            · exact Ho i (by omega)
        · obtain rfl : k = xs.length := by have := of_decide_eq_false hc; (try dsimp only at this); omega
          clear hc
          simp only [Exit.then, Exit.inBlock, ↓reduceIte]
          repeat refine seq ?_
          refine regn0 ?_
          refine tl_as hf rfl (by decide) fun a hf => ?_
          refine tl_nil ?_
          refine wret ?_
          try simp only [Exit.then, Exit.inBlock]
          refine ret1 rfl hf rfl ?_
          rintro _ rfl
          exact ⟨_, rfl, e, congrArg I (by rw [chkR, if_neg (by omega), if_neg c1, if_neg c2, if_neg c3, if_neg (Classical.not_not.2 Ho)])⟩
end Go.Mono

namespace Go.Mono

theorem abv_mono {xs : List RB} : ∀ {f : Nat} {a : Int} {l : List Int}, abv xs f a = some l → abv xs (f + 1) a = some l
  | 0, a, l, h => by
    by_cases ha : a < 0
    · rw [abv, if_pos ha] at h; rw [abv, if_pos ha]; exact h
    · rw [abv, if_neg ha] at h; cases h
  | f + 1, a, l, h => by
    by_cases ha : a < 0
    · rw [abv, if_pos ha] at h; rw [abv, if_pos ha]; exact h
    · rw [abv, if_neg ha] at h
      rw [abv, if_neg ha]
      cases hr : abv xs f (up xs a.toNat) with
      | none => rw [hr] at h; cases h
      | some l' => rw [abv_mono hr]; rw [hr] at h; exact h
theorem abv_len {xs : List RB} : ∀ {f : Nat} {a : Int} {l : List Int}, abv xs f a = some l → l.length ≤ f
  | 0, a, l, h => by
    by_cases ha : a < 0
    · rw [abv, if_pos ha] at h; cases h; simp
    · rw [abv, if_neg ha] at h; cases h
  | f + 1, a, l, h => by
    by_cases ha : a < 0
    · rw [abv, if_pos ha] at h; cases h; simp
    · rw [abv, if_neg ha] at h
      cases hr : abv xs f (up xs a.toNat) with
      | none => rw [hr] at h; cases h
      | some l' =>
        rw [hr] at h
        simp at h
        subst h
        have := abv_len hr
        simp; exact this

/-- the bags above -/
def ab (xs : List RB) (i : Nat) : List Int := (above xs i).getD []
theorem ab_root {xs : List RB} {i : Nat} (h : up xs i < 0) : ab xs i = [] := by
  rw [ab, above, abv, if_pos h]; rfl
theorem ab_step {xs : List RB} (V : Vals xs) {i j : Nat} (hi : i < xs.length) (h : up xs i = (j : Int)) : ab xs i = (j : Int) :: ab xs j ∧ j < xs.length := by
  have hr := V.range i hi
  have hl := V.loop i hi
  refine ⟨?_, by omega⟩
  unfold ab
  rw [above, abv, if_neg (by omega)] at hl ⊢
  rw [h, Int.toNat_natCast] at hl ⊢
  cases hx : abv xs xs.length (up xs j) with
  | none => rw [hx] at hl; cases hl
  | some l => rw [above, abv_mono hx]; rfl
theorem depthR_eq (xs : List RB) (i : Nat) : depthR xs i = (ab xs i).length := rfl
theorem depth_step {xs : List RB} (V : Vals xs) {i j : Nat} (hi : i < xs.length) (h : up xs i = (j : Int)) : depthR xs i = depthR xs j + 1 := by
  rw [depthR_eq, depthR_eq, (ab_step V hi h).1]; rfl
theorem depth_le {xs : List RB} (V : Vals xs) {i : Nat} (hi : i < xs.length) : depthR xs i ≤ xs.length + 1 := by
  have := V.loop i hi
  rw [depthR_eq, ab]
  cases hx : above xs i with
  | none => rw [hx] at this; cases this
  | some l => exact abv_len hx
/-- each bag is the root or has a bag above it -/
theorem up_cases {xs : List RB} (V : Vals xs) {i : Nat} (hi : i < xs.length) : up xs i = -1 ∨ ∃ j : Nat, j < xs.length ∧ up xs i = (j : Int) := by
  have := V.range i hi
  by_cases h : up xs i < 0
  · exact .inl (by omega)
  · exact .inr ⟨(up xs i).toNat, by omega, by omega⟩
/-- induction from the root down -/
theorem tree_ind {xs : List RB} (V : Vals xs) {p : Nat → Prop} (root : ∀ i, i < xs.length → up xs i = -1 → p i) (step : ∀ i j, i < xs.length → j < xs.length → up xs i = (j : Int) → p j → p i) : ∀ i, i < xs.length → p i := by
  have : ∀ d i, i < xs.length → depthR xs i = d → p i := by
    intro d
    induction d using Nat.strongRecOn with
    | _ d ih =>
      intro i hi hd
      rcases up_cases V hi with h | ⟨j, hj, h⟩
      · exact root i hi h
      · have := depth_step V hi h
        exact step i j hi hj h (ih (depthR xs j) (by omega) j hj rfl)
  exact fun i hi => this _ i hi rfl
/-- induction from the leaves up -/
theorem tree_up {xs : List RB} (V : Vals xs) {p : Nat → Prop} (step : ∀ j, j < xs.length → (∀ i, i < xs.length → up xs i = (j : Int) → p i) → p j) : ∀ i, i < xs.length → p i := by
  have : ∀ d i, i < xs.length → xs.length + 1 - depthR xs i = d → p i := by
    intro d
    induction d using Nat.strongRecOn with
    | _ d ih =>
      intro j hj hd
      refine step j hj fun i hi h => ?_
      have h1 := depth_step V hi h
      have h2 := depth_le V hi
      exact ih (xs.length + 1 - depthR xs i) (by omega) i hi rfl
  exact fun i hi => this _ i hi rfl

theorem mem_selN {p : Nat → Bool} {n : Nat} {k : Int} : k ∈ selN p n ↔ ∃ i : Nat, i < n ∧ p i = true ∧ k = (i : Int) := by
  unfold selN
  simp only [List.mem_map, List.mem_filter, List.mem_range]
  exact ⟨fun ⟨i, ⟨h1, h2⟩, h3⟩ => ⟨i, h1, h2, h3.symm⟩, fun ⟨i, h1, h2, h3⟩ => ⟨i, ⟨h1, h2⟩, h3.symm⟩⟩
theorem mem_kids {xs : List RB} {b k : Int} : k ∈ kids xs b ↔ ∃ i : Nat, i < xs.length ∧ up xs i = b ∧ k = (i : Int) := by
  rw [kids, mem_selN]
  simp only [decide_eq_true_eq]

/-- the size of the part below a bag; f: how deep -/
def szF (xs : List RB) : Nat → Int → Int
  | 0, _ => 1
  | f + 1, b => (kids xs b).foldl (fun n k => n + szF xs f k) 1
def sizeR (xs : List RB) (b : Int) : Int := szF xs (xs.length + 2) b
theorem foldl_congr {α β : Type} {f g : β → α → β} : ∀ {l : List α} {b : β}, (∀ b, ∀ x ∈ l, f b x = g b x) → l.foldl f b = l.foldl g b
  | [], b, _ => rfl
  | x :: l, b, h => by
    rw [List.foldl_cons, List.foldl_cons, h b x (by simp)]
    exact foldl_congr fun b y hy => h b y (by simp [hy])
theorem szF_stable {xs : List RB} (V : Vals xs) : ∀ (d j : Nat), j < xs.length → xs.length + 1 - depthR xs j = d → ∀ f g, d ≤ f → d ≤ g → szF xs f (j : Nat) = szF xs g (j : Nat) := by
  intro d
  induction d using Nat.strongRecOn with
  | _ d ih =>
    intro j hj hd f g hf hg
    have kid : ∀ k ∈ kids xs (j : Nat), ∃ i : Nat, i < xs.length ∧ k = (i : Int) ∧ xs.length + 1 - depthR xs i < d ∧ xs.length + 1 - depthR xs i + 1 = d := by
      intro k hk
      obtain ⟨i, h1, h2, h3⟩ := mem_kids.1 hk
      have h4 := depth_step V h1 h2
      have h5 := depth_le V h1
      exact ⟨i, h1, h3, by omega, by omega⟩
    have z : ∀ f, d ≤ f → szF xs f (j : Nat) = (kids xs (j : Nat)).foldl (fun n k => n + szF xs (f - 1) k) 1 := by
      intro f hf
      cases f with
      | zero =>
        have : kids xs (j : Nat) = [] := by
          cases hk : kids xs (j : Nat) with
          | nil => rfl
          | cons k l =>
            obtain ⟨i, _, _, h3, _⟩ := kid k (by rw [hk]; simp)
            omega
        rw [this]; rfl
      | succ f => rfl
    rw [z f hf, z g hg]
    refine foldl_congr fun n k hk => ?_
    obtain ⟨i, h1, h2, h3, h4⟩ := kid k hk
    subst h2
    rw [ih _ h3 i h1 rfl (f - 1) (g - 1) (by omega) (by omega)]
theorem sizeR_eq {xs : List RB} (V : Vals xs) {j : Nat} (hj : j < xs.length) : sizeR xs (j : Nat) = (kids xs (j : Nat)).foldl (fun n k => n + sizeR xs k) 1 := by
  have h := depth_le V hj
  rw [sizeR, show szF xs (xs.length + 2) (j : Nat) = szF xs (xs.length + 3) (j : Nat) from szF_stable V _ j hj rfl _ _ (by omega) (by omega)]
  rfl

/-- i lies below b, or is b -/
def dsc (xs : List RB) (b i : Nat) : Bool := decide (i = b) || decide ((b : Int) ∈ ab xs i)
theorem dsc_root {xs : List RB} {b i : Nat} (h : up xs i < 0) : dsc xs b i = decide (i = b) := by
  rw [dsc, ab_root h]; simp
theorem dsc_step {xs : List RB} (V : Vals xs) {b i j : Nat} (hi : i < xs.length) (h : up xs i = (j : Int)) : dsc xs b i = (decide (i = b) || dsc xs b j) := by
  rw [dsc, (ab_step V hi h).1, dsc]
  congr 1
  have e : decide (((b : Nat) : Int) = (j : Nat)) = decide (j = b) := by
    by_cases hb : j = b
    · subst hb; simp
    · simp [hb]; omega
  simp only [List.mem_cons, Bool.decide_or, e]
theorem dsc_depth {xs : List RB} (V : Vals xs) {b : Nat} : ∀ i, i < xs.length → dsc xs b i = true → depthR xs b ≤ depthR xs i := by
  refine tree_ind V (fun i hi h hd => ?_) (fun i j hi hj h ih hd => ?_)
  · rw [dsc_root (by omega)] at hd
    rw [of_decide_eq_true hd]; exact Nat.le_refl _
  · rw [dsc_step V hi h, Bool.or_eq_true] at hd
    have := depth_step V hi h
    rcases hd with hd | hd
    · rw [of_decide_eq_true hd]; exact Nat.le_refl _
    · have := ih hd; omega
def ind (b : Bool) : Nat := if b then 1 else 0
/-- kids as numbers -/
def kidN (xs : List RB) (b : Nat) : List Nat := (List.range xs.length).filter fun i => decide (up xs i = (b : Int))
theorem kids_eq (xs : List RB) (b : Nat) : kids xs (b : Nat) = (kidN xs b).map fun i : Nat => (i : Int) := rfl
theorem mem_kidN {xs : List RB} {b k : Nat} : k ∈ kidN xs b ↔ k < xs.length ∧ up xs k = (b : Int) := by simp [kidN]
theorem kidN_nodup (xs : List RB) (b : Nat) : (kidN xs b).Nodup := List.Nodup.sublist List.filter_sublist List.nodup_range
theorem sum_ind_eq {l : List Nat} (h : l.Nodup) (i : Nat) : (l.map fun k => ind (decide (i = k))).sum = ind (decide (i ∈ l)) := by
  induction l with
  | nil => rfl
  | cons k l ih =>
    have hn := List.nodup_cons.1 h
    rw [List.map_cons, List.sum_cons, ih hn.2]
    by_cases hk : i = k
    · subst hk; simp [ind, hn.1]
    · simp [ind, hk]
theorem sum_add {α : Type} (f g : α → Nat) : ∀ l : List α, (l.map fun k => f k + g k).sum = (l.map f).sum + (l.map g).sum
  | [] => rfl
  | x :: l => by simp [sum_add f g l]; omega
theorem sum_congr {α : Type} {f g : α → Nat} : ∀ {l : List α}, (∀ x ∈ l, f x = g x) → (l.map f).sum = (l.map g).sum
  | [], _ => rfl
  | x :: l, h => by
    rw [List.map_cons, List.map_cons, List.sum_cons, List.sum_cons, h x (by simp), sum_congr fun y hy => h y (by simp [hy])]
theorem ind_or {a b : Bool} (h : a = true → b = true → False) : ind (a || b) = ind a + ind b := by
  cases a <;> cases b <;> simp [ind] at h ⊢
theorem dsc_split {xs : List RB} (V : Vals xs) {b : Nat} : ∀ i, i < xs.length → ind (dsc xs b i) = ind (decide (i = b)) + ((kidN xs b).map fun k => ind (dsc xs k i)).sum := by
  refine tree_ind V (fun i hi h => ?_) (fun i j hi hj h ih => ?_)
  · rw [dsc_root (by omega)]
    have : ((kidN xs b).map fun k => ind (dsc xs k i)).sum = ((kidN xs b).map fun k => ind (decide (i = k))).sum := sum_congr fun k _ => by rw [dsc_root (by omega)]
    rw [this, sum_ind_eq (kidN_nodup xs b)]
    have hm : ¬ i ∈ kidN xs b := fun hm => by have := (mem_kidN.1 hm).2; omega
    simp [ind, hm]
  · have d1 := depth_step V hi h
    rw [dsc_step V hi h, ind_or (fun h1 h2 => by
      have := dsc_depth V j hj h2
      rw [← of_decide_eq_true h1] at this
      omega), ih]
    have : ((kidN xs b).map fun k => ind (dsc xs k i)).sum = ((kidN xs b).map fun k => ind (decide (i = k)) + ind (dsc xs k j)).sum := sum_congr fun k hk => by
      rw [dsc_step V hi h, ind_or (fun h1 h2 => by
        have := dsc_depth V j hj h2
        rw [← of_decide_eq_true h1] at this
        omega)]
    rw [this, sum_add, sum_ind_eq (kidN_nodup xs b)]
    congr 1
    congr 1
    have : decide (i ∈ kidN xs b) = decide (j = b) := by
      by_cases hb : j = b
      · subst hb; simp [mem_kidN, hi, h]
      · simp [mem_kidN, hi, h, hb]; omega
    rw [this]
/-- how many lie below b, b among them -/
def cnt (xs : List RB) (b : Nat) : Nat := ((List.range xs.length).map fun i => ind (dsc xs b i)).sum
theorem sum_swap {α β : Type} (f : α → β → Nat) (m : List β) : ∀ l : List α, (l.map fun i => (m.map fun k => f i k).sum).sum = (m.map fun k => (l.map fun i => f i k).sum).sum
  | [] => by
    simp only [List.map_nil, List.sum_nil]
    induction m with
    | nil => rfl
    | cons y m ih => simpa using ih
  | x :: l => by
    rw [List.map_cons, List.sum_cons, sum_swap f m l, ← sum_add]
    simp
theorem cnt_eq {xs : List RB} (V : Vals xs) {b : Nat} (hb : b < xs.length) : cnt xs b = 1 + ((kidN xs b).map fun k => cnt xs k).sum := by
  unfold cnt
  rw [show ((List.range xs.length).map fun i => ind (dsc xs b i)).sum = ((List.range xs.length).map fun i => ind (decide (i = b)) + ((kidN xs b).map fun k => ind (dsc xs k i)).sum).sum from
    sum_congr fun i hi => dsc_split V i (List.mem_range.1 hi), sum_add, sum_swap (fun i k => ind (dsc xs k i))]
  congr 1
  have := sum_ind_eq (l := List.range xs.length) List.nodup_range b
  have e : ((List.range xs.length).map fun i => ind (decide (i = b))).sum = ((List.range xs.length).map fun k => ind (decide (b = k))).sum := sum_congr fun i _ => by
    congr 1
    by_cases h : i = b
    · subst h; rfl
    · rw [decide_eq_false h, decide_eq_false (Ne.symm h)]
  rw [e, this]
  simp [ind, hb]
theorem foldl_sum {f : Int → Int} {g : Nat → Nat} : ∀ {l : List Nat} {s : Int}, (∀ k ∈ l, f (k : Int) = (g k : Nat)) → (l.map fun i : Nat => (i : Int)).foldl (fun n k => n + f k) s = s + ((l.map g).sum : Nat)
  | [], s, _ => by simp
  | k :: l, s, h => by
    rw [List.map_cons, List.foldl_cons, foldl_sum (fun j hj => h j (by simp [hj])), h k (by simp), List.map_cons, List.sum_cons]
    omega
theorem sizeR_cnt {xs : List RB} (V : Vals xs) : ∀ b, b < xs.length → sizeR xs (b : Nat) = (cnt xs b : Nat) := by
  refine tree_up V fun j hj ih => ?_
  rw [sizeR_eq V hj, cnt_eq V hj, kids_eq, foldl_sum (g := cnt xs) fun k hk => ih k (mem_kidN.1 hk).1 (mem_kidN.1 hk).2]
  show 1 + (((kidN xs j).map fun k => cnt xs k).sum : Int) = _
  omega
theorem cnt_le (xs : List RB) (b : Nat) : cnt xs b ≤ xs.length := by
  have : ∀ l : List Nat, (l.map fun i => ind (dsc xs b i)).sum ≤ l.length := by
    intro l
    induction l with
    | nil => simp
    | cons x l ih =>
      have : ind (dsc xs b x) ≤ 1 := by unfold ind; split <;> omega
      simp; omega
  have := this (List.range xs.length)
  simpa [cnt] using this
end Go.Mono

namespace Go.Mono

theorem toT_len (t : List (Int × BS)) : (toT t).length = t.length := by simp [toT]
theorem toT_up {t : List (Int × BS)} {i : Nat} (h : i < t.length) : up (toT t) i = (bg t i).1 := by
  simp [up, toT, bg, h, toB]
theorem toT_hs {t : List (Int × BS)} {i : Nat} (h : i < t.length) : hs (toT t) i = toL (bg t i).2 := by
  simp [hs, toT, bg, h, toB]
theorem hasL_toL (S : BS) (n : Int) : hasL (toL S) n = has S n := by
  rw [hasL, has, Bool.eq_iff_iff, decide_eq_true_eq, toL, mem_selN, Bool.and_eq_true, fitsB_iff]
  constructor
  · rintro ⟨i, h1, h2, rfl⟩
    exact ⟨⟨by omega, by omega⟩, by simpa using h2⟩
  · rintro ⟨⟨h1, h2⟩, h3⟩
    exact ⟨n.toNat, by omega, h3, by omega⟩
theorem hs_le (t : List (Int × BS)) (i : Nat) : (hs (toT t) i).length ≤ 1024 := by
  by_cases h : i < t.length
  · rw [toT_hs h]; exact toL_len _
  · have : (toT t)[i]? = none := by rw [List.getElem?_eq_none_iff, toT_len]; omega
    simp [hs, this]

/-! ### what the walk down from a bag visits -/
def pre (ks : Nat → List Nat) : Nat → Nat → List Nat
  | 0, b => [b]
  | f + 1, b => b :: (ks b).flatMap (pre ks f)
theorem dnF_cnt (ks : Nat → List Nat) : ∀ f b deep s, (dnF ks f b deep s).2 = s.2 + ((pre ks f b).length : Nat)
  | 0, b, deep, s => by simp [dnF, pre]
  | f + 1, b, deep, s => by
    rw [dnF, pre]
    have : ∀ (l : List Nat) (s : List Int × Int), (l.foldl (fun s k => dnF ks f k (deep + 1) s) s).2 = s.2 + ((l.flatMap (pre ks f)).length : Nat) := by
      intro l
      induction l with
      | nil => intro s; simp
      | cons k l ih =>
        intro s
        rw [List.foldl_cons, ih, dnF_cnt ks f, List.flatMap_cons, List.length_append]
        omega
    rw [this, List.length_cons]
    show s.2 + 1 + _ = _
    omega

def upN (t : List (Int × BS)) (i : Nat) : Option Nat := if (bg t i).1 < 0 then none else some (bg t i).1.toNat
/-- d bags up -/
def it (t : List (Int × BS)) : Nat → Nat → Option Nat
  | 0, i => some i
  | d + 1, i => (it t d i).bind (upN t)
theorem it_succ (t : List (Int × BS)) : ∀ d i, it t (d + 1) i = (upN t i).bind (it t d)
  | 0, i => by
    show (some i).bind (upN t) = _
    cases h : upN t i <;> simp [h, it]
  | d + 1, i => by
    rw [it, it_succ t d i]
    cases h : upN t i <;> simp [it]
theorem upN_lt {t : List (Int × BS)} (hr : Rng t) {i j : Nat} (hi : i < t.length) (h : upN t i = some j) : j < t.length ∧ (bg t i).1 = (j : Int) := by
  have := hr i hi
  unfold upN at h
  split at h
  · cases h
  · cases h; omega
theorem it_lt {t : List (Int × BS)} (hr : Rng t) {i : Nat} (hi : i < t.length) : ∀ d j, it t d i = some j → j < t.length
  | 0, j, h => by cases h; exact hi
  | d + 1, j, h => by
    rw [it] at h
    cases hx : it t d i with
    | none => rw [hx] at h; cases h
    | some k =>
      rw [hx] at h
      exact (upN_lt hr (it_lt hr hi d k hx) h).1
theorem kN_nodup (t : List (Int × BS)) (b : Nat) : (kN t b).Nodup := List.Nodup.sublist List.filter_sublist List.nodup_range
theorem kN_upN {t : List (Int × BS)} (hr : Rng t) {j b : Nat} (hj : j < t.length) : decide (j ∈ kN t b) = decide (upN t j = some b) := by
  have := hr j hj
  rw [decide_eq_decide, mem_kN]
  constructor
  · rintro ⟨_, h⟩
    rw [upN, if_neg (by omega), h]; rfl
  · intro h
    exact ⟨hj, (upN_lt hr hj h).2⟩
theorem sum_kN {t : List (Int × BS)} (hr : Rng t) (b : Nat) (x : Option Nat) (hx : ∀ j, x = some j → j < t.length) : ((kN t b).map fun k => ind (decide (x = some k))).sum = ind (decide (x.bind (upN t) = some b)) := by
  cases x with
  | none =>
    have : ∀ l : List Nat, (l.map fun k => ind (decide ((none : Option Nat) = some k))).sum = 0 := by
      intro l
      induction l with
      | nil => rfl
      | cons k l ih => rw [List.map_cons, List.sum_cons, ih]; rfl
    rw [this]; rfl
  | some j =>
    rw [show (some j).bind (upN t) = upN t j from rfl, ← kN_upN hr (hx j rfl), ← sum_ind_eq (kN_nodup t b)]
    refine sum_congr fun k _ => ?_
    congr 1
    rw [decide_eq_decide]
    exact Option.some_inj
theorem count_flatMap (g : Nat → List Nat) (i : Nat) : ∀ l : List Nat, (l.flatMap g).count i = (l.map fun k => (g k).count i).sum
  | [] => rfl
  | k :: l => by rw [List.flatMap_cons, List.count_append, count_flatMap g i l, List.map_cons, List.sum_cons]
theorem count_cons_ind (i b : Nat) (l : List Nat) : (b :: l).count i = ind (decide (i = b)) + l.count i := by
  rw [List.count_cons]
  by_cases h : b = i
  · subst h; simp [ind]; omega
  · have : ¬ i = b := Ne.symm h
    simp [ind, h, this]
theorem pre_count {t : List (Int × BS)} (hr : Rng t) {i : Nat} (hi : i < t.length) : ∀ f b, (pre (kN t) f b).count i = ((List.range (f + 1)).map fun d => ind (decide (it t d i = some b))).sum
  | 0, b => by
    rw [pre, count_cons_ind]
    simp [it]
  | f + 1, b => by
    rw [pre, count_cons_ind, count_flatMap]
    have h1 : ((kN t b).map fun k => (pre (kN t) f k).count i).sum = ((kN t b).map fun k => ((List.range (f + 1)).map fun d => ind (decide (it t d i = some k))).sum).sum := sum_congr fun k _ => pre_count hr hi f k
    rw [h1, sum_swap (fun k d => ind (decide (it t d i = some k)))]
    rw [List.range_succ_eq_map (n := f + 1), List.map_cons, List.sum_cons, List.map_map]
    congr 1
    · simp [it]
    · refine sum_congr fun d _ => ?_
      rw [sum_kN hr b (it t d i) (fun j hj => it_lt hr hi d j hj)]
      rfl
/-- the one root -/
theorem root_one {t : List (Int × BS)} (h : (rootN t).length = 1) : ∃ r, rootN t = [r] ∧ r < t.length ∧ (bg t r).1 = -1 ∧ ∀ j, j < t.length → (bg t j).1 = -1 → j = r := by
  match hx : rootN t, h with
  | [r], _ =>
    have hm : ∀ j, j ∈ rootN t ↔ j < t.length ∧ (bg t j).1 = -1 := by intro j; simp [rootN]
    have h1 := (hm r).1 (by rw [hx]; simp)
    refine ⟨r, rfl, h1.1, h1.2, fun j hj h => ?_⟩
    have := (hm j).2 ⟨hj, h⟩
    rw [hx] at this
    simpa using this
theorem sum_root {t : List (Int × BS)} {r : Nat} (hu : (bg t r).1 = -1) (i : Nat) : ∀ F, ((List.range F).map fun d => ind (decide (it t d i = some r))).sum ≤ 1 ∧ (1 ≤ ((List.range F).map fun d => ind (decide (it t d i = some r))).sum → it t F i = none)
  | 0 => ⟨by simp, by simp⟩
  | F + 1 => by
    obtain ⟨h1, h2⟩ := sum_root hu i F
    rw [List.range_succ, List.map_append, List.sum_append]
    simp only [List.map_cons, List.map_nil, List.sum_cons, List.sum_nil, Nat.add_zero]
    by_cases h : it t F i = some r
    · have h0 : ¬ 1 ≤ ((List.range F).map fun d => ind (decide (it t d i = some r))).sum := fun h' => by rw [h2 h'] at h; cases h
      rw [show decide (it t F i = some r) = true from decide_eq_true h]
      refine ⟨by rw [show ind true = 1 from rfl]; omega, fun _ => ?_⟩
      rw [it, h]
      show upN t r = none
      rw [upN, hu]; rfl
    · rw [show decide (it t F i = some r) = false from decide_eq_false h]
      rw [show ind false = 0 from rfl, Nat.add_zero]
      refine ⟨h1, fun h' => ?_⟩
      have := h2 h'
      rw [it, this]; rfl
theorem len_count {n : Nat} : ∀ {l : List Nat}, (∀ x ∈ l, x < n) → l.length = ((List.range n).map fun i => l.count i).sum
  | [], _ => by
    have : ∀ m : List Nat, (m.map fun i => ([] : List Nat).count i).sum = 0 := by
      intro m
      induction m with
      | nil => rfl
      | cons x m ih => rw [List.map_cons, List.sum_cons, ih]; rfl
    rw [this]; rfl
  | x :: l, h => by
    have e : ((List.range n).map fun i => (x :: l).count i).sum = ((List.range n).map fun i => ind (decide (i = x)) + l.count i).sum := sum_congr fun i _ => count_cons_ind i x l
    rw [e, sum_add, ← len_count (l := l) fun y hy => h y (by simp [hy])]
    have e2 : ((List.range n).map fun i => ind (decide (i = x))).sum = ((List.range n).map fun k => ind (decide (x = k))).sum := sum_congr fun i _ => by
      congr 1
      rw [decide_eq_decide]; exact eq_comm
    rw [e2, sum_ind_eq List.nodup_range]
    have hx := h x (by simp)
    simp [ind, hx]; omega
theorem pre_lt {t : List (Int × BS)} : ∀ f b, b < t.length → ∀ x ∈ pre (kN t) f b, x < t.length
  | 0, b, hb, x, hx => by rw [pre, List.mem_singleton] at hx; omega
  | f + 1, b, hb, x, hx => by
    rw [pre, List.mem_cons, List.mem_flatMap] at hx
    rcases hx with rfl | ⟨k, hk, hx⟩
    · exact hb
    · exact pre_lt f k (mem_kN.1 hk).1 x hx
theorem sum_le_len {f : Nat → Nat} : ∀ {l : List Nat}, (∀ x ∈ l, f x ≤ 1) → (l.map f).sum ≤ l.length
  | [], _ => by simp
  | x :: l, h => by
    have := sum_le_len (l := l) fun y hy => h y (by simp [hy])
    have := h x (by simp)
    simp; omega
theorem sum_eq_len {f : Nat → Nat} : ∀ {l : List Nat}, (∀ x ∈ l, f x ≤ 1) → ((l.map f).sum = l.length ↔ ∀ x ∈ l, f x = 1)
  | [], _ => by simp
  | x :: l, h => by
    have h1 := sum_le_len (l := l) fun y hy => h y (by simp [hy])
    have h2 := sum_eq_len (l := l) fun y hy => h y (by simp [hy])
    have h3 := h x (by simp)
    rw [List.map_cons, List.sum_cons, List.length_cons]
    constructor
    · intro h4
      have h5 : (l.map f).sum = l.length := by omega
      have h6 := h2.1 h5
      intro y hy
      rcases List.mem_cons.1 hy with rfl | hy
      · omega
      · exact h6 y hy
    · intro h4
      have := h2.2 fun y hy => h4 y (by simp [hy])
      have := h4 x (by simp)
      omega
theorem pre_count_le {t : List (Int × BS)} (hr : Rng t) {r : Nat} (hu : (bg t r).1 = -1) (f : Nat) {i : Nat} (hi : i < t.length) : (pre (kN t) f r).count i ≤ 1 := by
  rw [pre_count hr hi]; exact (sum_root hu i _).1
theorem pre_le {t : List (Int × BS)} (hr : Rng t) {r : Nat} (hrl : r < t.length) (hu : (bg t r).1 = -1) (f : Nat) : (pre (kN t) f r).length ≤ t.length := by
  rw [len_count (pre_lt f r hrl)]
  have := sum_le_len (f := fun i => (pre (kN t) f r).count i) (l := List.range t.length) fun i hi => pre_count_le hr hu f (List.mem_range.1 hi)
  simpa using this
theorem flat_len {g : Nat → List Nat} {k : Nat} : ∀ {l : List Nat}, k ∈ l → (g k).length ≤ (l.flatMap g).length
  | [], h => by cases h
  | x :: l, h => by
    rw [List.flatMap_cons, List.length_append]
    rcases List.mem_cons.1 h with rfl | h
    · omega
    · have := flat_len (g := g) h; omega
theorem pre_deep {ks : Nat → List Nat} : ∀ f b, ¬hgt ks f b → f + 2 ≤ (pre ks (f + 1) b).length
  | 0, b, h => by
    rw [pre]
    cases hk : ks b with
    | nil => exact absurd hk h
    | cons k l => simp [pre]
  | f + 1, b, h => by
    rw [hgt] at h
    obtain ⟨k, hk, hn⟩ : ∃ k, k ∈ ks b ∧ ¬hgt ks f k := by
      apply Classical.byContradiction
      intro hne
      exact h fun k hk => Classical.byContradiction fun hn => hne ⟨k, hk, hn⟩
    have := pre_deep f k hn
    rw [pre, List.length_cons]
    have := flat_len (g := pre ks (f + 1)) hk
    omega
theorem it_len {t : List (Int × BS)} (hr : Rng t) {i : Nat} (hi : i < t.length) : ∀ d b, it t d i = some b → d + 1 ≤ (pre (kN t) d b).length
  | 0, b, _ => by simp [pre]
  | d + 1, b, h => by
    rw [it] at h
    cases hx : it t d i with
    | none => rw [hx] at h; cases h
    | some j =>
      rw [hx] at h
      have hj := it_lt hr hi d j hx
      have hm : j ∈ kN t b := by
        have := kN_upN (b := b) hr hj
        rw [show decide (upN t j = some b) = true from decide_eq_true h] at this
        exact of_decide_eq_true this
      have := it_len hr hi d j hx
      have := flat_len (g := pre (kN t) d) hm
      rw [pre, List.length_cons]
      omega
theorem depthsF_cnt {t : List (Int × BS)} {r : Nat} (h : rootN t = [r]) (f : Nat) : (depthsF t f (rootN t)).2 = ((pre (kN t) f r).length : Nat) := by
  rw [h, depthsF, List.foldl_cons, List.foldl_nil, dnF_cnt]
  show (0 : Int) + _ = _
  omega
/-- what the walk of Check leans on holds -/
theorem Dp.mk' {t : List (Int × BS)} (hl : t.length ≤ 4096) (hr : Rng t) (h1 : (rootN t).length = 1) : Dp t t.length := by
  obtain ⟨r, h2, h3, h4, h5⟩ := root_one h1
  refine ⟨by omega, fun b hb => ?_, ?_⟩
  · rw [h2, List.mem_singleton] at hb
    subst hb
    apply Classical.byContradiction
    intro hn
    have := pre_deep _ _ hn
    have := pre_le hr h3 h4 (t.length + 1)
    omega
  · rw [depthsF_cnt h2]
    have := pre_le hr h3 h4 t.length
    omega
theorem abv_it {t : List (Int × BS)} (hr : Rng t) : ∀ f j, j < t.length → ((abv (toT t) f (up (toT t) j)).isSome = true ↔ ∃ d, d ≤ f ∧ it t (d + 1) j = none)
  | 0, j, hj => by
    rw [toT_up hj, abv]
    constructor
    · intro h
      refine ⟨0, Nat.le_refl _, ?_⟩
      rw [it_succ, upN]
      split at h
      · rename_i h'; rw [if_pos h']; rfl
      · cases h
    · rintro ⟨d, hd, h⟩
      obtain rfl : d = 0 := by omega
      rw [it_succ, upN] at h
      split at h
      · rename_i h'; rw [if_pos h']; rfl
      · cases h
  | f + 1, j, hj => by
    rw [toT_up hj, abv]
    by_cases h' : (bg t j).1 < 0
    · rw [if_pos h']
      refine ⟨fun _ => ⟨0, Nat.zero_le _, ?_⟩, fun _ => rfl⟩
      rw [it_succ, upN, if_pos h']; rfl
    · have hu : upN t j = some (bg t j).1.toNat := by rw [upN, if_neg h']
      have hk := (upN_lt hr hj hu).1
      rw [if_neg h', Option.isSome_map, abv_it hr f _ hk]
      constructor
      · rintro ⟨d, h1, h2⟩
        exact ⟨d + 1, by omega, by rw [it_succ, hu]; exact h2⟩
      · rintro ⟨d, h1, h2⟩
        rw [it_succ, hu] at h2
        cases d with
        | zero => cases h2
        | succ d => exact ⟨d, by omega, h2⟩
theorem above_it {t : List (Int × BS)} (hr : Rng t) {r : Nat} (hrl : r < t.length) (hu : (bg t r).1 = -1) (h1 : ∀ j, j < t.length → (bg t j).1 = -1 → j = r) {i : Nat} (hi : i < t.length) :
    (above (toT t) i).isSome = true ↔ (pre (kN t) t.length r).count i = 1 := by
  rw [above, abv_it hr _ _ hi, toT_len]
  have hle := pre_count_le hr hu t.length hi
  constructor
  · intro h
    obtain ⟨d, ⟨hd, hn⟩, hmin⟩ := least h
    have hs : ∃ j, it t d i = some j := by
      cases d with
      | zero => exact ⟨i, rfl⟩
      | succ d =>
        cases hx : it t (d + 1) i with
        | some j => exact ⟨j, rfl⟩
        | none => exact absurd ⟨by omega, hx⟩ (hmin d (by omega))
    obtain ⟨j, hj⟩ := hs
    have hjl := it_lt hr hi d j hj
    have hjr : j = r := h1 j hjl (by
      rw [it, hj] at hn
      have hrj := hr j hjl
      change upN t j = none at hn
      unfold upN at hn
      split at hn
      · omega
      · cases hn)
    subst hjr
    have hdl := it_len hr hi d j hj
    have := pre_le hr hrl hu d
    have hc := pre_count hr hi t.length j
    have h2 : 1 ≤ ((List.range (t.length + 1)).map fun d => ind (decide (it t d i = some j))).sum := by
      have : ∀ l : List Nat, d ∈ l → 1 ≤ (l.map fun d => ind (decide (it t d i = some j))).sum := by
        intro l
        induction l with
        | nil => intro h; cases h
        | cons x l ih =>
          intro h
          rw [List.map_cons, List.sum_cons]
          rcases List.mem_cons.1 h with rfl | h
          · rw [decide_eq_true hj]; simp [ind]
          · have := ih h; omega
      exact this _ (List.mem_range.2 (by omega))
    omega
  · intro h
    rw [pre_count hr hi] at h
    have : ∃ d, d ∈ List.range (t.length + 1) ∧ it t d i = some r := by
      apply Classical.byContradiction
      intro hne
      have : ∀ l : List Nat, (∀ d ∈ l, d ∈ List.range (t.length + 1)) → (l.map fun d => ind (decide (it t d i = some r))).sum = 0 := by
        intro l
        induction l with
        | nil => intro _; rfl
        | cons x l ih =>
          intro h
          rw [List.map_cons, List.sum_cons, ih fun d hd => h d (by simp [hd]), decide_eq_false fun he => hne ⟨x, h x (by simp), he⟩]
          rfl
      rw [this _ fun d hd => hd] at h
      cases h
    obtain ⟨d, hd, h2⟩ := this
    have := List.mem_range.1 hd
    refine ⟨d, by omega, ?_⟩
    rw [it, h2]
    show upN t r = none
    rw [upN, hu]; rfl

/-! ### tops -/
theorem topsS_bit {t : List (Int × BS)} (hr : Rng t) {i : Nat} (hi : i < t.length) {k : Nat} (hk : k < 1024) : (topsS t i).getLsbD k = topB (toT t) (k : Nat) i := by
  have hri := hr i hi
  have fit : fitsB (k : Nat) = true := fitsB_iff.2 ⟨by omega, by omega⟩
  have hh : ∀ S : BS, has S (k : Nat) = S.getLsbD k := fun S => by rw [has, fit, Int.toNat_natCast]; rfl
  rw [topB, toT_hs hi, hasL_toL, hh, toT_up hi, topsS]
  by_cases h : (bg t i).1 = -1
  · rw [if_pos h, h]; simp
  · rw [if_neg h, toT_hs (by omega), hasL_toL, hh]
    have : ¬ (bg t i).1 < 0 := by omega
    simp [this, hk]
theorem seenTo_bit {t : List (Int × BS)} (k : Nat) : ∀ i, (seenTo t i).getLsbD k = true ↔ ∃ j, j < i ∧ (topsS t j).getLsbD k = true
  | 0 => by simp [seenTo]
  | i + 1 => by
    rw [seenTo, BitVec.getLsbD_or, Bool.or_eq_true, seenTo_bit k i]
    constructor
    · rintro (⟨j, h1, h2⟩ | h)
      · exact ⟨j, by omega, h2⟩
      · exact ⟨i, by omega, h⟩
    · rintro ⟨j, h1, h2⟩
      by_cases hj : j = i
      · subst hj; exact .inr h2
      · exact .inl ⟨j, by omega, h2⟩
theorem and_zero {S T : BS} : S &&& T = 0 ↔ ∀ k, k < 1024 → ¬(S.getLsbD k = true ∧ T.getLsbD k = true) := by
  constructor
  · intro h k hk ⟨h1, h2⟩
    have := congrArg (fun S => S.getLsbD k) h
    simp [h1, h2] at this
  · intro h
    refine BitVec.eq_of_getLsbD_eq fun k hk => ?_
    have := h k hk
    rw [BitVec.getLsbD_and]
    cases h1 : S.getLsbD k <;> cases h2 : T.getLsbD k <;> simp [h1, h2] at this ⊢
/-- no two bags have a vertex at their top -/
def Uni (xs : List RB) : Prop := ∀ (id : Int) (j i : Nat), j < i → i < xs.length → ¬(topB xs id i = true ∧ topB xs id j = true)
theorem selN_two {p : Nat → Bool} : ∀ {n : Nat}, (selN p n).length ≤ 1 ↔ ∀ j i, j < i → i < n → ¬(p i = true ∧ p j = true)
  | 0 => ⟨fun _ j i _ h => by omega, fun _ => by simp [selN]⟩
  | n + 1 => by
    rw [selN_succ]
    constructor
    · intro h j i hji hi ⟨h1, h2⟩
      have hl : (selN p n).length ≤ 1 := by
        split at h
        · rw [List.length_append, List.length_singleton] at h; omega
        · exact h
      by_cases hin : i = n
      · subst hin
        rw [if_pos h1] at h
        have : (j : Int) ∈ selN p i := mem_selN.2 ⟨j, hji, h2, rfl⟩
        cases hs : selN p i with
        | nil => rw [hs] at this; cases this
        | cons x l => rw [hs] at h; simp at h
      · exact selN_two.1 hl j i hji (by omega) ⟨h1, h2⟩
    · intro h
      have hl : (selN p n).length ≤ 1 := selN_two.2 fun j i hji hi => h j i hji (by omega)
      split
      · rename_i hp
        have : selN p n = [] := by
          cases hs : selN p n with
          | nil => rfl
          | cons x l =>
            have : x ∈ selN p n := by rw [hs]; simp
            obtain ⟨j, h1, h2, _⟩ := mem_selN.1 this
            exact absurd ⟨hp, h2⟩ (h j n h1 (by omega))
        rw [this]; simp
      · exact hl
theorem topB_fits {t : List (Int × BS)} {id : Int} {i : Nat} (hi : i < t.length) (h : topB (toT t) id i = true) : ∃ k : Nat, k < 1024 ∧ id = (k : Int) := by
  rw [topB, toT_hs hi, hasL_toL, has, Bool.and_eq_true, Bool.and_eq_true, fitsB_iff] at h
  exact ⟨id.toNat, by omega, by omega⟩
theorem uni_S {t : List (Int × BS)} (hr : Rng t) : (∀ i, i < t.length → topsS t i &&& seenTo t i = 0) ↔ Uni (toT t) := by
  constructor
  · intro h id j i hji hi ⟨h1, h2⟩
    rw [toT_len] at hi
    obtain ⟨k, hk, rfl⟩ := topB_fits hi h1
    have := and_zero.1 (h i hi) k hk
    exact this ⟨by rw [topsS_bit hr hi hk]; exact h1, (seenTo_bit k i).2 ⟨j, hji, by rw [topsS_bit hr (by omega) hk]; exact h2⟩⟩
  · intro h i hi
    refine and_zero.2 fun k hk ⟨h1, h2⟩ => ?_
    obtain ⟨j, hj, h3⟩ := (seenTo_bit k i).1 h2
    rw [topsS_bit hr hi hk] at h1
    rw [topsS_bit hr (by omega) hk] at h3
    exact h k j i hj (by rw [toT_len]; exact hi) ⟨h1, h3⟩
/-- the tree alone -/
def bare (xs : List RB) : List RB := xs.map fun b => (b.1, [])
theorem bare_len (xs : List RB) : (bare xs).length = xs.length := by simp [bare]
theorem bare_up (xs : List RB) (i : Nat) : up (bare xs) i = up xs i := by
  unfold up bare
  rw [List.getElem?_map]
  cases xs[i]? <;> rfl
theorem bare_hs (xs : List RB) (i : Nat) : hs (bare xs) i = [] := by
  unfold hs bare
  rw [List.getElem?_map]
  cases xs[i]? <;> rfl
theorem bare_abv (xs : List RB) : ∀ f a, abv (bare xs) f a = abv xs f a
  | 0, a => rfl
  | f + 1, a => by rw [abv, abv, bare_up, bare_abv xs f]
theorem bare_vals {xs : List RB} (h1 : ∀ i, i < xs.length → -1 ≤ up xs i ∧ up xs i < xs.length) (h2 : (selN (fun i => decide (up xs i < 0)) xs.length).length = 1) (h3 : ∀ i, i < xs.length → (above xs i).isSome = true) : Vals (bare xs) := by
  refine ⟨fun i hi => ?_, ?_, fun i hi => ?_, fun i hi id hid => ?_⟩
  · rw [bare_len] at hi ⊢
    rw [bare_up]; exact h1 i hi
  · rw [bare_len]
    simp only [bare_up]
    exact h2
  · rw [bare_len] at hi
    rw [above, bare_abv, bare_up, bare_len]
    exact h3 i hi
  · rw [bare_hs] at hid; cases hid
theorem top_ex {xs : List RB} (V : Vals (bare xs)) (id : Int) : ∀ i, i < xs.length → id ∈ hs xs i → ∃ j, j < xs.length ∧ topB xs id j = true := by
  intro i hi
  refine tree_ind V (p := fun i => id ∈ hs xs i → ∃ j, j < xs.length ∧ topB xs id j = true) (fun i hi hu h => ⟨i, ?_, ?_⟩) (fun i j hi hj hu ih h => ?_) i (by rw [bare_len]; exact hi)
  · rwa [bare_len] at hi
  · rw [bare_up] at hu
    rw [topB, hasL, decide_eq_true h, hu]; rfl
  · rw [bare_len] at hi
    rw [bare_up] at hu
    by_cases hj2 : id ∈ hs xs j
    · exact ih hj2
    · refine ⟨i, hi, ?_⟩
      rw [topB, hasL, hasL, decide_eq_true h, hu, Int.toNat_natCast, decide_eq_false hj2]
      simp
theorem uni_R {xs : List RB} (V : Vals (bare xs)) : (∀ i, i < xs.length → ∀ id ∈ hs xs i, (topsR xs id).length = 1) ↔ Uni xs := by
  constructor
  · intro h id j i hji hi ⟨h1, h2⟩
    have hm : id ∈ hs xs i := by
      rw [topB, Bool.and_eq_true] at h1
      exact of_decide_eq_true h1.1
    have := h i hi id hm
    exact selN_two.1 (Nat.le_of_eq this) j i hji hi ⟨h1, h2⟩
  · intro h i hi id hid
    have h1 : (topsR xs id).length ≤ 1 := selN_two.2 fun j i hji hi => h id j i hji hi
    obtain ⟨j, hj, ht⟩ := top_ex V id i hi hid
    have : (j : Int) ∈ topsR xs id := mem_selN.2 ⟨j, hj, ht, rfl⟩
    have := List.length_pos_of_mem this
    omega
theorem ite2 {α : Type} {p q : Prop} {_ : Decidable p} {_ : Decidable q} {a b c d : α} (h : p ↔ q) (h1 : p → a = c) (h2 : ¬p → b = d) : (if p then a else b) = (if q then c else d) := by
  by_cases hp : p
  · rw [if_pos hp, if_pos (h.1 hp)]; exact h1 hp
  · rw [if_neg hp, if_neg (fun hq => hp (h.2 hq))]; exact h2 hp
/-- the program's check and the reference's agree -/
theorem chkT_eq {t : List (Int × BS)} : chkT t t.length = chkR (toT t) := by
  unfold chkT chkR
  rw [toT_len]
  refine ite2 (by omega) (fun _ => rfl) fun h0 => ?_
  have e1 : Rng t ↔ ∀ i, i < t.length → -1 ≤ up (toT t) i ∧ up (toT t) i < t.length := by
    constructor
    · intro h i hi; rw [toT_up hi]; exact h i hi
    · intro h i hi; have := h i hi; rwa [toT_up hi] at this
  refine ite2 (not_congr e1) (fun _ => rfl) fun hr => ?_
  replace hr := Classical.not_not.1 hr
  have e2 : (selN (fun i => decide (up (toT t) i < 0)) t.length).length = (rootN t).length := by
    rw [selN, List.length_map, rootN]
    congr 1
    refine List.filter_congr fun i hi => ?_
    have hi := List.mem_range.1 hi
    have := hr i hi
    rw [toT_up hi, decide_eq_decide]
    omega
  rw [e2]
  refine ite2 Iff.rfl (fun _ => rfl) fun h1 => ?_
  replace h1 := Classical.not_not.1 h1
  obtain ⟨r, r1, r2, r3, r4⟩ := root_one h1
  have e3 : (depthsF t t.length (rootN t)).2 = (t.length : Nat) ↔ ∀ i, i < t.length → (above (toT t) i).isSome = true := by
    rw [depthsF_cnt r1, len_count (pre_lt _ r r2)]
    have := sum_eq_len (f := fun i => (pre (kN t) t.length r).count i) (l := List.range t.length) fun i hi => pre_count_le hr r3 t.length (List.mem_range.1 hi)
    rw [List.length_range] at this
    rw [Int.ofNat_inj, this]
    constructor
    · intro h i hi
      exact (above_it hr r2 r3 r4 hi).2 (h i (List.mem_range.2 hi))
    · intro h i hi
      exact (above_it hr r2 r3 r4 (List.mem_range.1 hi)).1 (h i (List.mem_range.1 hi))
  refine ite2 (not_congr e3) (fun _ => rfl) fun h2 => ?_
  replace h2 := Classical.not_not.1 h2
  have V := bare_vals (xs := toT t) (by rw [toT_len]; exact e1.1 hr) (by rw [toT_len, e2]; exact h1) (by rw [toT_len]; exact e3.1 h2)
  have e4 := uni_R V
  rw [toT_len] at e4
  exact ite2 (not_congr ((uni_S hr).trans e4.symm)) (fun _ => rfl) fun _ => rfl
end Go.Mono

namespace Go.Mono
open Go Go.Proofs Go.RowKit

theorem Vals.hi {xs : List RB} (V : Vals xs) : ∀ i, i < xs.length → up xs i < xs.length := fun i hi => (V.range i hi).2

/-- how large the parts below the first k kids are, b itself with them -/
def szTo (xs : List RB) (b : Nat) (k : Nat) : Int := ((kids xs (b : Nat)).take k).foldl (fun n k => n + sizeR xs k) 1
theorem szTo_le {xs : List RB} (V : Vals xs) {b : Nat} (hb : b < xs.length) (k : Nat) : 1 ≤ szTo xs b k ∧ szTo xs b k ≤ xs.length := by
  have hs : ∀ k ∈ kidN xs b, sizeR xs (k : Nat) = (cnt xs k : Nat) := fun k hk => sizeR_cnt V k (mem_kidN.1 hk).1
  have e : szTo xs b k = 1 + ((((kidN xs b).take k).map (cnt xs)).sum : Nat) := by
    rw [szTo, kids_eq, ← List.map_take, foldl_sum (g := cnt xs) fun j hj => hs j (List.mem_of_mem_take hj)]
  have h2 : (((kidN xs b).take k).map (cnt xs)).sum ≤ ((kidN xs b).map (cnt xs)).sum := by
    conv => rhs; rw [← List.take_append_drop k (kidN xs b), List.map_append, List.sum_append]
    omega
  have h3 : cnt xs b = 1 + ((kidN xs b).map (cnt xs)).sum := cnt_eq V hb
  have h4 := cnt_le xs b
  omega
theorem szTo_succ {xs : List RB} {b k : Nat} (h : k < (kids xs (b : Nat)).length) : szTo xs b (k + 1) = szTo xs b k + sizeR xs (gi (kids xs (b : Nat)) k) := by
  rw [szTo, szTo, gi_take h, List.foldl_append]; rfl
theorem kid_at {xs : List RB} {b : Int} {k : Nat} (h : k < (kids xs b).length) : ∃ i : Nat, i < xs.length ∧ up xs i = b ∧ gi (kids xs b) k = (i : Int) := by
  have := List.mem_of_getElem? (gi_get h)
  obtain ⟨i, h1, h2, h3⟩ := mem_kids.1 this
  exact ⟨i, h1, h2, h3⟩
theorem kids_len (xs : List RB) (b : Int) : (kids xs b).length ≤ xs.length := selN_len _ _

def heavyStep (xs : List RB) (best k : Int) : Int := if best < 0 ∨ sizeR xs best < sizeR xs k then k else best
def heavyR (xs : List RB) (b : Int) : Int := (kids xs b).foldl (heavyStep xs) (-1)
def hvTo (xs : List RB) (b : Int) (k : Nat) : Int := ((kids xs b).take k).foldl (heavyStep xs) (-1)
theorem hvTo_succ {xs : List RB} {b : Int} {k : Nat} (h : k < (kids xs b).length) : hvTo xs b (k + 1) = heavyStep xs (hvTo xs b k) (gi (kids xs b) k) := by
  rw [hvTo, hvTo, gi_take h, List.foldl_append]; rfl
theorem hvTo_ok {xs : List RB} {b : Int} : ∀ k, k ≤ (kids xs b).length → hvTo xs b k = -1 ∨ ∃ i : Nat, i < xs.length ∧ up xs i = b ∧ hvTo xs b k = (i : Int)
  | 0, _ => .inl rfl
  | k + 1, h => by
    rw [hvTo_succ (by omega), heavyStep]
    obtain ⟨i, h1, h2, h3⟩ := kid_at (xs := xs) (b := b) (k := k) (by omega)
    split
    · exact .inr ⟨i, h1, h2, h3⟩
    · exact hvTo_ok k (by omega)

def lightR (xs : List RB) (b : Int) : List Int := (kids xs b).filter fun k => k != heavyR xs b
end Go.Mono

namespace Go.Mono
open Go Go.Proofs Go.RowKit

open Classical in
noncomputable def newR (xs : List RB) : Int := if chkR xs ≠ 0 then chkR xs else if ∀ i, i < xs.length → (hs xs i).length ≤ 4 then 0 else 14
theorem newR_spec {G : Nat → Prop} (xs : List RB) (v : Value) (W : World) (h : (Dv rtE G xs).p v W) (hl : xs.length ≤ 1024) (hh : ∀ i, i < xs.length → (hs xs i).length ≤ 4096) :
    Calls Tryz.prog 21 #[v] W (Post (E (I (newR xs))) W) := by
  refine enter (args := [v]) (As := [Dv rtE G xs]) Tryz.func21 rfl Tryz.ntmps21 (Nat.le_of_ble_eq_true rfl) ?_ (fun a hf => ?_) (Nat.le_of_ble_eq_true rfl)
  rotate_left
  dsimp only [params, Nat.reduceAdd] at hf
  rotate_right
  · exact arg1 h
  have e := Ext.rfl' W
  repeat refine seq ?_
  refine regn0 ?_
  refine tl_as hf rfl (by decide) fun a hf => ?_
  refine tl_nil ?_
  repeat refine seq ?_
  refine regn 2 hf (by decide +kernel) ?_
  refine st (mv rfl) ?_
  refine st (call1 En39 rfl (fun v w he h => chkR_spec _ _ _ h (by omega) hh)) ?_
  refine en fun a w e' hf => ?_
  replace e := Ext.tr e e'
  clear e'
  refine tl_as hf rfl (by decide) fun a hf => ?_
  refine tl_nil ?_
  repeat refine seq ?_
  refine regn 2 hf (by decide +kernel) ?_
  refine st (mv rfl) ?_
  refine st (neq rfl rfl) ?_
  refine en fun a w e' hf => ?_
  replace e := Ext.tr e e'
  clear e'
  refine tl_nil ?_
  repeat refine seq ?_
  refine ifc hf rfl (fun hb => ?_) (fun hb => ?_)
  · have hb' : chkR xs ≠ 0 := by simpa using hb
    repeat refine seq ?_
    refine regn 1 hf (by decide +kernel) ?_
    refine st (mv rfl) ?_
    refine en fun a w e' hf => ?_
    replace e := Ext.tr e e'
    clear e'
    refine tl_as hf rfl (by decide) fun a hf => ?_
    refine tl_nil ?_
    refine wret ?_
    try simp only [Exit.then, Exit.inBlock]
    refine ret1 rfl hf rfl ?_
    rintro _ rfl
    exact ⟨_, rfl, e, congrArg I (by rw [newR, if_pos hb'])⟩
  · have hb' : ¬ chkR xs ≠ 0 := by simpa using hb
    refine wskip ?_
    try simp only [Exit.then, Exit.inBlock, ↓reduceIte]
    repeat refine seq ?_
    refine regn 3 hf (by decide +kernel) ?_
    refine st (mv rfl) ?_
    refine st (lenD Tryz.underlying29 (isR rfl)) ?_
    refine st ((gtr rfl rfl).eq (congrArg Value.bool (show decide ((1024 : Int) < (xs.length : Nat)) = false from decide_eq_false (by omega)))) ?_
    refine en fun a w e' hf => ?_
    replace e := Ext.tr e e'
    clear e'
    refine tl_nil ?_
    repeat refine seq ?_
    refine ifc hf rfl (fun h => by cases h) (fun _ => ?_)
    refine wskip ?_
    try simp only [Exit.then, Exit.inBlock, ↓reduceIte]
    repeat refine seq ?_
    refine regn0 ?_
    refine tl_as hf rfl (by decide) fun a hf => ?_
    refine tl_nil ?_
    replace hf := hf.keep [0, 4]
    dsimp only [keep, List.filterMap, look, Nat.beq, Option.map] at hf
    repeat refine seq ?_
    refine blk (loopN (fun r0 a w => ∃ (k : Nat) , r0 = xs.length - k ∧ k ≤ xs.length ∧ Fr 26 a w [(0, Dv rtE G xs), (4, E (I k))] ∧ Ext W w ∧ ∀ i, i < k → (hs xs i).length ≤ 4) xs.length ⟨0, rfl, by omega, hf, e, (fun i hi => by omega)⟩ ?_)
    clear hf e; try clear Ho
    rintro r0 a w ⟨k, rfl, hk, hf, e, Ho⟩
    repeat refine seq ?_
    refine regn 4 hf (by decide +kernel) ?_
    refine st (mv rfl) ?_
    refine st (mv rfl) ?_
    refine st (lenD Tryz.underlying29 (isR rfl)) ?_
    refine st (lss rfl rfl) ?_
    refine en fun a w e' hf => ?_
    replace e := Ext.tr e e'
    clear e'
    refine tl_nil ?_
    repeat refine seq ?_
    refine ifc hf rfl (fun hc => wskip ?_) (fun hc => wexit ?_)
    rotate_left
    rotate_left
    · have hlt : k < xs.length := by have := of_decide_eq_true hc; (try dsimp only at this); omega
      clear hc
      replace hf := hf.keep [0, 4]
      dsimp only [keep, List.filterMap, look, Nat.beq, Option.map] at hf
      repeat refine seq ?_
      refine blk ?_
      repeat refine seq ?_
      refine regn 7 hf (by decide +kernel) ?_
      refine st (mv rfl) ?_
      refine st (mv rfl) ?_
      refine st (idxD Tryz.underlying29 S97 (isR rfl) rfl (by omega) (up_get hlt)) ?_
      refine st (fldD Tryz.underlying97 rfl T95 (by decide) (Fld.snd Fld.refl rfl) (isR rfl)) ?_
      refine st (ldD T95 (isR rfl)) ?_
      refine st (lenD Tryz.underlying95 (isR rfl)) ?_
      refine st (gtr rfl rfl) ?_
      refine en fun a w e' hf => ?_
      replace e := Ext.tr e e'
      clear e'
      refine tl_nil ?_
      repeat refine seq ?_
      refine ifc hf rfl (fun hb => ?_) (fun hb => ?_)
      · have hb2 := of_decide_eq_true hb
        repeat refine seq ?_
        refine regn0 ?_
        refine tl_as hf rfl (by decide) fun a hf => ?_
        refine tl_nil ?_
        refine wret ?_
        try simp only [Exit.then, Exit.inBlock]
        refine ret1 rfl hf rfl ?_
        rintro _ rfl
        exact ⟨_, rfl, e, congrArg I (by rw [newR, if_neg hb', if_neg (fun h => by have := h k hlt; dsimp only at hb2; omega)])⟩
      · have hb2 := of_decide_eq_false hb
        refine wskip ?_
        try simp only [Exit.then, Exit.inBlock, ↓reduceIte]
        try simp only [Exit.then, Exit.inBlock, ↓reduceIte]
        repeat refine seq ?_
        refine regn 2 hf (by decide +kernel) ?_
        refine st (mv rfl) ?_
        refine st ((add rfl rfl (by omega)).eq (congrArg (Value.int .i64) (show (k : Int) + 1 = ((k + 1 : Nat) : Int) from rfl))) ?_
        refine en fun a w e' hf => ?_
        replace e := Ext.tr e e'
        clear e'
        refine tl_as hf rfl (by decide) fun a hf => ?_
        refine tl_nil ?_
        replace hf := hf.keep [0, 4]
        dsimp only [keep, List.filterMap, look, Nat.beq, Option.map] at hf
        refine ⟨_, ?_, k + 1, rfl, by omega, hf, e, ?_⟩
        · omega
        intro i hi
        by_cases hk : i = k
        · subst hk; dsimp only at hb2; omega
        · exact Ho i (by omega)
    · obtain rfl : k = xs.length := by have := of_decide_eq_false hc; (try dsimp only at this); omega
      clear hc
      simp only [Exit.then, Exit.inBlock, ↓reduceIte]
      repeat refine seq ?_
      refine regn0 ?_
      refine tl_as hf rfl (by decide) fun a hf => ?_
      refine tl_nil ?_
      refine wret ?_
      try simp only [Exit.then, Exit.inBlock]
      refine ret1 rfl hf rfl ?_
      rintro _ rfl
      exact ⟨_, rfl, e, congrArg I (by rw [newR, if_neg hb', if_pos Ho])⟩

def isR45 (xs : List RB) (b : Int) : Bool := decide (0 ≤ b ∧ b < xs.length)
theorem isR_spec {G : Nat → Prop} (xs : List RB) (b : Int) (v : Value) (W : World) (h : (Dv rtE G xs).p v W) :
    Calls Tryz.prog 49 #[v, I b] W (Post (E (B (isR45 xs b))) W) := by
  refine enter (args := [v, I b]) (As := [Dv rtE G xs, E (I b)]) Tryz.func49 rfl Tryz.ntmps49 (Nat.le_of_ble_eq_true rfl) ?_ (fun a hf => ?_) (Nat.le_of_ble_eq_true rfl)
  rotate_left
  dsimp only [params, Nat.reduceAdd] at hf
  rotate_right
  · exact arg2 h rfl
  have e := Ext.rfl' W
  repeat refine seq ?_
  refine regn0 ?_
  refine tl_as hf rfl (by decide) fun a hf => ?_
  refine tl_nil ?_
  cases h1 : decide (0 ≤ b)
  · repeat refine seq ?_
    refine regn 8 hf (by decide +kernel) ?_
    refine st (mv rfl) ?_
    refine st ((geq rfl rfl).eq (congrArg Value.bool (h1))) ?_
    refine st (mv rfl) ?_
    refine sn rfl rfl rfl ?_
    refine sn rfl rfl rfl ?_
    refine sn rfl rfl rfl ?_
    refine sn rfl rfl rfl ?_
    refine st (pkF rfl rfl) ?_
    refine en fun a w e' hf => ?_
    replace e := Ext.tr e e'
    clear e'
    refine tl_as hf rfl (by decide) fun a hf => ?_
    refine tl_nil ?_
    have h1' := of_decide_eq_false h1
    refine wret ?_
    try simp only [Exit.then, Exit.inBlock]
    refine ret1 rfl hf rfl ?_
    rintro _ rfl
    exact ⟨_, rfl, e, congrArg B (decide_eq_false fun h => h1' h.1).symm⟩
  · repeat refine seq ?_
    refine regn 8 hf (by decide +kernel) ?_
    refine st (mv rfl) ?_
    refine st ((geq rfl rfl).eq (congrArg Value.bool (h1))) ?_
    refine st (mv rfl) ?_
    refine sy rfl rfl (mv rfl) ?_
    refine sy rfl rfl (mv rfl) ?_
    refine sy rfl rfl (lenD Tryz.underlying29 (isR rfl)) ?_
    refine sy rfl rfl (lss rfl rfl) ?_
    refine st (pkT rfl rfl) ?_
    refine en fun a w e' hf => ?_
    replace e := Ext.tr e e'
    clear e'
    refine tl_as hf rfl (by decide) fun a hf => ?_
    refine tl_nil ?_
    have h1' := of_decide_eq_true h1
    refine wret ?_
    try simp only [Exit.then, Exit.inBlock]
    refine ret1 rfl hf rfl ?_
    rintro _ rfl
    exact ⟨_, rfl, e, congrArg B (by unfold isR45; simp only [h1', true_and])⟩

def homeR (xs : List RB) (id : Int) : Int := fstN (topB xs id) xs.length
end Go.Mono

namespace Go.Mono

theorem fstN_cases (p : Nat → Bool) (n : Nat) : (fstN p n = -1 ∧ ∀ i, i < n → p i = false) ∨ ∃ k : Nat, k < n ∧ fstN p n = (k : Int) ∧ p k = true ∧ ∀ i, i < k → p i = false := by
  by_cases h : ∃ k, k < n ∧ p k = true
  · obtain ⟨k, ⟨h1, h2⟩, h3⟩ := least h
    have h4 : ∀ i, i < k → p i = false := fun i hi => by
      cases hp : p i
      · rfl
      · exact absurd ⟨by omega, hp⟩ (h3 i hi)
    exact .inr ⟨k, h1, fstN_hit h1 h4 h2, h2, h4⟩
  · have h4 : ∀ i, i < n → p i = false := fun i hi => by
      cases hp : p i
      · rfl
      · exact absurd ⟨i, hi, hp⟩ h
    exact .inl ⟨fstN_none h4, h4⟩
theorem Vals.uni {xs : List RB} (V : Vals xs) : Uni xs := (uni_R (bare_vals V.range V.root V.loop)).1 V.dup
theorem homeR_top {xs : List RB} (U : Uni xs) {id : Int} {i : Nat} (hi : i < xs.length) (h : topB xs id i = true) : homeR xs id = (i : Int) := by
  refine fstN_hit hi (fun j hj => ?_) h
  cases ht : topB xs id j
  · rfl
  · exact absurd ⟨h, ht⟩ (U id j i hj hi)
theorem homeR_cases (xs : List RB) (id : Int) : (homeR xs id = -1 ∧ ∀ i, i < xs.length → topB xs id i = false) ∨ ∃ k : Nat, k < xs.length ∧ homeR xs id = (k : Int) ∧ topB xs id k = true := by
  rcases fstN_cases (topB xs id) xs.length with h | ⟨k, h1, h2, h3, _⟩
  · exact .inl h
  · exact .inr ⟨k, h1, h2, h3⟩
theorem dsc_self (xs : List RB) (i : Nat) : dsc xs i i = true := by simp [dsc]
end Go.Mono

namespace Go.Mono

def lightN (xs : List RB) (b : Nat) : List Nat := (kidN xs b).filter fun k => decide (heavyR xs (b : Nat) ≠ (k : Int))
/-- b is a light child -/
def isLt (xs : List RB) (b : Int) : Bool := (List.range xs.length).any fun p => (lightN xs p).any fun k => decide (b = (k : Int))
end Go.Mono

namespace Go.Mono
open Go Go.Proofs Go.RowKit

/-- the index of the first number for which p holds, or -1 -/
def fstI (p : Int → Bool) (l : List Int) : Int := fstN (fun i => p (gi l i)) l.length

theorem indexFuncI_spec {G : Nat → Prop} (l : List Int) (v : Value) (id : FuncId) (caps : Array Value) (p : Int → Bool) (W : World) (hen : Proofs.Enters Tryz.prog id) (h : (Dv (slE intE) G l).p v W)
    (hp : ∀ w x, Ext W w → Calls Tryz.prog id (#[I x] ++ caps) w (Post (E (B (p x))) w)) (hl : l.length ≤ 4096) :
    Calls Tryz.prog 127 #[v, .func (.func id) #[] caps] W (Post (E (I (fstI p l))) W) := by
  refine enter (args := [v, .func (.func id) #[] caps]) (As := [Dv (slE intE) G l, E (.func (.func id) #[] caps)]) Tryz.func127 rfl Tryz.ntmps127 (Nat.le_of_ble_eq_true rfl) ?_ (fun a hf => ?_) (Nat.le_of_ble_eq_true rfl)
  rotate_left
  dsimp only [params, Nat.reduceAdd] at hf
  rotate_right
  · exact arg2 h rfl
  have e := Ext.rfl' W
  repeat refine seq ?_
  refine regn0 ?_
  refine tl_as hf rfl (by decide) fun a hf => ?_
  refine tl_nil ?_
  repeat refine seq ?_
  refine regn 3 hf (by decide +kernel) ?_
  refine st (mv rfl) ?_
  refine st (lenD Tryz.underlying59 (isR rfl)) ?_
  refine st (mv rfl) ?_
  refine en fun a w e' hf => ?_
  replace e := Ext.tr e e'
  clear e'
  refine tl_nil ?_
  replace hf := hf.keep [0, 1, 7, 8]
  dsimp only [keep, List.filterMap, look, Nat.beq, Option.map] at hf
  repeat refine seq ?_
  refine blk (loopN (fun r0 a w => ∃ (k : Nat) , r0 = l.length - k ∧ k ≤ l.length ∧ Fr 19 a w [(0, Dv (slE intE) G l), (1, E (.func (.func id) #[] caps)), (7, E (I (l.length : Nat))), (8, E (I k))] ∧ Ext W w ∧ ∀ i, i < k → p (gi l i) = false) l.length ⟨0, rfl, by omega, hf, e, (fun i hi => by omega)⟩ ?_)
  clear hf e; try clear Ho
  rintro r0 a w ⟨k, rfl, hk, hf, e, Ho⟩
  repeat refine seq ?_
  refine regn 1 hf (by decide +kernel) ?_
  refine st (lss rfl rfl) ?_
  refine en fun a w e' hf => ?_
  replace e := Ext.tr e e'
  clear e'
  refine tl_nil ?_
  repeat refine seq ?_
  refine ifc hf rfl (fun hc => wskip ?_) (fun hc => wexit ?_)
  rotate_left
  rotate_left
  · have hlt : k < l.length := by have := of_decide_eq_true hc; (try dsimp only at this); omega
    clear hc
    replace hf := hf.keep [0, 1, 7, 8]
    dsimp only [keep, List.filterMap, look, Nat.beq, Option.map] at hf
    repeat refine seq ?_
    refine blk ?_
    repeat refine seq ?_
    refine regn 1 hf (by decide +kernel) ?_
    refine st (mv rfl) ?_
    refine en fun a w e' hf => ?_
    replace e := Ext.tr e e'
    clear e'
    refine tl_as hf rfl (by decide) fun a hf => ?_
    refine tl_nil ?_
    repeat refine seq ?_
    refine regn 6 hf (by decide +kernel) ?_
    refine st (mv rfl) ?_
    refine st (mv rfl) ?_
    refine st (mv rfl) ?_
    refine st (idxD Tryz.underlying59 S3 (isR rfl) rfl (by omega) (gi_get hlt)) ?_
    refine st (ldI T3 (isR rfl)) ?_
    refine st (callV1 hen rfl rfl (fun v w he h => by cases h; exact hp w _ (Ext.tr e he))) ?_
    refine en fun a w e' hf => ?_
    replace e := Ext.tr e e'
    clear e'
    refine tl_nil ?_
    repeat refine seq ?_
    refine ifc hf rfl (fun hb => ?_) (fun hb => ?_)
    · repeat refine seq ?_
      refine regn 1 hf (by decide +kernel) ?_
      refine st (mv rfl) ?_
      refine en fun a w e' hf => ?_
      replace e := Ext.tr e e'
      clear e'
      refine tl_as hf rfl (by decide) fun a hf => ?_
      refine tl_nil ?_
      refine wret ?_
      try simp only [Exit.then, Exit.inBlock]
      refine ret1 rfl hf rfl ?_
      rintro _ rfl
      exact ⟨_, rfl, e, congrArg I (fstN_hit hlt Ho hb).symm⟩
    · refine wskip ?_
      try simp only [Exit.then, Exit.inBlock, ↓reduceIte]
      try simp only [Exit.then, Exit.inBlock, ↓reduceIte]
      repeat refine seq ?_
      refine regn 1 hf (by decide +kernel) ?_
      refine st ((add rfl rfl (by omega)).eq (congrArg (Value.int .i64) (show (k : Int) + 1 = ((k + 1 : Nat) : Int) from rfl))) ?_
      refine en fun a w e' hf => ?_
      replace e := Ext.tr e e'
      clear e'
      refine tl_op hf (by decide) (mv rfl) fun a w e' hf => ?_
      replace e := Ext.tr e e'
      clear e'
      refine tl_nil ?_
      replace hf := hf.keep [0, 1, 7, 8]
      dsimp only [keep, List.filterMap, look, Nat.beq, Option.map] at hf
      refine ⟨_, ?_, k + 1, rfl, by omega, hf, e, ?_⟩
      · omega
      intro i hi
      by_cases hk : i = k
      · subst hk; exact hb
      · exact Ho i (by omega)
  · obtain rfl : k = l.length := by have := of_decide_eq_false hc; (try dsimp only at this); omega
    clear hc
    simp only [Exit.then, Exit.inBlock, ↓reduceIte]
    repeat refine seq ?_
    refine regn0 ?_
    refine tl_as hf rfl (by decide) fun a hf => ?_
    refine tl_nil ?_
    refine wret ?_
    try simp only [Exit.then, Exit.inBlock]
    refine ret1 rfl hf rfl ?_
    rintro _ rfl
    exact ⟨_, rfl, e, congrArg I (fstN_none Ho).symm⟩
end Go.Mono

namespace Go.Mono
open Go Go.RowKit

/-- the operation that changes blocks of S: it runs once, ahead of it the world has but grown -/
structure XOpZ (P : Program) (w0 : World) (S : Nat → Prop) (F : World → Prop) (L : Env) (o : Oper) (A : VA) : Prop where
  out : ∀ ρ w, Ext w0 w → (∀ x ∈ o.op.operands, ∀ B, opd L x = some B → B.p (ρ x) w) → OpR P o ρ w (fun v w' => Chg S w w' ∧ A.p v w' ∧ F w')
/-- the operations in the order of the text; fr: which are free; L: for the operations, L2: for what stands behind -/
def RegZ (P : Program) (ops : Array Oper) (w0 : World) (S : Nat → Prop) (F : World → Prop) : List Bool → List Oper → (Env → Prop) → Env → Env → Prop
  | [], [o], K, L, L2 => o.guard = none ∧ ∃ A, XOpZ P w0 S F L o A ∧ K (push o.dst A L2)
  | true :: fr, o :: rest, K, L, L2 => ∃ A, (∀ w1, Chg S w0 w1 → GOp P ops w1 L o A) ∧ AvS S A ∧ RegZ P ops w0 S F fr rest K (push o.dst A L) (push o.dst A L2)
  | false :: fr, o :: rest, K, L, L2 => ∃ A, GOp P ops w0 L o A ∧ RegZ P ops w0 S F fr rest K (push o.dst A L) (push o.dst Any L2)
  | _, _, _, _, _ => False

section
variable {P : Program} {ops : Array Oper} {Q : Exit → Act → World → Prop} {w0 : World} {n : Nat} {ds : List Deferred} {r : Option Nat}

def frF (fr : List Bool) (j : Nat) : Bool := fr.getD j false
theorem RegZ_As {S : Nat → Prop} {F : World → Prop} {K : Env → Prop} : ∀ (M : List Oper) (fr : List Bool) (k : Nat) (L L2 : Env), (∀ j, j < M.length → ops[k + j]? = M[j]?) → RegZ P ops w0 S F fr M K L L2 →
    ∃ As : Nat → VA, M.length = fr.length + 1 ∧ (∀ j o, j < fr.length → ops[k + j]? = some o → (frF fr j = false → GOp P ops w0 (envF ops L As k j) o (As j)) ∧ (frF fr j = true → (∀ w1, Chg S w0 w1 → GOp P ops w1 (envF ops L As k j) o (As j)) ∧ AvS S (As j))) ∧
      (∀ o, ops[k + fr.length]? = some o → o.guard = none ∧ XOpZ P w0 S F (envF ops L As k fr.length) o (As fr.length)) ∧ K (envF ops L2 (fun j => if frF fr j = true ∨ j = fr.length then As j else Any) k M.length)
  | [], [], _, _, _, _, h => h.elim
  | [], _ :: _, _, _, _, _, h => by
    rename_i f fr _ _ _ _
    cases f <;> exact h.elim
  | [o], [], k, L, L2, hM, ⟨hg, A, h1, h2⟩ => by
    have h0 : ops[k]? = some o := by simpa using hM 0 (by simp)
    have hd : dstOf ops k = o.dst := by simp [dstOf, h0]
    refine ⟨fun _ => A, rfl, fun j o hj => by simp at hj, fun o' ho' => ?_, ?_⟩
    · rw [List.length_nil, Nat.add_zero, h0] at ho'
      obtain rfl := Option.some.inj ho'
      exact ⟨hg, h1⟩
    · have : envF ops L2 (fun j => if frF [] j = true ∨ j = ([] : List Bool).length then A else Any) k 1 = push o.dst A L2 := by
        have := envFY_cons (ops := ops) L2 A (fun _ => Any) k 0
        rw [hd] at this
        show _ = envF ops (push o.dst A L2) (fun _ => Any) (k + 1) 0
        rw [← this]
        rfl
      rw [List.length_singleton, this]
      exact h2
  | o :: o2 :: M, [], _, _, _, _, h => h.elim
  | o :: M, f :: fr, k, L, L2, hM, h => by
    have h0 : ops[k]? = some o := by simpa using hM 0 (by simp)
    have hd : dstOf ops k = o.dst := by simp [dstOf, h0]
    obtain ⟨A, hA, hr⟩ : ∃ A, ((f = false → GOp P ops w0 L o A) ∧ (f = true → (∀ w1, Chg S w0 w1 → GOp P ops w1 L o A) ∧ AvS S A)) ∧ RegZ P ops w0 S F fr M K (push o.dst A L) (push o.dst (if f = true then A else Any) L2) := by
      cases f with
      | true =>
        obtain ⟨A, h1, h2, h3⟩ := h
        exact ⟨A, ⟨(fun h => by cases h), (fun _ => ⟨h1, h2⟩)⟩, h3⟩
      | false =>
        obtain ⟨A, h1, h3⟩ := h
        exact ⟨A, ⟨(fun _ => h1), (fun h => by cases h)⟩, h3⟩
    obtain ⟨As, h1, h2, h3, h4⟩ := RegZ_As M fr (k + 1) _ _ (fun j hj => by
      have := hM (j + 1) (by simpa using hj)
      rw [show k + 1 + j = k + (j + 1) by omega]
      simpa using this) hr
    refine ⟨consFY A As, by simp [h1], ?_, ?_, ?_⟩
    · intro j o' hj ho'
      cases j with
      | zero =>
        rw [Nat.add_zero, h0] at ho'
        obtain rfl := Option.some.inj ho'
        exact hA
      | succ j =>
        rw [envFY_cons, hd]
        exact h2 j o' (by simpa using hj) (by rw [show k + 1 + j = k + (j + 1) by omega]; exact ho')
    · intro o' ho'
      rw [List.length_cons, envFY_cons, hd]
      exact h3 o' (by rw [show k + 1 + fr.length = k + (fr.length + 1) by omega]; exact ho')
    · have e : (fun j => if frF (f :: fr) j = true ∨ j = fr.length + 1 then consFY A As j else Any) = consFY (if f = true then A else Any) (fun j => if frF fr j = true ∨ j = fr.length then As j else Any) := by
        funext j
        cases j with
        | zero =>
          show (if f = true ∨ 0 = fr.length + 1 then A else Any) = (if f = true then A else Any)
          have : ¬ 0 = fr.length + 1 := by omega
          simp [this]
        | succ j =>
          show (if frF fr j = true ∨ j + 1 = fr.length + 1 then As j else Any) = _
          simp [consFY]
      rw [List.length_cons, List.length_cons, e, envFY_cons, hd]
      exact h4

structure InvZ (ops : Array Oper) (m x : Nat) (fr : Nat → Bool) (S : Nat → Prop) (F : World → Prop) (n : Nat) (ds : List Deferred) (w0 : World) (L : Env) (As : Nat → VA) (listed : Array Bool) (a : Act) (w : World) : Prop where
  ext : Chg S w0 w
  pre : listed.getD x true = false → Ext w0 w
  post : listed.getD x false = true → F w
  size : a.tmps.size = n
  defers : a.defers = ds
  hL : ∀ t A, look L t = some A → (∀ j, j < m → dstOf ops j ≠ some t) → A.p (a.eval (.tmp t)) w
  hA : ∀ i, i < m → listed.getD i false = true → (listed.getD x true = false ∨ fr i = true ∨ i = x) → ∀ d, dstOf ops i = some d → (As i).p (a.eval (.tmp d)) w

theorem wpAny_mainZ {m x : Nat} {fr : Nat → Bool} {S : Nat → Prop} {F : World → Prop} (hx0 : x < m) (hFst : ∀ w w', Ext w w' → F w → F w') {L : Env} {As : Nat → VA} (hm : m ≤ ops.size) (hchk : ∀ i, i < m → chkOp ops m n i = true) (hchk2 : ∀ i, m ≤ i → i < ops.size → chkTail ops i = true)
    (hanc : ∀ j, j < m → j ≠ x → fr j = false → covers ops 12 x j = true)
    (hfree : ∀ i o, i < m → i ≠ x → fr i = true → ops[i]? = some o → ∀ t, (t ∈ tmpsOf o ∨ gdst ops o = some t) → ∀ j, j < m → dstOf ops j = some t → fr j = true ∧ j ≠ x)
    (hops : ∀ j o, j < m → j ≠ x → ops[j]? = some o → (fr j = false → GOp P ops w0 (envF ops L As 0 j) o (As j)) ∧ (fr j = true → (∀ w1, Chg S w0 w1 → GOp P ops w1 (envF ops L As 0 j) o (As j)) ∧ AvS S (As j)))
    (hX : ∀ o, ops[x]? = some o → o.guard = none ∧ XOpZ P w0 S F (envF ops L As 0 x) o (As x)) (hLav : AvSL S L)
    (hend : ∀ a w, Chg S w0 w → F w → FrD n ds a w (envF ops L (fun j => if fr j = true ∨ j = x then As j else Any) 0 m) → wpListIn (FW r) 0 P ops Q (ops.toList.drop m) a w) :
    ∀ (c : Nat) (listed : Array Bool) (a : Act) (w : World), (List.range m).countP (fun i => !listed.getD i true) = c → listed.size = ops.size →
      (∀ j, m ≤ j → j < ops.size → listed.getD j true = false) → LD ops listed → InvZ ops m x fr S F n ds w0 L As listed a w → wpAnyIn (FW r) 0 P .any ops Q (c + (ops.size - m)) listed a w
  | 0, listed, a, w, hc, hsz, hun, hld, hi => by
    have hall : ∀ j, j < m → listed.getD j false = true := by
      intro j hj
      have := (List.countP_eq_zero.1 hc) j (List.mem_range.2 hj)
      have hjl : j < listed.size := by omega
      simpa [hjl] using this
    rw [Nat.zero_add]
    refine wpAny_tail m hchk2 (ops.size - m) m (by omega) (Nat.le_refl _) listed a w hall hun hsz hld (hend a w hi.ext (hi.post (hall x hx0)) ⟨hi.size, hi.defers, fun t A ht => ?_⟩)
    rcases look_envF L _ t A m ht with ⟨j, hj, hd, rfl⟩ | ⟨hn, hl⟩
    · by_cases hk : fr j = true ∨ j = x
      · rw [if_pos hk]
        exact hi.hA j hj (hall j hj) (.inr hk) t hd
      · rw [if_neg hk]; trivial
    · exact hi.hL t A hl hn
  | c + 1, listed, a, w, hc, hsz, hun, hld, hi => by
    have facts : ∀ i o, i < m → ops[i]? = some o → (∀ e ∈ o.after, Region.binds .any e = true → e.on < i) ∧ (∀ d, o.dst = some d → d < n) ∧
        (∀ t, t ∈ tmpsOf o ∨ gdst ops o = some t → ∀ j, j < m → dstOf ops j = some t → bnd ops i j = true) ∧ (∀ j, j < m → j ≠ i → ∀ d, o.dst = some d → dstOf ops j ≠ some d) := by
      intro i o hlt ho
      have := hchk i hlt
      simp only [chkOp, ho, Bool.and_eq_true, Array.all_eq_true_iff_forall_mem, Bool.or_eq_true, Bool.not_eq_true', List.all_eq_true, List.mem_range, List.mem_append, Option.mem_toList] at this
      obtain ⟨⟨⟨h1, h2⟩, h3⟩, h4⟩ := this
      refine ⟨fun e he hb => ?_, fun d hd => ?_, fun t ht j hj hd => ?_, fun j hj hne d hd hd' => ?_⟩
      · rcases h1 e he with h | h
        · rw [hb] at h; cases h
        · simpa [Nat.blt_eq] using h
      · simpa [hd, Nat.blt_eq] using h2
      · have := h3 t ht j hj
        rcases this with h | h
        · rw [hd] at h; simp at h
        · exact h
      · have := h4 j hj
        rcases this with h | h
        · exact hne (Nat.eq_of_beq_eq_true h)
        · rw [hd, hd'] at h; simp at h
    have prog : ∃ i, i < m ∧ listed.getD i true = false ∧ ∀ j, j < i → listed.getD j true = true := by
      have hex : ∃ i, i < m ∧ listed.getD i true = false := by
        have hpos : 0 < (List.range m).countP (fun i => !listed.getD i true) := by omega
        obtain ⟨i, hi, hb⟩ := List.countP_pos_iff.1 hpos
        exact ⟨i, List.mem_range.1 hi, by simpa using hb⟩
      obtain ⟨i, hlt, hb⟩ := hex
      induction i using Nat.strongRecOn with
      | _ i ih =>
        by_cases h : ∃ j, j < i ∧ listed.getD j true = false
        · obtain ⟨j, hj, hjb⟩ := h
          exact ih j hj (by omega) hjb
        · refine ⟨i, hlt, hb, fun j hj => ?_⟩
          cases hjb : listed.getD j true with
          | true => rfl
          | false => exact absurd ⟨j, hj, hjb⟩ h
    obtain ⟨i0, hi0, hu0, hbelow⟩ := prog
    have hready : i0 ∈ Region.ready .any ops listed := by
      have ho : ops[i0]? = some (ops[i0]'(by omega)) := by simp
      refine mem_ready.2 ⟨hu0, _, ho, fun e he hb => ?_⟩
      have hlt := (facts i0 _ hi0 ho).1 e he hb
      have := hbelow _ hlt
      have hjl : e.on < listed.size := by omega
      simpa [hjl] using this
    rw [show c + 1 + (ops.size - m) = (c + (ops.size - m)) + 1 by omega]
    refine ⟨fun h0 => (by rw [h0] at hready; cases hready), fun i hir => ?_⟩
    obtain ⟨hu, o, ho, hall⟩ := mem_ready.1 hir
    have hilt : i < ops.size := (Array.getElem?_eq_some_iff.1 ho).1
    have listed_of_bnd : ∀ j, bnd ops i j = true → listed.getD j false = true := by
      intro j hb
      simp only [bnd, ho] at hb
      obtain ⟨e, he, hb⟩ := Array.any_eq_true'.1 hb
      simp only [Bool.and_eq_true] at hb
      have := hall e he hb.1
      rwa [Nat.eq_of_beq_eq_true hb.2] at this
    have him : i < m := by
      rcases Nat.lt_or_ge i m with h | h
      · exact h
      · have hc := hchk2 i h hilt
        simp only [chkTail, ho, Bool.and_eq_true, List.all_eq_true, List.mem_range] at hc
        have := cov hld 12 i i0 (hc.2 i0 (by omega)) (fun o' ho' e he hb => by
          rw [ho] at ho'
          obtain rfl := Option.some.inj ho'
          exact hall e he hb)
        rw [not_listed hu0] at this
        cases this
    obtain ⟨f1, f2, f3, f4⟩ := facts i o him ho
    have hxun : i ≠ x → fr i = false → listed.getD x true = false := by
      intro hix hfr
      cases hlx : listed.getD x true with
      | false => rfl
      | true =>
        have hxl : x < listed.size := by omega
        have hlx' : listed.getD x false = true := by simpa [hxl] using hlx
        have := cov hld 12 x i (hanc i him hix hfr) (fun o' ho' e he hb => hld x o' hlx' ho' e he hb)
        rw [not_listed hu] at this
        cases this
    have hcond : ∀ j, j < m → (∃ t, (t ∈ tmpsOf o ∨ gdst ops o = some t) ∧ dstOf ops j = some t) → (listed.getD x true = false ∨ fr j = true ∨ j = x) := by
      rintro j hj ⟨t, ht, hd⟩
      by_cases hix : i = x
      · exact .inl (hix ▸ hu)
      · cases hfr : fr i with
        | true => exact .inr (.inl (hfree i o him hix hfr ho t ht j hj hd).1)
        | false => exact .inl (hxun hix hfr)
    have byLook : ∀ t, (t ∈ tmpsOf o ∨ gdst ops o = some t) → ∀ B, look (envF ops L As 0 i) t = some B → B.p (a.eval (.tmp t)) w := by
      intro t ht B hB
      rcases look_envF L As t B i hB with ⟨j, hj, hd, rfl⟩ | ⟨hn, hl⟩
      · exact hi.hA j (by omega) (listed_of_bnd j (f3 t ht j (by omega) hd)) (hcond j (by omega) ⟨t, ht, hd⟩) t hd
      · refine hi.hL t B hl fun j hj hd => ?_
        have hb := f3 t ht j hj hd
        simp only [bnd, ho] at hb
        obtain ⟨e, he, hb⟩ := Array.any_eq_true'.1 hb
        simp only [Bool.and_eq_true] at hb
        have hlt := f1 e he hb.1
        rw [Nat.eq_of_beq_eq_true hb.2] at hlt
        exact hn j hlt hd
    have ops1 : ∀ x ∈ o.op.operands, ∀ B, opd (envF ops L As 0 i) x = some B → B.p (a.eval x) w := fun x hx B hB => by
      cases x with
      | tmp t => exact byLook t (.inl (List.mem_filterMap.2 ⟨.tmp t, by simpa using hx, rfl⟩)) B hB
      | const v => simp [opd] at hB; subst hB; rfl
      | global g => simp [opd] at hB; subst hB; rfl
      | func f => simp [opd] at hB; subst hB; rfl
    have hdst : dstOf ops i = o.dst := by simp [dstOf, ho]
    have step : ∀ v w', Chg S w w' → (i ≠ x → Ext w w') → (i = x → ∀ j, j < m → j ≠ x → fr j = true → AvS S (As j)) → (As i).p v w' → (i = x → F w') → wpAnyIn (FW r) 0 P .any ops Q (c + (ops.size - m)) (listed.setIfInBounds i true) (a.put o.dst v) w' := by
      intro v w' hx hxe hxa hv hvF
      have stab : ∀ (A : VA) u, AvS S A → A.p u w → A.p u w' := fun A u hA h => hA.av _ _ _ hx h
      refine wpAny_mainZ hx0 hFst hm hchk hchk2 hanc hfree hops hX hLav hend c _ _ _ ?_ (by simpa using hsz) ?_ ?_ ?_
      · have := countP_upd m (fun j => !listed.getD j true) (fun j => !(listed.setIfInBounds i true).getD j true) i him (by simp only [hu, Bool.not_false])
          (by have hjl : i < listed.size := by omega
              simp [hjl]) (fun j hj => by simp only [getD_set_ne true (Ne.symm hj)])
        omega
      · intro j hj hj'
        rw [getD_set_ne true (by omega)]
        exact hun j hj hj'
      · exact hld.set fun o' ho' e he hb => by
          rw [ho] at ho'
          obtain rfl := Option.some.inj ho'
          exact hall e he hb
      · refine ⟨Chg.tr hi.ext hx, fun hl => ?_, fun hl => ?_, by simp [hi.size], by simp [hi.defers], fun t A ht hn => ?_, fun j hj hl hcj d hd => ?_⟩
        · have hix : i ≠ x := by
            rintro rfl
            have hjl : i < listed.size := by omega
            simp [hjl] at hl
          rw [getD_set_ne true hix] at hl
          exact Ext.tr (hi.pre hl) (hxe hix)
        · by_cases hix : i = x
          · exact hvF hix
          · rw [getD_set_ne false hix] at hl
            exact hFst _ _ (hxe hix) (hi.post hl)
        · have h0 := stab A _ ⟨hLav.av t A ht⟩ (hi.hL t A ht hn)
          cases hod : o.dst with
          | none => exact h0
          | some d =>
            have : d ≠ t := fun e => hn i him (by rw [hdst, hod, e])
            rw [eval_put_ne this]
            exact h0
        · by_cases hji : j = i
          · subst hji
            rw [hdst] at hd
            rw [hd, eval_put_same (by rw [hi.size]; exact f2 d hd)]
            exact hv
          · have hl' : listed.getD j false = true := by rwa [getD_set_ne false (Ne.symm hji)] at hl
            have hcj' : listed.getD x true = false ∨ fr j = true ∨ j = x := by
              by_cases hix : i = x
              · exact .inl (hix ▸ hu)
              · rw [getD_set_ne true hix] at hcj
                exact hcj
            have h1 := hi.hA j hj hl' hcj' d hd
            have h0 : (As j).p (a.eval (.tmp d)) w' := by
              by_cases hix : i = x
              · refine stab _ _ (hxa hix j hj (fun h => hji (h.trans hix.symm)) ?_) h1
                rcases hcj with h | h | h
                · have hxl : x < listed.size := by omega
                  subst hix
                  simp [hxl] at h
                · exact h
                · exact absurd (h.trans hix.symm) hji
              · exact (As j).st _ _ _ (hxe hix) h1
            cases hod : o.dst with
            | none => exact h0
            | some d' =>
              have : d' ≠ d := fun e => f4 j hj hji d' hod (by rw [hd, e])
              rw [eval_put_ne this]
              exact h0
    unfold wpOpIn
    simp only [ho]
    by_cases hix : i = x
    · obtain ⟨hgd, hxo⟩ := hX o (hix ▸ ho)
      have hw : Region.wanted o (yielded ops a.tmps) = true := by unfold Region.wanted; rw [hgd]
      rw [if_pos hw]
      have hpre : Ext w0 w := hi.pre (hix ▸ hu)
      exact (hxo.out a.eval w hpre (hix ▸ ops1)).wp fun v w' hv => step v w' hv.1 (fun h => absurd hix h) (fun _ j hj hjx => by
        have hoj : ops[j]? = some (ops[j]'(by omega)) := by simp
        exact fun hfj => ((hops j _ hj hjx hoj).2 hfj).2) (hix ▸ hv.2.1) (fun _ => hv.2.2)
    · have hg : if Region.wanted o (yielded ops a.tmps) then OpR P o a.eval w (fun v w' => Ext w w' ∧ (As i).p v w') else (As i).p undef w := by
        cases hfr : fr i with
        | true => exact ((hops i o him hix ho).2 hfr).1 w hi.ext a w (Ext.rfl' w) ops1 (fun d B hd hB => byLook d (.inr hd) B hB)
        | false => exact (hops i o him hix ho).1 hfr a w (hi.pre (hxun hix hfr)) ops1 (fun d B hd hB => byLook d (.inr hd) B hB)
      split
      · rename_i hw
        rw [if_pos hw] at hg
        exact (hg.wp fun v w' hv => step v w' (Ext.chg hv.1 S) (fun _ => hv.1) (fun h => absurd h hix) hv.2 (fun h => absurd h hix))
      · rename_i hw
        rw [if_neg hw] at hg
        exact ⟨fun _ _ => trivial, step undef w (Chg.rfl' S w) (fun _ => Ext.rfl' _) (fun h => absurd h hix) hg (fun h => absurd h hix)⟩

def chkZ (ops : Array Oper) (m : Nat) (fr : List Bool) : Bool :=
  ((List.range (m - 1)).all fun j => frF fr j || covers ops 12 (m - 1) j) &&
  ((List.range (m - 1)).all fun i => !frF fr i || match ops[i]? with
    | none => false
    | some o => (tmpsOf o ++ (gdst ops o).toList).all fun t => (List.range m).all fun j => (match dstOf ops j with | some d => !Nat.beq d t | none => true) || (frF fr j && Nat.blt j (m - 1)))
/-- THE RULE: m operations first, the last of them changes blocks of S -/
theorem regZ {id : Nat} {ops : Array Oper} {L : Env} {a : Act} {w : World} (m : Nat) (fr : List Bool) (S : Nat → Prop) (F : World → Prop) (hFst : ∀ w w', Ext w w' → F w → F w') (hmix : P.follows .mixedOrders = true) (hf : FrD n ds a w L) [hL : AvSL S L] (hchk : chk ops m n = true) (hchkZ : chkZ ops m fr = true)
    (h : RegZ P ops w S F fr (ops.toList.take m) (fun L' => ∀ a' w', Chg S w w' → F w' → FrD n ds a' w' L' → wpListIn (FW r) 0 P ops Q (ops.toList.drop m) a' w') L L) : (Code.region id ops true).wpIn (FW r) 0 P Q a w := by
  simp only [chk, Bool.and_eq_true, List.all_eq_true, List.mem_range, Bool.or_eq_true, Nat.ble_eq] at hchk
  obtain ⟨⟨hm, h1⟩, h2⟩ := hchk
  refine wpIn_region_any hmix ?_
  have hlen : (ops.toList.take m).length = m := by simp; omega
  obtain ⟨As, hfl, hAs, hX, hK⟩ := RegZ_As (ops := ops) (ops.toList.take m) fr 0 L L (fun j hj => by
    rw [hlen] at hj
    rw [Nat.zero_add, List.getElem?_take, if_pos hj]; simp) h
  rw [hlen] at hK hfl
  have hxm : fr.length = m - 1 := by omega
  have hx : m - 1 < m := by omega
  rw [hxm] at hK hX hAs
  simp only [chkZ, Bool.and_eq_true, List.all_eq_true, List.mem_range, Bool.or_eq_true] at hchkZ
  obtain ⟨z1, z2⟩ := hchkZ
  have hext : Ext w { w with drawn := w.drawn + 1 } := Ext.drew w
  have := wpAny_mainZ (P := P) (ops := ops) (Q := Q) (w0 := w) (n := n) (ds := ds) (m := m) (x := m - 1) (fr := frF fr) (S := S) (r := r) (L := L) (As := As) hx hFst hm h1 (fun i hi hi' => by
      rcases h2 i hi' with h | h
      · simp only [Nat.blt_eq] at h; omega
      · exact h) (fun j hj hjx hfj => by
      rcases z1 j (by omega) with h | h
      · rw [hfj] at h; cases h
      · exact h) (fun i o hi hix hfi ho t ht j hj hd => by
      have := z2 i (by omega)
      rw [hfi, ho] at this
      simp only [Bool.not_true, Bool.false_eq_true, false_or, List.all_eq_true, List.mem_append, Option.mem_toList, List.mem_range, Bool.or_eq_true] at this
      rcases this t ht j hj with h | h
      · rw [hd] at h; simp at h
      · rw [Bool.and_eq_true, Nat.blt_eq] at h
        exact ⟨h.1, by omega⟩) (fun j o hj hjx ho => hAs j o (by omega) (by simpa using ho)) (fun o ho => hX o (by simpa using ho)) hL (fun a w hx hF hf => hK a w hx hF hf) m
    (Array.replicate ops.size false) a { w with drawn := w.drawn + 1 } ?_ (by simp) ?_ ?_ ⟨hext.chg S, fun _ => hext, fun hl => ?_, hf.size, hf.defers, fun t A ht _ => A.st _ _ _ hext (hf.val t A ht), fun i hi hl => ?_⟩
  · rwa [show m + (ops.size - m) = ops.size by omega] at this
  · have : (List.range m).countP (fun i => !(Array.replicate ops.size false).getD i true) = (List.range m).length := by
      refine List.countP_eq_length.2 fun i hi => ?_
      have := List.mem_range.1 hi
      have hlt : i < ops.size := by omega
      simp [hlt]
    simpa using this
  · intro j _ hj
    simp [hj]
  · intro i o hl
    have : (Array.replicate ops.size false).getD i false = false := by
      by_cases hlt : i < ops.size <;> simp [hlt]
    rw [this] at hl; cases hl
  · have : (Array.replicate ops.size false).getD (m - 1) false = false := by
      by_cases hlt : m - 1 < ops.size <;> simp [hlt]
    rw [this] at hl; cases hl
  · have : (Array.replicate ops.size false).getD i false = false := by
      by_cases hlt : i < ops.size <;> simp [hlt]
    rw [this] at hl; cases hl
end
section
variable {P : Program} {w0 : World} {L L2 : Env} {ty : TypeId} {pos : String} {aft : Array Edge}
variable {ops : Array Oper} {rest : List Oper} {K : Env → Prop} {A : VA} {op : Op} {dd : Nat} {S : Nat → Prop} {F : World → Prop} {fr : List Bool}
theorem zf (h : ∀ w1, Chg S w0 w1 → OpC P w1 L ⟨some dd, op, ty, pos, aft, none⟩ A) [hA : AvS S A] (k : RegZ P ops w0 S F fr rest K ((dd, A) :: L) ((dd, A) :: L2)) : RegZ P ops w0 S F (true :: fr) (⟨some dd, op, ty, pos, aft, none⟩ :: rest) K L L2 :=
  ⟨A, fun w1 h1 a w he hv _ => by simp only [Region.wanted, if_true]; exact (h w1 h1).out _ w he hv, hA, k⟩
theorem za (h : OpC P w0 L ⟨some dd, op, ty, pos, aft, none⟩ A) (k : RegZ P ops w0 S F fr rest K ((dd, A) :: L) ((dd, Any) :: L2)) : RegZ P ops w0 S F (false :: fr) (⟨some dd, op, ty, pos, aft, none⟩ :: rest) K L L2 :=
  ⟨A, fun a w he hv _ => by simp only [Region.wanted, if_true]; exact h.out _ w he hv, k⟩
theorem zx {d : Option Nat} (h : XOpZ P w0 S F L ⟨d, op, ty, pos, aft, none⟩ A) (k : K (push d A L2)) : RegZ P ops w0 S F [] [⟨d, op, ty, pos, aft, none⟩] K L L2 := ⟨rfl, A, h, k⟩
end
end Go.Mono
namespace Go.Mono
open Go Go.RowKit
section
variable {P : Program} {w0 : World} {L : Env} {dst : Option Tmp} {ty : TypeId} {pos : String} {aft : Array Edge} {S : Nat → Prop} {F : World → Prop}
theorem xcall2Z {f : FuncId} {x y : Operand} {tys : Array TypeId} {A B C : VA} (hf : Proofs.Enters P f) (hx : opd L x = some B) (hy : opd L y = some C)
    (h : ∀ v u w, Ext w0 w → B.p v w → C.p u w → Calls P f #[v, u] w (fun e w' => ∃ r, e = .returned r ∧ Chg S w w' ∧ A.p r w' ∧ F w')) :
    XOpZ P w0 S F L ⟨dst, .call ⟨.value (.func f), #[x, y], tys⟩, ty, pos, aft, none⟩ A := by
  refine ⟨fun ρ w he hv => ?_⟩
  have hfv : ρ (.func f) = .func (.func f) #[] #[] := hv (.func f) (by simp [Op.operands, Call.operands]) _ rfl
  have hrun : (execOp ρ ⟨dst, .call ⟨.value (.func f), #[x, y], tys⟩, ty, pos, aft, none⟩).run P w = .ok (.enter f (#[x, y].map ρ)) w := by
    simp [execOp, resolve, hfv, Deferred.ofValue, invoke, hf #[ρ x, ρ y] w]
  simp only [OpR, hrun]
  have := h (ρ x) (ρ y) w he (hv x (by simp [Op.operands, Call.operands]) _ hx) (hv y (by simp [Op.operands, Call.operands]) _ hy)
  simpa using this
/-- an own slice as an assertion -/
def OwA {α : Type} (e : Enc α) (ty : TypeId) (B : Nat) (G : Nat → Prop) (xs : List α) : VA := ⟨fun v w => OwR e ty B G w xs v, fun v w w' k h => h.ext k⟩
end
end Go.Mono

namespace Go.Mono
open Go Go.Proofs Go.RowKit

theorem cloneO_spec {G : Nat → Prop} (t : List Int) (v : Value) (W : World) (h : (Dv (slE intE) G t).p v W) (hl : t.length ≤ 4096) :
    Calls Tryz.prog 85 #[v] W (Post (OwA intE 3 W.heap.size Go.Mono.G0 t) W) := by
  have hG : ∀ b, Go.Mono.G0 b → b < W.heap.size := fun b hb => hb.elim
  have HV : (Dv (slE intE) (GB W Go.Mono.G0) t).p v W := Dv.toB (Dv.weak h fun b _ hb => hb.elim)
  have hv : ∃ ao n c, v = .slice ao n c ∧ (ao = none → t = [] ∧ v = .slice none 0 0) := by
    rcases Dv.sl.1 h with ⟨rfl, rfl⟩ | ⟨ad, cap, cs, rfl, _⟩
    · exact ⟨none, 0, 0, rfl, fun _ => ⟨rfl, rfl⟩⟩
    · exact ⟨_, _, _, rfl, fun h => by cases h⟩
  obtain ⟨ao, n, c, hv1, hv2⟩ := hv
  refine enter (args := [v]) (As := [E v]) Tryz.func85 rfl Tryz.ntmps85 (Nat.le_of_ble_eq_true rfl) ?_ (fun a hf => ?_) (Nat.le_of_ble_eq_true rfl)
  rotate_left
  dsimp only [params, Nat.reduceAdd] at hf
  rotate_right
  · exact arg1 rfl
  have e := Ext.rfl' W
  rw [hv1] at hf
  repeat refine seq ?_
  refine regn0 ?_
  refine tl_as hf rfl (by decide) fun a hf => ?_
  refine tl_nil ?_
  repeat refine seq ?_
  refine regn 2 hf (by decide +kernel) ?_
  refine st (mv rfl) ?_
  refine st (eqlNil Tryz.underlying59 rfl) ?_
  refine en fun a w e' hf => ?_
  replace HV := Dv.ex HV e'
  replace e := Ext.tr e e'
  clear e'
  refine tl_nil ?_
  repeat refine seq ?_
  refine ifc hf rfl (fun hb => ?_) (fun hb => ?_)
  · have hn : ao = none := by cases ao <;> simp at hb ⊢
    obtain ⟨h1, _⟩ := hv2 hn
    subst h1
    repeat refine seq ?_
    refine regn0 ?_
    refine tl_as hf rfl (by decide) fun a hf => ?_
    refine tl_nil ?_
    refine wret ?_
    try simp only [Exit.then, Exit.inBlock]
    refine ret1 rfl hf rfl ?_
    rintro _ rfl
    exact ⟨_, rfl, e, (OwR.nil intE _ e.size hG)⟩
  · refine wskip ?_
    try simp only [Exit.then, Exit.inBlock, ↓reduceIte]
    repeat refine seq ?_
    refine regn0 ?_
    refine tl_bsl0 W.heap.size Go.Mono.G0 intE Tryz.underlying59 S3 hf (by decide) e.size hG fun a v w e' hov Ho hf => ?_
    replace HV := Dv.ex HV e'
    replace e := Ext.tr e e'
    clear e'
    refine tl_op hf (by decide) (mv rfl) fun a w e' hf => ?_
    replace HV := Dv.ex HV e'
    replace e := Ext.tr e e'
    replace Ho := Ho.ext e'
    clear e'
    haveI hin : ∀ G0, InR (GB W G0) _ := OwR.inGB (W := W) Ho (Nat.le_refl _)
    refine tl_app Tryz.underlying59 I3 rfl rfl hf (by decide) rfl Ho (isE rfl (by rw [← hv1]; exact Dv.weak HV fun b _ hb => hb.elim (fun h => h.elim) (fun h => .inr (Ho.row (Nat.le_refl _) b h)))) (by simp only [List.length_nil]; omega) (by simp only [List.length_nil, maxLen]; omega) fun a v w hg hat Hn hf => ?_
    replace e := e.gro hg (Ho.row (W := W) (Nat.le_refl _))
    replace Ho := Hn; clear Hn hg hat hin
    refine tl_as hf rfl (by decide) fun a hf => ?_
    refine tl_nil ?_
    refine wret ?_
    try simp only [Exit.then, Exit.inBlock]
    refine ret1 rfl hf rfl ?_
    rintro _ rfl
    exact ⟨_, rfl, e, (by have := Ho; rw [List.nil_append] at this; exact this)⟩

theorem gi_mem {l : List Int} {x : Int} (h : x ∈ l) : ∃ i, i < l.length ∧ gi l i = x := by
  obtain ⟨i, hi⟩ := List.mem_iff_getElem?.1 h
  exact ⟨i, (List.getElem?_eq_some_iff.1 hi).1, by simp [gi, hi]⟩
/-- what the row holds while DeleteFunc runs: of the first j numbers those that stay, then the rest as it was -/
structure Del (q : Int → Bool) (l : List Int) (cap j i : Nat) (cur : Array Value) : Prop where
  size : cur.size = cap
  ni : ((l.take j).filter q).length = i
  low : cur.toList.take i = ((l.take j).filter q).map (Value.int .i64)
  high : ∀ k, j ≤ k → k < l.length → cur[k]? = some (I (gi l k))
  lt : i < j
theorem Del.keep {q : Int → Bool} {l : List Int} {cap j i : Nat} {cur : Array Value} (h : Del q l cap j i cur) (hj : j < l.length) (hc : l.length ≤ cap) (hq : q (gi l j) = true) : Del q l cap (j + 1) (i + 1) (cur.setIfInBounds i (I (gi l j))) := by
  have hlt := h.lt
  refine ⟨by simp [h.size], ?_, ?_, fun k h1 h2 => ?_, by omega⟩
  · rw [filter_take q hj, if_pos hq, List.length_append, h.ni]; rfl
  · have hil : i < cur.toList.length := by rw [Array.length_toList, h.size]; omega
    rw [filter_take q hj, if_pos hq, List.map_append, ← h.low, Array.toList_setIfInBounds, List.take_succ_eq_append_getElem (by simpa using hil), List.take_set_of_le (Nat.le_refl _)]
    simp
  · rw [Array.getElem?_setIfInBounds_ne (by omega)]
    exact h.high k (by omega) h2
theorem Del.drop {q : Int → Bool} {l : List Int} {cap j i : Nat} {cur : Array Value} (h : Del q l cap j i cur) (hj : j < l.length) (hq : q (gi l j) = false) : Del q l cap (j + 1) i cur :=
  ⟨h.size, by rw [filter_take q hj, if_neg (by rw [hq]; decide), h.ni], by rw [filter_take q hj, if_neg (by rw [hq]; decide), h.low], fun k h1 h2 => h.high k (by omega) h2, by have := h.lt; omega⟩
theorem intC_eq {G : Nat → Prop} {w : World} : ∀ {l : List Int} {cs : List Value}, Cells intE G w l cs → cs = l.map (Value.int .i64)
  | [], cs, h => h
  | x :: l, cs, ⟨c, d, h, h1, h2⟩ => by
    have : c = [I x] := h1
    subst this
    rw [h, intC_eq h2]; rfl

theorem deleteFuncI_spec (l : List Int) (Bz : Nat) (v : Value) (id : FuncId) (caps : Array Value) (p : Int → Bool) (W : World) (hen : Proofs.Enters Tryz.prog id) (ho : OwR intE 3 Bz Go.Mono.G0 W l v)
    (hp : ∀ w x, Chg (fun b => Bz ≤ b) W w → Calls Tryz.prog id (#[I x] ++ caps) w (Post (E (B (p x))) w)) (hl : l.length ≤ 4096) :
    Calls Tryz.prog 84 #[v, .func (.func id) #[] caps] W (fun e w' => ∃ u, e = .returned u ∧ Chg (fun b => Bz ≤ b) W w' ∧ (Dv (slE intE) (fun b => b < Bz) (l.filter fun x => !p x)).p u w' ∧ True) := by
  obtain ⟨q, hq⟩ : ∃ q : Int → Bool, q = fun x => !p x := ⟨_, rfl⟩
  refine enter (args := [v, .func (.func id) #[] caps]) (As := [E v, E (.func (.func id) #[] caps)]) Tryz.func84 rfl Tryz.ntmps84 (Nat.le_of_ble_eq_true rfl) ?_ (fun a hf => ?_) (Nat.le_of_ble_eq_true rfl)
  rotate_left
  dsimp only [params, Nat.reduceAdd] at hf
  rotate_right
  · exact arg2 rfl rfl
  have e := Ext.rfl' W
  repeat refine seq ?_
  refine regn0 ?_
  refine tl_as hf rfl (by decide) fun a hf => ?_
  refine tl_nil ?_
  repeat refine seq ?_
  refine regn 3 hf (by decide +kernel) ?_
  refine st (mv rfl) ?_
  refine st (mv rfl) ?_
  refine st (call2 En127 rfl rfl (fun v u w he h h' => by cases h; cases h'; exact indexFuncI_spec l _ id caps p w hen (ho.ext he).sl (fun w' x he' => hp w' x ((Ext.tr e (Ext.tr he he')).chg _)) hl)) ?_
  refine en fun a w e' hf => ?_
  replace ho := ho.ext e'
  replace e := Ext.tr e e'
  clear e'
  refine tl_as hf rfl (by decide) fun a hf => ?_
  refine tl_nil ?_
  rcases fstN_cases (fun i => p (gi l i)) l.length with ⟨hi, hall⟩ | ⟨i0, hi0, hi, hit, hall⟩
  · repeat refine seq ?_
    refine regn 2 hf (by decide +kernel) ?_
    refine st (mv rfl) ?_
    refine st ((eql rfl rfl).eq (congrArg Value.bool (show (fstI p l == -1) = true from by rw [fstI, hi]; rfl))) ?_
    refine en fun a w e' hf => ?_
    replace ho := ho.ext e'
    replace e := Ext.tr e e'
    clear e'
    refine tl_nil ?_
    repeat refine seq ?_
    refine ifc hf rfl (fun _ => ?_) (fun h => by cases h)
    have hfl : (l.filter fun x => !p x) = l := List.filter_eq_self.2 fun x hx => by
      obtain ⟨i, h1, h2⟩ := gi_mem hx
      have := hall i h1
      simp only [h2] at this
      rw [this]; rfl
    repeat refine seq ?_
    refine regn 1 hf (by decide +kernel) ?_
    refine st (mv rfl) ?_
    refine en fun a w e' hf => ?_
    replace ho := ho.ext e'
    replace e := Ext.tr e e'
    clear e'
    refine tl_as hf rfl (by decide) fun a hf => ?_
    refine tl_nil ?_
    refine wret ?_
    try simp only [Exit.then, Exit.inBlock]
    refine ret1 rfl hf rfl ?_
    rintro _ rfl
    exact ⟨_, rfl, e.chg _, by rw [hfl]; exact (OwR.reG ho fun b hb => hb).sl, trivial⟩
  · repeat refine seq ?_
    refine regn 2 hf (by decide +kernel) ?_
    refine st (mv rfl) ?_
    refine st ((eql rfl rfl).eq (congrArg Value.bool (show (fstI p l == -1) = false from by rw [fstI, hi]; simp))) ?_
    refine en fun a w e' hf => ?_
    replace ho := ho.ext e'
    replace e := Ext.tr e e'
    clear e'
    refine tl_nil ?_
    repeat refine seq ?_
    refine ifc hf rfl (fun h => by cases h) (fun _ => ?_)
    refine wskip ?_
    try simp only [Exit.then, Exit.inBlock, ↓reduceIte]
    obtain ⟨cs, ⟨_, hrow⟩, hcs⟩ := ho.own
    rcases hrow with ⟨_, hn⟩ | ⟨g, cap, cur, rfl, hB, hg0, hn, hm, hs, ht⟩
    · omega
    have hcs' := intC_eq hcs
    subst hcs'
    simp only [show (intE).k = 1 from rfl, Nat.mul_one] at hs ht
    have BG : Blk w g cur 3 := hg0
    have D : Del q l cap (i0 + 1) i0 cur := by
      have hcu : ∀ k, k < l.length → cur[k]? = some (I (gi l k)) := fun k hk => by
        have : (cur.toList.take l.length)[k]? = (l.map (Value.int .i64))[k]? := by rw [ht]
        rw [List.getElem?_take, if_pos hk, List.getElem?_map, gi_get hk] at this
        simpa using this
      have hft : ∀ k, k ≤ i0 → (l.take k).filter q = l.take k := fun k hk => List.filter_eq_self.2 fun x hx => by
        obtain ⟨i, hx'⟩ := List.mem_iff_getElem?.1 hx
        rw [List.getElem?_take] at hx'
        split at hx'
        · have := hall i (by omega)
          rw [hq]
          simp only [gi, hx'] at this
          simp [this]
        · cases hx'
      have hf1 : (l.take (i0 + 1)).filter q = l.take i0 := by
        rw [filter_take q hi0, if_neg (by rw [hq]; simp [hit]), hft i0 (Nat.le_refl _)]
      refine ⟨hs, by rw [hf1, List.length_take]; omega, ?_, fun k _ hk => hcu k hk, Nat.lt_succ_self _⟩
      rw [hf1, List.map_take, ← ht, List.take_take, Nat.min_eq_left (by omega)]
    have c : Chg (fun b => Bz ≤ b) W w := e.chg _
    clear ht hs hg0 hcs
    rw [show fstI p l = (i0 : Int) from hi] at hf
    replace hf := hf.keep [0, 1, 5]
    dsimp only [keep, List.filterMap, look, Nat.beq, Option.map] at hf
    repeat refine seq ?_
    refine regn 2 hf (by decide +kernel) ?_
    refine st (mv rfl) ?_
    refine st ((add rfl rfl (by omega)).eq (congrArg (Value.int .i64) (show (i0 : Int) + 1 = ((i0 + 1 : Nat) : Int) from rfl))) ?_
    refine en fun a w e' hf => ?_
    replace c := c.ext e'
    replace BG := BG.ext e'
    clear e'
    refine tl_as hf rfl (by decide) fun a hf => ?_
    refine tl_nil ?_
    replace hf := hf.keep [0, 1, 5, 6]
    dsimp only [keep, List.filterMap, look, Nat.beq, Option.map] at hf
    clear ho e
    repeat refine seq ?_
    refine blk (loopN (fun r0 a w => ∃ (j i : Nat) (cur : Array Value), r0 = l.length - j ∧ j ≤ l.length ∧ Fr 42 a w [(0, E (.slice (some ⟨g, 0, none⟩) l.length cap)), (1, E (.func (.func id) #[] caps)), (5, E (I (i : Nat))), (6, E (I (j : Nat)))] ∧ Chg (fun b => Bz ≤ b) W w ∧ Blk w g cur 3 ∧ Del q l cap j i cur) (l.length - (i0 + 1)) ⟨i0 + 1, i0, cur, rfl, by omega, hf, c, BG, D⟩ ?_)
    clear hf c BG D
    rintro r0 a w ⟨j, i, cur, rfl, hj, hf, c, BG, D⟩
    have hij := D.lt
    repeat refine seq ?_
    refine regn 4 hf (by decide +kernel) ?_
    refine st (mv rfl) ?_
    refine st (mv rfl) ?_
    refine st (lenE Tryz.underlying59 rfl) ?_
    refine st (lss rfl rfl) ?_
    refine en fun a w e' hf => ?_
    replace c := c.ext e'
    replace BG := BG.ext e'
    clear e'
    refine tl_nil ?_
    repeat refine seq ?_
    refine ifc hf rfl (fun hb => wskip ?_) (fun hb => wexit ?_)
    · have hlt : j < l.length := by have := of_decide_eq_true hb; omega
      repeat refine seq ?_
      refine blk ?_
      replace hf := hf.keep [0, 1, 5, 6]
      dsimp only [keep, List.filterMap, look, Nat.beq, Option.map] at hf
      repeat refine seq ?_
      refine regn 4 hf (by decide +kernel) ?_
      refine st (mv rfl) ?_
      refine st (mv rfl) ?_
      refine st (idxS Tryz.underlying59 S3 rfl rfl (by omega)) ?_
      refine st (ld1 T3 rfl BG (show cur[0 + (j : Int).toNat * 1]? = some (I (gi l j)) from by rw [Nat.zero_add, Nat.mul_one]; exact D.high j (Nat.le_refl _) hlt)) ?_
      refine en fun a w e' hf => ?_
      replace c := c.ext e'
      replace BG := BG.ext e'
      clear e'
      refine tl_as hf rfl (by decide) fun a hf => ?_
      refine tl_nil ?_
      repeat refine seq ?_
      refine regn 4 hf (by decide +kernel) ?_
      refine st (mv rfl) ?_
      refine st (mv rfl) ?_
      refine st (callV1 hen rfl rfl (fun v w he h => by cases h; exact hp w _ (c.ext he))) ?_
      refine st (notp rfl) ?_
      refine en fun a w e' hf => ?_
      replace c := c.ext e'
      replace BG := BG.ext e'
      clear e'
      refine tl_nil ?_
      repeat refine seq ?_
      refine ifc hf rfl (fun hb => ?_) (fun hb => ?_)
      · have hqj : q (gi l j) = true := by rw [hq]; exact hb
        replace hf := hf.keep [0, 1, 5, 6, 7]
        dsimp only [keep, List.filterMap, look, Nat.beq, Option.map] at hf
        repeat refine seq ?_
        refine regn 4 hf (by decide +kernel) ?_
        refine st (mv rfl) ?_
        refine st (mv rfl) ?_
        refine st (mv rfl) ?_
        refine st (idxS Tryz.underlying59 S3 rfl rfl (by omega)) ?_
        refine en fun a w e' hf => ?_
        replace c := c.ext e'
        replace BG := BG.ext e'
        clear e'
        refine tl_st1 T3 hf rfl rfl rfl BG (by rw [D.size]; omega) fun w hg hsz BG hf => ?_
        replace c := c.gr hg (.inl hB)
        clear hg
        refine tl_nil ?_
        rw [show 0 + ((i : Nat) : Int).toNat * 1 = i by omega] at BG
        have D' := D.keep hlt hn hqj
        repeat refine seq ?_
        refine regn 2 hf (by decide +kernel) ?_
        refine st (mv rfl) ?_
        refine st ((add rfl rfl (by omega)).eq (congrArg (Value.int .i64) (show (i : Int) + 1 = ((i + 1 : Nat) : Int) from rfl))) ?_
        refine en fun a w e' hf => ?_
        replace c := c.ext e'
        replace BG := BG.ext e'
        clear e'
        refine tl_as hf rfl (by decide) fun a hf => ?_
        refine tl_nil ?_
        try simp only [Exit.then, Exit.inBlock, ↓reduceIte]
        replace hf := hf.keep [0, 1, 5, 6]
        dsimp only [keep, List.filterMap, look, Nat.beq, Option.map] at hf
        repeat refine seq ?_
        refine regn 2 hf (by decide +kernel) ?_
        refine st (mv rfl) ?_
        refine st ((add rfl rfl (by omega)).eq (congrArg (Value.int .i64) (show (j : Int) + 1 = ((j + 1 : Nat) : Int) from rfl))) ?_
        refine en fun a w e' hf => ?_
        replace c := c.ext e'
        replace BG := BG.ext e'
        clear e'
        refine tl_as hf rfl (by decide) fun a hf => ?_
        refine tl_nil ?_
        replace hf := hf.keep [0, 1, 5, 6]
        dsimp only [keep, List.filterMap, look, Nat.beq, Option.map] at hf
        exact ⟨l.length - (j + 1), by omega, j + 1, i + 1, _, rfl, by omega, hf, c, BG, D'⟩
      · have hqj : q (gi l j) = false := by rw [hq]; exact hb
        have D' := D.drop hlt hqj
        refine wskip ?_
        try simp only [Exit.then, Exit.inBlock, ↓reduceIte]
        replace hf := hf.keep [0, 1, 5, 6]
        dsimp only [keep, List.filterMap, look, Nat.beq, Option.map] at hf
        repeat refine seq ?_
        refine regn 2 hf (by decide +kernel) ?_
        refine st (mv rfl) ?_
        refine st ((add rfl rfl (by omega)).eq (congrArg (Value.int .i64) (show (j : Int) + 1 = ((j + 1 : Nat) : Int) from rfl))) ?_
        refine en fun a w e' hf => ?_
        replace c := c.ext e'
        replace BG := BG.ext e'
        clear e'
        refine tl_as hf rfl (by decide) fun a hf => ?_
        refine tl_nil ?_
        replace hf := hf.keep [0, 1, 5, 6]
        dsimp only [keep, List.filterMap, look, Nat.beq, Option.map] at hf
        exact ⟨l.length - (j + 1), by omega, j + 1, i, cur, rfl, by omega, hf, c, BG, D'⟩
    · obtain rfl : j = l.length := by have := of_decide_eq_false hb; omega
      simp only [Exit.then, Exit.inBlock, ↓reduceIte]
      replace hf := hf.keep [0, 1, 5, 6]
      dsimp only [keep, List.filterMap, look, Nat.beq, Option.map] at hf
      have hsz := D.size
      repeat refine seq ?_
      refine regn 3 hf (by decide +kernel) ?_
      refine st (mv rfl) ?_
      refine st (mv rfl) ?_
      refine st (slcLo Tryz.underlying59 S3 rfl rfl (by omega) (by omega)) ?_
      refine en fun a w e' hf => ?_
      replace c := c.ext e'
      replace BG := BG.ext e'
      clear e'
      refine tl_clear Tryz.underlying59 I3 rfl rfl hf rfl BG (by omega) (by omega) (fun k hk => by first | cases hk | (cases hk; decide)) fun a w hg hsz BG hf => ?_
      replace c := c.gr hg (.inl hB)
      clear hg
      refine tl_nil ?_
      replace hf := hf.keep [0, 1, 5, 6]
      dsimp only [keep, List.filterMap, look, Nat.beq, Option.map] at hf
      repeat refine seq ?_
      refine regn 3 hf (by decide +kernel) ?_
      refine st (mv rfl) ?_
      refine st (mv rfl) ?_
      refine st (slcHi Tryz.underlying59 S3 rfl rfl (by omega)) ?_
      refine en fun a w e' hf => ?_
      replace c := c.ext e'
      replace BG := BG.ext e'
      clear e'
      refine tl_as hf rfl (by decide) fun a hf => ?_
      refine tl_nil ?_
      refine wret ?_
      try simp only [Exit.then, Exit.inBlock]
      refine ret1 rfl hf rfl ?_
      rintro _ rfl
      have hlow := D.low
      have hni := D.ni
      rw [List.take_length] at hlow hni
      rw [← hq]
      refine ⟨_, rfl, c, Dv.sl.2 (.inr ⟨⟨g, 0, none⟩, cap, (l.filter q).map (Value.int .i64), ?_, by omega, by show ¬ g < Bz; omega, BG.lt, ints_cells _, fun k u hu => ?_⟩), trivial⟩
      · rw [hni]
      · rw [Addr.add_lit, Nat.zero_add, BG.cell k, List.getElem?_toArray, Nat.zero_add]
        have hk : k < i := by have := (List.getElem?_eq_some_iff.1 hu).1; rw [List.length_map, hni] at this; exact this
        rw [← hlow] at hu
        rw [List.append_assoc, List.getElem?_append_left (by rw [List.length_take, Array.length_toList]; omega)]
        exact hu
end Go.Mono

namespace Go.Mono
open Go Go.Proofs Go.RowKit

/-- the cells of node i -/
def NdC (G : Nat → Prop) (w : World) (cells : Array Value) (i : Nat) (x : Nd) : Prop :=
  ∃ kv lv, cells[0 + i * 5 + 0]? = some kv ∧ cells[0 + i * 5 + 1]? = some lv ∧ cells[0 + i * 5 + 2]? = some (I x.2.2.1) ∧ cells[0 + i * 5 + 3]? = some (I x.2.2.2.1) ∧ cells[0 + i * 5 + 4]? = some (I x.2.2.2.2) ∧
    (Dv (slE intE) G x.1).p kv w ∧ (Dv (slE intE) G x.2.1).p lv w
structure NS (n : Nat) (G : Nat → Prop) (nd : Nat → Nd) (cells : Array Value) (w : World) : Prop where
  size : cells.size = n * 5
  nd : ∀ i, i < n → NdC G w cells i (nd i)
section
variable {n : Nat} {G G' : Nat → Prop} {nd : Nat → Nd} {cells : Array Value} {w w' W : World} {i : Nat}
theorem NS.map (h : NS n G nd cells w) (hd : ∀ (l : List Int) v, (Dv (slE intE) G l).p v w → (Dv (slE intE) G' l).p v w') : NS n G' nd cells w' :=
  ⟨h.size, fun i hi => by
    obtain ⟨kv, lv, h1, h2, h3, h4, h5, h6, h7⟩ := h.nd i hi
    exact ⟨kv, lv, h1, h2, h3, h4, h5, hd _ _ h6, hd _ _ h7⟩⟩
theorem NS.ext (h : NS n G nd cells w) (e : Ext w w') : NS n G nd cells w' := h.map fun l v hv => Dv.ex hv e
theorem NS.gr (h : NS n G nd cells w) {b : Nat} (hg : w.grownBy w' (some b)) (hb : G b) : NS n G nd cells w' := h.map fun l v hv => Dv.gr hv hg hb
theorem NS.ch (h : NS n G nd cells w) {S : Nat → Prop} (k : Chg S w w') (hS : ∀ b, S b → G b) : NS n G nd cells w' := h.map fun l v hv => Dv.ch hv k hS
theorem NS.toB (h : NS n G nd cells W) : NS n (GB W G) nd cells W := h.map fun l v hv => Dv.toB hv
theorem NS.weak (h : NS n G nd cells w) (hG : ∀ b, b < w.heap.size → G' b → G b) : NS n G' nd cells w := h.map fun l v hv => Dv.weak hv hG
theorem NS.congr {nd' : Nat → Nd} (h : NS n G nd cells w) (hn : ∀ i, i < n → nd i = nd' i) : NS n G nd' cells w := ⟨h.size, fun i hi => hn i hi ▸ h.nd i hi⟩
theorem NS.size_at (h : NS n G nd cells w) (hi : i < n) : cells[0 + i * 5 + 2]? = some (I (nd i).2.2.1) := by obtain ⟨kv, lv, h1, h2, h3, h4, h5, h6, h7⟩ := h.nd i hi; exact h3
theorem NS.heavy_at (h : NS n G nd cells w) (hi : i < n) : cells[0 + i * 5 + 3]? = some (I (nd i).2.2.2.1) := by obtain ⟨kv, lv, h1, h2, h3, h4, h5, h6, h7⟩ := h.nd i hi; exact h4
theorem NS.deep_at (h : NS n G nd cells w) (hi : i < n) : cells[0 + i * 5 + 4]? = some (I (nd i).2.2.2.2) := by obtain ⟨kv, lv, h1, h2, h3, h4, h5, h6, h7⟩ := h.nd i hi; exact h5
theorem NS.kids_at (h : NS n G nd cells w) (hi : i < n) : ∃ kv, cells[0 + i * 5 + 0]? = some kv ∧ (Dv (slE intE) G (nd i).1).p kv w := by obtain ⟨kv, lv, h1, h2, h3, h4, h5, h6, h7⟩ := h.nd i hi; exact ⟨kv, h1, h6⟩
/-- node i is x -/
def un (nd : Nat → Nd) (i : Nat) (x : Nd) : Nat → Nd := fun j => if j = i then x else nd j
theorem un_same {x : Nd} : un nd i x i = x := if_pos rfl
theorem un_ne {j : Nat} {x : Nd} (h : j ≠ i) : un nd i x j = nd j := if_neg h
theorem un_un {x y : Nd} : un (un nd i x) i y = un nd i y := by
  funext j
  unfold un
  split <;> rfl
theorem NS.set (h : NS n G nd cells w) {f : Nat} {v : Value} {x : Nd} (hf : f < 5) (hx : NdC G w (cells.setIfInBounds (0 + i * 5 + f) v) i x) : NS n G (un nd i x) (cells.setIfInBounds (0 + i * 5 + f) v) w := by
  refine ⟨by simp [h.size], fun j hj => ?_⟩
  by_cases hji : j = i
  · subst hji; rw [un_same]; exact hx
  · rw [un_ne hji]
    obtain ⟨kv, lv, h1, h2, h3, h4, h5, h6, h7⟩ := h.nd j hj
    refine ⟨kv, lv, ?_, ?_, ?_, ?_, ?_, h6, h7⟩
    all_goals rw [Array.getElem?_setIfInBounds_ne (by omega)]; assumption
theorem NS.bd (h : NS n G nd cells w) (hi : i < n) {f : Nat} (hf : f < 5) : 0 + i * 5 + f < cells.size := by rw [h.size]; omega
theorem NS.set_kids (h : NS n G nd cells w) (hi : i < n) {v : Value} {l : List Int} (hv : (Dv (slE intE) G l).p v w) : NS n G (un nd i (l, (nd i).2)) (cells.setIfInBounds (0 + i * 5 + 0) v) w := by
  obtain ⟨kv, lv, h1, h2, h3, h4, h5, h6, h7⟩ := h.nd i hi
  have hb := h.bd hi (f := 0) (by decide)
  refine h.set (by decide) ⟨v, lv, ?_, ?_, ?_, ?_, ?_, hv, h7⟩
  · simp [Array.getElem?_setIfInBounds]; omega
  all_goals rw [Array.getElem?_setIfInBounds_ne (by omega)]; assumption
theorem NS.set_light (h : NS n G nd cells w) (hi : i < n) {v : Value} {l : List Int} (hv : (Dv (slE intE) G l).p v w) : NS n G (un nd i ((nd i).1, l, (nd i).2.2)) (cells.setIfInBounds (0 + i * 5 + 1) v) w := by
  obtain ⟨kv, lv, h1, h2, h3, h4, h5, h6, h7⟩ := h.nd i hi
  have hb := h.bd hi (f := 1) (by decide)
  refine h.set (by decide) ⟨kv, v, ?_, ?_, ?_, ?_, ?_, h6, hv⟩
  rotate_left
  · simp [Array.getElem?_setIfInBounds]; omega
  all_goals rw [Array.getElem?_setIfInBounds_ne (by omega)]; assumption
theorem NS.set_size (h : NS n G nd cells w) (hi : i < n) (s : Int) : NS n G (un nd i ((nd i).1, (nd i).2.1, s, (nd i).2.2.2)) (cells.setIfInBounds (0 + i * 5 + 2) (I s)) w := by
  obtain ⟨kv, lv, h1, h2, h3, h4, h5, h6, h7⟩ := h.nd i hi
  have hb := h.bd hi (f := 2) (by decide)
  refine h.set (by decide) ⟨kv, lv, ?_, ?_, ?_, ?_, ?_, h6, h7⟩
  rotate_left 2
  · simp [Array.getElem?_setIfInBounds]; omega
  all_goals rw [Array.getElem?_setIfInBounds_ne (by omega)]; assumption
theorem NS.set_heavy (h : NS n G nd cells w) (hi : i < n) (s : Int) : NS n G (un nd i ((nd i).1, (nd i).2.1, (nd i).2.2.1, s, (nd i).2.2.2.2)) (cells.setIfInBounds (0 + i * 5 + 3) (I s)) w := by
  obtain ⟨kv, lv, h1, h2, h3, h4, h5, h6, h7⟩ := h.nd i hi
  have hb := h.bd hi (f := 3) (by decide)
  refine h.set (by decide) ⟨kv, lv, ?_, ?_, ?_, ?_, ?_, h6, h7⟩
  rotate_left 3
  · simp [Array.getElem?_setIfInBounds]; omega
  all_goals rw [Array.getElem?_setIfInBounds_ne (by omega)]; assumption
theorem NS.set_deep (h : NS n G nd cells w) (hi : i < n) (s : Int) : NS n G (un nd i ((nd i).1, (nd i).2.1, (nd i).2.2.1, (nd i).2.2.2.1, s)) (cells.setIfInBounds (0 + i * 5 + 4) (I s)) w := by
  obtain ⟨kv, lv, h1, h2, h3, h4, h5, h6, h7⟩ := h.nd i hi
  have hb := h.bd hi (f := 4) (by decide)
  refine h.set (by decide) ⟨kv, lv, ?_, ?_, ?_, ?_, ?_, h6, h7⟩
  rotate_left 4
  · simp [Array.getElem?_setIfInBounds]; omega
  all_goals rw [Array.getElem?_setIfInBounds_ne (by omega)]; assumption
theorem un_self (nd : Nat → Nd) (i : Nat) : un nd i (nd i) = nd := by
  funext j
  unfold un
  split
  · subst_vars; rfl
  · rfl
theorem NS.size' {k l : List Int} {s hv d : Int} (h : NS n G (un nd i (k, l, s, hv, d)) cells w) (hi : i < n) (s' : Int) : NS n G (un nd i (k, l, s', hv, d)) (cells.setIfInBounds (0 + i * 5 + 2) (I s')) w := by
  have := h.set_size hi s'
  rw [un_un] at this
  simpa only [un_same] using this
theorem NS.heavy' {k l : List Int} {s hv d : Int} (h : NS n G (un nd i (k, l, s, hv, d)) cells w) (hi : i < n) (s' : Int) : NS n G (un nd i (k, l, s, s', d)) (cells.setIfInBounds (0 + i * 5 + 3) (I s')) w := by
  have := h.set_heavy hi s'
  rw [un_un] at this
  simpa only [un_same] using this
theorem NS.light' {k l l' : List Int} {s hv d : Int} {v : Value} (h : NS n G (un nd i (k, l, s, hv, d)) cells w) (hi : i < n) (hl : (Dv (slE intE) G l').p v w) : NS n G (un nd i (k, l', s, hv, d)) (cells.setIfInBounds (0 + i * 5 + 1) v) w := by
  have := h.set_light hi hl
  rw [un_un] at this
  simpa only [un_same] using this
end

theorem new31_spec (x : Int) (b3 bn off : Nat) (hv : Int) (cells : Array Value) (W : World) (B3 : Blk W b3 #[.pointer (some ⟨bn, off, none⟩)] 133) (BN : Blk W bn cells 130) (hc : cells[off + 3]? = some (I hv)) :
    Calls Tryz.prog 86 #[I x, .pointer (some ⟨b3, 0, none⟩)] W (Post (E (B (x == hv))) W) := by
  refine enter (args := [I x, .pointer (some ⟨b3, 0, none⟩)]) (As := [E (I x), E (.pointer (some ⟨b3, 0, none⟩))]) Tryz.func86 rfl Tryz.ntmps86 (Nat.le_of_ble_eq_true rfl) ?_ (fun a hf => ?_) (Nat.le_of_ble_eq_true rfl)
  rotate_left
  dsimp only [params, Nat.reduceAdd] at hf
  rotate_right
  · exact arg2 rfl rfl
  have e := Ext.rfl' W
  repeat refine seq ?_
  refine regn0 ?_
  refine tl_as hf rfl (by decide) fun a hf => ?_
  refine tl_nil ?_
  repeat refine seq ?_
  refine regn 6 hf (by decide +kernel) ?_
  refine st (mv rfl) ?_
  refine st (ld1 T133 rfl B3 rfl) ?_
  refine st (nilE rfl) ?_
  refine st (fldA Tryz.underlying130 rfl T3 (by decide) rfl) ?_
  refine st (ld1 T3 rfl BN hc) ?_
  refine st (eql rfl rfl) ?_
  refine en fun a w e' hf => ?_
  replace e := Ext.tr e e'
  replace B3 := B3.ext e'
  replace BN := BN.ext e'
  clear e'
  refine tl_as hf rfl (by decide) fun a hf => ?_
  refine tl_nil ?_
  refine wret ?_
  try simp only [Exit.then, Exit.inBlock]
  refine ret1 rfl hf rfl ?_
  rintro _ rfl
  exact ⟨_, rfl, e, rfl⟩
end Go.Mono

namespace Go.Mono
open Go Go.RowKit
theorem wf_small {n : Nat} (h : n ≤ 1000000) : (Lit.int .i64 (n : Int)).wf = true := by
  have h1 : IntKind.i64.min = -9223372036854775808 := by decide
  have h2 : IntKind.i64.max = 9223372036854775807 := by decide
  simp only [Lit.wf, h1, h2, Bool.and_eq_true, decide_eq_true_eq]
  omega
section
variable {P : Program} {k e : TypeId} {w w' : World} {b : Nat} {m : Int → Option Int}
theorem MapR.ext {n : Nat} (h : MapR P k e w b n m) (e' : Ext w w') : MapR P k e w' b n m := h.pres (e'.block b h.lt)
theorem MapR.gr {n : Nat} (h : MapR P k e w b n m) {c : Nat} (hg : w.grownBy w' (some c)) (hne : b ≠ c) : MapR P k e w' b n m := h.pres (hg.block b h.lt (by simpa using hne))
theorem MapR.ch {n : Nat} (h : MapR P k e w b n m) {S : Nat → Prop} (c : Chg S w w') (hS : ¬S b) : MapR P k e w' b n m := h.pres (c.block b h.lt hS)
end
section tail
variable {P : Program} {L : Env} {ty : TypeId} {pos : String} {aft : Array Edge} {r : Option Nat} {ds : List Deferred}
variable {ops : Array Oper} {rest : List Oper} {Q : Exit → Act → World → Prop} {n : Nat} {a : Act} {w : World} {x y z : Operand} {k e : TypeId}
/-- m[i] = c -/
theorem tl_mput {t : TypeId} {bm nn : Nat} {m : Int → Option Int} {i c : Int} (hk : P.underlying k = some (.int .i64)) (he : P.underlying e = some (.int .i64)) (ht : P.underlying t = some (.map k e)) (hf : FrD n ds a w L) [hL : AvL bm L] (hx : opd L x = some (E (.map (some bm))))
    (hy : opd L y = some (E (.int .i64 i))) (hz : opd L z = some (E (.int .i64 c))) (hM : MapR P k e w bm nn m) (hn : nn < maxLen) (hi : (Lit.int .i64 i).wf = true) (hc : (Lit.int .i64 c).wf = true)
    (kk : ∀ w', w.grownBy w' (some bm) → MapR P k e w' bm (nn + 1) (fun y => if y = i then some c else m y) → FrD n ds a w' L → wpListIn (FW r) 0 P ops Q rest a w') :
    wpListIn (FW r) 0 P ops Q (⟨none, .mapUpdate t x y z, ty, pos, aft, none⟩ :: rest) a w :=
  wpListIn_plain rfl fun K hK => by
    have hxv : a.eval x = .map (some bm) := hf.opd x _ hx
    have hyv : a.eval y = .int .i64 i := hf.opd y _ hy
    have hzv : a.eval z = .int .i64 c := hf.opd z _ hz
    obtain ⟨w', h1, h2, h3⟩ := run_mapPut hM hk he ht hn hi hc
    refine OpR.wp (R := fun _ w1 => w1 = w') ?_ ?_
    · simp only [OpR, execOp, hxv, hyv, hzv, Sem.run_bind, h1, Result.andThen_ok, Sem.run_pure]
    · rintro _ w1 rfl
      exact hK _ _ (kk _ h3 h2 (hf.gr h3))
end tail
end Go.Mono
namespace Go.Mono
open Go Go.RowKit
section
variable {P : Program} {w0 : World} {L : Env} {dst : Option Tmp} {ty : TypeId} {pos : String} {aft : Array Edge} {g : Option (Nat × Bool)} {t : TypeId}
/-- a struct of three parts, one cell each -/
def B3A (A0 A1 A2 : VA) : VA := ⟨fun v w => ∃ u0 u1 u2, v = .agg #[u0, u1, u2] ∧ A0.p u0 w ∧ A1.p u1 w ∧ A2.p u2 w, fun v w w' e ⟨u0, u1, u2, h, h0, h1, h2⟩ => ⟨u0, u1, u2, h, A0.st _ _ _ e h0, A1.st _ _ _ e h1, A2.st _ _ _ e h2⟩⟩
theorem bld3 {i0 i1 i2 : Operand} {A0 A1 A2 : VA} (h0 : opd L i0 = some A0) (h1 : opd L i1 = some A1) (h2 : opd L i2 = some A2) (hb : ∀ u0 u1 u2 w, A0.p u0 w → A1.p u1 w → A2.p u2 w → P.built t [(0, u0), (1, u1), (2, u2)] = some #[u0, u1, u2]) :
    OpC P w0 L ⟨dst, .build t #[(0, i0), (1, i1), (2, i2)], ty, pos, aft, g⟩ (B3A A0 A1 A2) :=
  opc_pure fun ρ w he hv => by
    have a0 := hv i0 (by simp [Op.operands]) _ h0
    have a1 := hv i1 (by simp [Op.operands]) _ h1
    have a2 := hv i2 (by simp [Op.operands]) _ h2
    refine ⟨.agg #[ρ i0, ρ i1, ρ i2], ?_, _, _, _, rfl, a0, a1, a2⟩
    simp only [execOp, List.map_toArray, List.map_cons, List.map_nil, Sem.run_bind, run_build w t _ _ (by simpa using hb _ _ _ _ a0 a1 a2), Result.andThen_ok, Sem.run_pure]
theorem xcall4Z {S : Nat → Prop} {F : World → Prop} {f : FuncId} {x y z u : Operand} {tys : Array TypeId} {A B C D E' : VA} (hf : Proofs.Enters P f) (hx : opd L x = some B) (hy : opd L y = some C) (hz : opd L z = some D) (hu : opd L u = some E')
    (h : ∀ v1 v2 v3 v4 w, Ext w0 w → B.p v1 w → C.p v2 w → D.p v3 w → E'.p v4 w → Calls P f #[v1, v2, v3, v4] w (fun e w' => ∃ r, e = .returned r ∧ Chg S w w' ∧ A.p r w' ∧ F w')) :
    XOpZ P w0 S F L ⟨dst, .call ⟨.value (.func f), #[x, y, z, u], tys⟩, ty, pos, aft, none⟩ A := by
  refine ⟨fun ρ w he hv => ?_⟩
  have hfv : ρ (.func f) = .func (.func f) #[] #[] := hv (.func f) (by simp [Op.operands, Call.operands]) _ rfl
  have hrun : (execOp ρ ⟨dst, .call ⟨.value (.func f), #[x, y, z, u], tys⟩, ty, pos, aft, none⟩).run P w = .ok (.enter f (#[x, y, z, u].map ρ)) w := by
    simp [execOp, resolve, hfv, Deferred.ofValue, invoke, hf #[ρ x, ρ y, ρ z, ρ u] w]
  simp only [OpR, hrun]
  have := h (ρ x) (ρ y) (ρ z) (ρ u) w he (hv x (by simp [Op.operands, Call.operands]) _ hx) (hv y (by simp [Op.operands, Call.operands]) _ hy) (hv z (by simp [Op.operands, Call.operands]) _ hz) (hv u (by simp [Op.operands, Call.operands]) _ hu)
  simpa using this
theorem Dv.r1 {α : Type} {e : Enc α} {G : Nat → Prop} {x : α} {v : Value} {w : World} (ha : e.agg = false) (h : (Dv e G x).p v w) : e.r G w x [v] := by
  obtain ⟨cs, h1, h2⟩ := h
  have hl := e.len h1
  rw [e.k1 ha] at hl
  match cs, hl with
  | [u], _ =>
    rw [Enc.pack, ha] at h2
    have : v = u := h2
    rw [this]; exact h1
theorem Dv.slF {α : Type} {e : Enc α} {G : Nat → Prop} {xs : List α} {v : Value} {w : World} (h : (Dv (slE e) G xs).p v w) : ∃ ao n c, v = .slice ao n c := by
  rcases Dv.sl.1 h with ⟨rfl, _⟩ | ⟨ad, cap, cs, rfl, _⟩
  · exact ⟨_, _, _, rfl⟩
  · exact ⟨_, _, _, rfl⟩
end
theorem madeCells_get {z : Array Value} {k n i f : Nat} (hz : z.size = k) (hf : f < k) (hi : i < n) : (madeCells z (n * k))[0 + i * k + f]? = z[f]? := by
  have hlt : i * k + f < n * k := by
    have : (i + 1) * k ≤ n * k := Nat.mul_le_mul_right _ hi
    rw [Nat.add_mul, Nat.one_mul] at this
    omega
  have hm : (0 + i * k + f) % z.size = f := by rw [hz, Nat.zero_add, Nat.mul_comm, Nat.mul_add_mod]; exact Nat.mod_eq_of_lt hf
  have hfz : f < z.size := by omega
  rw [madeCells, Array.getElem?_map, Array.getElem?_range, if_pos (by omega)]
  simp only [Option.map_some, hm]
  simp [hfz]
end Go.Mono
namespace Go.Mono
open Go Go.RowKit
/-- a new variable -/
def AlA (B : Nat) (z : Value) (e : TypeId) : VA := ⟨fun v w => ∃ b, B ≤ b ∧ v = .pointer (some ⟨b, 0, none⟩) ∧ Blk w b z.cells e, fun v w w' k ⟨b, h1, h2, h3⟩ => ⟨b, h1, h2, h3.ext k⟩⟩
theorem alD {P : Program} {w0 : World} {L : Env} {dst : Option Tmp} {ty : TypeId} {pos : String} {aft : Array Edge} {g : Option (Nat × Bool)} {e : TypeId} {z : Value} {sz bz : Nat} (hz : (P.info? e).map (fun i => (i.zero, i.size, i.bytes)) = some (some z, sz, bz)) :
    OpC P w0 L ⟨dst, .alloc e, ty, pos, aft, g⟩ (AlA w0.heap.size z e) := by
  refine ⟨fun ρ w he hv => ?_⟩
  obtain ⟨i, hi, hzi, _, _⟩ := info_parts hz
  simp only [OpR, execOp, Instr.alloc, zeroValue, typeInfo, hi, hzi, Sem.run_bind, Sem.run_pure, run_newVar, Result.andThen_ok]
  simp [hi, hzi, run_newVar]
  exact ⟨ext_alloc _ _, _, he.size, rfl, blk_alloc _ _ _⟩
theorem Blk.ne {w : World} {a b : Nat} {cs cs' : Array Value} {t t' : TypeId} (h : Blk w a cs t) (h' : Blk w b cs' t') (ht : t ≠ t') : a ≠ b := by
  rintro rfl
  unfold Blk at h h'
  rw [h] at h'
  simp at h'
  exact ht h'.2
theorem Blk.neM {P : Program} {w : World} {a b : Nat} {cs : Array Value} {t k e : TypeId} {n : Nat} {m : Int → Option Int} (h : Blk w a cs t) (h' : MapR P k e w b n m) : a ≠ b := by
  rintro rfl
  obtain ⟨D, ⟨es, clock, h3, _⟩, _⟩ := h'
  unfold Blk at h
  rw [h] at h3; cases h3
end Go.Mono

namespace Go.Mono
open Go Go.Proofs Go.RowKit

theorem OwR.neB {α : Type} {e : Enc α} {ty : TypeId} {B : Nat} {G : Nat → Prop} {w : World} {xs : List α} {v : Value} (h : OwR e ty B G w xs v) {b : Nat} {cs : Array Value} {t : TypeId} (hb : Blk w b cs t) (ht : t ≠ ty) : v.ownBlock ≠ some b := fun hv => by
  obtain ⟨cs', h1, _⟩ := h.own
  rcases h1.2 with ⟨rfl, _⟩ | ⟨g, cap, cur, rfl, _, hg, _⟩
  · simp [Value.ownBlock] at hv
  · simp only [Value.ownBlock, Option.some.injEq] at hv
    subst hv
    exact (Blk.ne hb hg ht) rfl
theorem OwR.neM {α : Type} {e : Enc α} {ty : TypeId} {B : Nat} {G : Nat → Prop} {w : World} {xs : List α} {v : Value} (h : OwR e ty B G w xs v) {P : Program} {b n : Nat} {k el : TypeId} {m : Int → Option Int} (hb : MapR P k el w b n m) : v.ownBlock ≠ some b := fun hv => by
  obtain ⟨cs', h1, _⟩ := h.own
  rcases h1.2 with ⟨rfl, _⟩ | ⟨g, cap, cur, rfl, _, hg, _⟩
  · simp [Value.ownBlock] at hv
  · simp only [Value.ownBlock, Option.some.injEq] at hv
    subst hv
    exact (Blk.neM (t := ty) (cs := cur) hg hb) rfl
theorem OwR.chE {α : Type} {e : Enc α} [FlE e] {ty : TypeId} {B : Nat} {G : Nat → Prop} {w w' : World} {xs : List α} {v : Value} {S : Nat → Prop} (h : OwR e ty B G w xs v) (c : Chg S w w') (hS : ∀ b, v.ownBlock = some b → ¬S b) : OwR e ty B G w' xs v := by
  obtain ⟨cs, h1, h2⟩ := h.own
  refine ⟨⟨cs, ⟨h1.1, ?_⟩, Cells.fl h2⟩, h.av, Nat.le_trans h.base c.size⟩
  rcases h1.2 with h3 | ⟨g, cap, cur, a1, a2, a3, a4⟩
  · exact .inl h3
  · refine .inr ⟨g, cap, cur, a1, a2, ?_, a4⟩
    rw [c.block g (Array.getElem?_eq_some_iff.1 a3).1 (hS g (by rw [a1]; rfl))]
    exact a3
/-- the end of a function: what a block holds and a slot -/
theorem ret2c {P : Program} {fn : Func} {t u s k : Nat} {R : Ending → World → Prop} {n : Nat} {a : Act} {w : World} {L : Env} {b : Nat} {cs : Array Value} {bt : TypeId} {A : VA} (hr : fn.results = #[.cell t u, .tmp s]) (ht : TI P u true k) (hf : Fr n a w L) (h : look L t = some (E (.pointer (some ⟨b, 0, none⟩)))) (h' : look L s = some A)
    (hb : Blk w b cs bt) (hs : cs.size = k) (hR : ∀ x, A.p x w → R (.returned (.tuple #[.agg cs, x])) w) : bodyPost P fn R .ret a w := by
  have hv : a.tmps.getD t undef = .pointer (some ⟨b, 0, none⟩) := hf.val t _ h
  have hv' : a.tmps[t]?.getD undef = .pointer (some ⟨b, 0, none⟩) := by simpa using hv
  obtain ⟨d, h1, h2⟩ := ht.u
  have hl := run_loadVar_row (P := P) w b bt u cs (0, 0) d hb h1 (by cases d <;> simp_all) (by rw [ht.s, hs])
  exact ⟨hf.defers, .tuple #[.agg cs, a.eval (.tmp s)], by simp [results, hr, Act.eval, hv', asAddr, hl], hR _ (hf.val s A h')⟩
end Go.Mono

namespace Go.Mono
open Go Go.Proofs Go.RowKit

theorem below2_spec {G G2 : Nat → Prop} (t : List (Int × BS)) (v : Value) (W : World) (h : (Dv treeE G t).p v W) (hG : ∀ b, G2 b → b < W.heap.size) (hl : t.length ≤ 4096) (hr : Rng t) :
    Calls Tryz.prog 122 #[v] W (Post (Dv (slE (slE intE)) G2 (belowT t)) W) := by
  refine enter (args := [v]) (As := [Dv treeE (GB W G) t]) Tryz.func122 rfl Tryz.ntmps122 (Nat.le_of_ble_eq_true rfl) ?_ (fun a hf => ?_) (Nat.le_of_ble_eq_true rfl)
  rotate_left
  dsimp only [params, Nat.reduceAdd] at hf
  rotate_right
  · exact arg1 (Dv.toB h)
  have e := Ext.rfl' W
  repeat refine seq ?_
  refine regn0 ?_
  refine tl_as hf rfl (by decide) fun a hf => ?_
  refine tl_nil ?_
  repeat refine seq ?_
  refine regn 2 hf (by decide +kernel) ?_
  refine st (mv rfl) ?_
  refine st (lenD Tryz.underlying23 (isR rfl)) ?_
  refine en fun a w e' hf => ?_
  replace e := Ext.tr e e'
  clear e'
  refine tl_mk Tryz.underlying127 I59 rfl hf (by decide) rfl (by omega) (by decide) fun a b8 w e' hb8 hs8 B8 hf => ?_
  have hle8 := Nat.le_trans e.size (Nat.le_of_eq hb8.symm)
  replace e := Ext.tr e e'
  clear e'
  refine tl_as hf rfl (by decide) fun a hf => ?_
  refine tl_nil ?_
  have HR : Rows 3 W.heap.size G2 w b8 (belowTo t 0) (List.replicate t.length (.slice none 0 0)) := by rw [belowTo_zero]; exact Rows.nil e.size hG
  have hlen : (List.replicate t.length (Value.slice none 0 0)).length = t.length := by simp
  repeat refine seq ?_
  refine regn 3 hf (by decide +kernel) ?_
  refine st (mv rfl) ?_
  refine st (lenD Tryz.underlying23 (isR rfl)) ?_
  refine st (mv rfl) ?_
  refine en fun a w e' hf => ?_
  replace e := Ext.tr e e'
  replace B8 := B8.ext e'
  replace HR := HR.ext e'
  clear e'
  refine tl_nil ?_
  replace hf := hf.keep [3, 9, 10, 11]
  dsimp only [keep, List.filterMap, look, Nat.beq, Option.map] at hf
  repeat refine seq ?_
  refine blk (loopN (fun r0 a w => ∃ (k : Nat) (vs : List Value), r0 = t.length - k ∧ k ≤ t.length ∧ Fr 33 a w [(3, E (.slice (some ⟨b8, 0, none⟩) t.length t.length)), (9, Dv treeE (GB W G) t), (10, E (I (t.length : Nat))), (11, E (I k))] ∧ Ext W w ∧ Blk w b8 vs.toArray 59 ∧ vs.length = t.length ∧ Rows 3 W.heap.size G2 w b8 (belowTo t k) vs) t.length ⟨0, _, rfl, by omega, hf, e, B8, hlen, HR⟩ ?_)
  clear hf e; try clear B8; try clear hlen; try clear HR
  rintro r0 a w ⟨k, vs, rfl, hk, hf, e, B8, hlen, HR⟩
  repeat refine seq ?_
  refine regn 1 hf (by decide +kernel) ?_
  refine st (lss rfl rfl) ?_
  refine en fun a w e' hf => ?_
  replace e := Ext.tr e e'
  replace B8 := B8.ext e'
  replace HR := HR.ext e'
  clear e'
  refine tl_nil ?_
  repeat refine seq ?_
  refine ifc hf rfl (fun hc => wskip ?_) (fun hc => wexit ?_)
  rotate_left
  rotate_left
  · have hlt : k < t.length := by have := of_decide_eq_true hc; (try dsimp only at this); omega
    clear hc
    replace hf := hf.keep [3, 9, 10, 11]
    dsimp only [keep, List.filterMap, look, Nat.beq, Option.map] at hf
    repeat refine seq ?_
    refine blk ?_
    have hx := bg_get hlt
    have hrk := hr k hlt
    repeat refine seq ?_
    refine regn0 ?_
    refine tl_op hf (by decide) (mv rfl) fun a w e' hf => ?_
    replace e := Ext.tr e e'
    replace B8 := B8.ext e'
    replace HR := HR.ext e'
    clear e'
    refine tl_op hf (by decide) (idxD Tryz.underlying23 S70 (isR rfl) rfl (by omega) (hx)) fun a w e' hf => ?_
    replace e := Ext.tr e e'
    replace B8 := B8.ext e'
    replace HR := HR.ext e'
    clear e'
    refine tl_op hf (by decide) (ldBag T70 (isR rfl)) fun a w e' hf => ?_
    replace e := Ext.tr e e'
    replace B8 := B8.ext e'
    replace HR := HR.ext e'
    clear e'
    refine tl_alloc I70 hf (by decide) fun a b5 w e' hb5 hs5 B5 hf => ?_
    have hle5 := Nat.le_trans e.size (Nat.le_of_eq hb5.symm)
    have ne5_HR := HR.ne_new hb5
    have lt5_B8 := B8.lt
    replace e := Ext.tr e e'
    replace B8 := B8.ext e'
    replace HR := HR.ext e'
    clear e'
    refine tl_as hf rfl (by decide) fun a hf => ?_
    haveI hinr : ∀ G0, InR (GB W G0) (some b5) := fun G0 => InR.gb (by omega)
    refine tl_stW T70 hf rfl rfl (bagC_one _) B5 rfl (bagC_size _) fun w hg hsz B5 hf => ?_
    replace e := e.gr hg (by omega)
    replace B8 := B8.gr hg (by omega)
    replace HR := HR.gr hg (by assumption)
    clear hg
    refine tl_nil ?_
    repeat refine seq ?_
    refine regn 3 hf (by decide +kernel) ?_
    refine st (fldA Tryz.underlying70 rfl T3 (by decide) rfl) ?_
    refine st (ld1 T3 rfl B5 (bagC_0 _)) ?_
    refine st (neq rfl rfl) ?_
    refine en fun a w e' hf => ?_
    replace e := Ext.tr e e'
    replace B8 := B8.ext e'
    replace HR := HR.ext e'
    replace B5 := B5.ext e'
    clear e'
    refine tl_nil ?_
    repeat refine seq ?_
    refine ifc hf rfl (fun hb => ?_) (fun hb => ?_)
    · have hne : (bg t k).1 ≠ -1 := by simpa using hb
      obtain ⟨p, hp⟩ : ∃ p : Nat, (bg t k).1 = (p : Int) := ⟨(bg t k).1.toNat, by omega⟩
      have hpl : p < t.length := by omega
      have hvp : vs[p]? = some (vs[p]'(by omega)) := by simp
      obtain ⟨u, hu⟩ : ∃ u, u = vs[p]'(by omega) := ⟨_, rfl⟩
      rw [← hu] at hvp
      obtain ⟨Ho, hob⟩ := HR.at' p u _ hvp (belowTo_get hpl)
      have n5 : u.ownBlock ≠ some b5 := ne5_HR p u hvp
      have hsel := selN_len (fun i => decide ((bg t i).1 = (p : Int))) k
      haveI hin : ∀ G0, InR (GB W G0) u.ownBlock := OwR.inGB Ho (Nat.le_refl _)
      replace hf := hf.keep [3, 4, 5, 9, 10, 11]
      dsimp only [keep, List.filterMap, look, Nat.beq, Option.map] at hf
      have h8 := B8.lt
      repeat refine seq ?_
      refine regX 12 10 u.ownBlock (by decide) Mix.mix hf (by decide +kernel) ?_
      refine xm (fun w1 h1 => mv rfl) ?_
      refine xm (fun w1 h1 => fldA Tryz.underlying70 rfl T3 (by decide) rfl) ?_
      refine xm (fun w1 h1 => (ld1 T3 rfl (B5.gro h1 n5) (bagC_0 _)).eq (congrArg (Value.int .i64) hp)) ?_
      refine xm (fun w1 h1 => mv rfl) ?_
      refine xm (fun w1 h1 => fldA Tryz.underlying70 rfl T3 (by decide) rfl) ?_
      refine xm (fun w1 h1 => (ld1 T3 rfl (B5.gro h1 n5) (bagC_0 _)).eq (congrArg (Value.int .i64) hp)) ?_
      refine xm (fun w1 h1 => idxS Tryz.underlying127 S59 rfl rfl (by omega)) ?_
      refine xm (fun w1 h1 => ld1 T59 rfl (B8.gro h1 hob) (get_arr hvp)) ?_
      refine xm (fun w1 h1 => mv rfl) ?_
      refine xm (fun w1 h1 => bsl1 Tryz.underlying59 I3 rfl (by decide) rfl (fun b hb => Nat.lt_of_lt_of_le (Ho.avs b hb) h1.size) (isI rfl)) ?_
      refine xx (xapp Tryz.underlying59 I3 rfl rfl rfl Ho rfl (by simp only [List.length_singleton, kidT]; omega) (by simp only [List.length_singleton, kidT, maxLen]; omega)) ?_
      refine xn (fun w1 h1 => idxS Tryz.underlying127 S59 rfl rfl (by omega)) ?_
      refine xe fun a w hg hf => ?_
      obtain ⟨v', ⟨Hn, hat⟩, hf⟩ := hf.fix 29 rfl
      replace e := e.gro hg (Ho.row (Nat.le_refl _))
      replace HR := HR.upd hvp hg Hn hat h8
      replace B8 := B8.gro hg hob
      have hone := Hn.one
      have hbo := HR.ne_bo
      clear Ho Hn hg hat B5
      rw [← belowTo_succ hp hpl] at HR
      replace hf := hf.keep [3, 9, 10, 11, 29, 30]
      dsimp only [keep, List.filterMap, look, Nat.beq, Option.map] at hf
      haveI hinr : ∀ G0, InR (GB W G0) (some b8) := fun G0 => InR.gb (by omega)
      refine tl_st1 T59 hf rfl rfl hone B8 (by simp; omega) fun w hg hsz B8 hf => ?_
      replace e := e.gr hg (by omega)
      replace HR := HR.gr hg hbo
      rw [set_arr] at B8
      refine tl_nil ?_
      try simp only [Exit.then, Exit.inBlock, ↓reduceIte]
      repeat refine seq ?_
      refine regn 1 hf (by decide +kernel) ?_
      refine st ((add rfl rfl (by omega)).eq (congrArg (Value.int .i64) (show (k : Int) + 1 = ((k + 1 : Nat) : Int) from rfl))) ?_
      refine en fun a w e' hf => ?_
      replace e := Ext.tr e e'
      replace B8 := B8.ext e'
      replace HR := HR.ext e'
      clear e'
      refine tl_op hf (by decide) (mv rfl) fun a w e' hf => ?_
      replace e := Ext.tr e e'
      replace B8 := B8.ext e'
      replace HR := HR.ext e'
      clear e'
      refine tl_nil ?_
      replace hf := hf.keep [3, 9, 10, 11]
      dsimp only [keep, List.filterMap, look, Nat.beq, Option.map] at hf
      refine ⟨_, ?_, k + 1, vs.set p v', rfl, by omega, hf, e, ?_⟩
      · omega
      exact ⟨B8, by simpa using hlen, HR⟩
    · have hne : (bg t k).1 = -1 := by simpa using hb
      refine wskip ?_
      try simp only [Exit.then, Exit.inBlock, ↓reduceIte]
      try simp only [Exit.then, Exit.inBlock, ↓reduceIte]
      repeat refine seq ?_
      refine regn 1 hf (by decide +kernel) ?_
      refine st ((add rfl rfl (by omega)).eq (congrArg (Value.int .i64) (show (k : Int) + 1 = ((k + 1 : Nat) : Int) from rfl))) ?_
      refine en fun a w e' hf => ?_
      replace e := Ext.tr e e'
      replace B5 := B5.ext e'
      replace B8 := B8.ext e'
      replace HR := HR.ext e'
      clear e'
      refine tl_op hf (by decide) (mv rfl) fun a w e' hf => ?_
      replace e := Ext.tr e e'
      replace B5 := B5.ext e'
      replace B8 := B8.ext e'
      replace HR := HR.ext e'
      clear e'
      refine tl_nil ?_
      replace hf := hf.keep [3, 9, 10, 11]
      dsimp only [keep, List.filterMap, look, Nat.beq, Option.map] at hf
      refine ⟨_, ?_, k + 1, vs, rfl, by omega, hf, e, ?_⟩
      · omega
      exact ⟨B8, hlen, by rw [belowTo_none hne]; exact HR⟩
  · obtain rfl : k = t.length := by have := of_decide_eq_false hc; (try dsimp only at this); omega
    clear hc
    simp only [Exit.then, Exit.inBlock, ↓reduceIte]
    repeat refine seq ?_
    refine regn 1 hf (by decide +kernel) ?_
    refine st (mv rfl) ?_
    refine en fun a w e' hf => ?_
    replace e := Ext.tr e e'
    replace B8 := B8.ext e'
    replace HR := HR.ext e'
    clear e'
    refine tl_as hf rfl (by decide) fun a hf => ?_
    refine tl_nil ?_
    have hd := HR.dv B8 (fun hg => by have := hG _ hg; omega) (Nat.le_of_eq (belowTo_len t _))
    rw [belowTo_len] at hd
    refine wret ?_
    try simp only [Exit.then, Exit.inBlock]
    refine ret1 rfl hf rfl ?_
    rintro _ rfl
    exact ⟨_, rfl, e, hd⟩
theorem children2_spec {G G2 : Nat → Prop} (t : List (Int × BS)) (f : Nat) (v : Value) (W : World) (h : (Dv treeE G t).p v W) (hG : ∀ b, G2 b → b < W.heap.size) (hl : t.length ≤ 4096)
    (hd : Rng t → (rootN t).length = 1 → Dp t f) (hr : Rng t) (hc : chkT t f = 0) :
    Calls Tryz.prog 78 #[v] W (Post (Dv (slE (slE intE)) G2 (belowT t)) W) := by
  refine enter (args := [v]) (As := [Dv treeE G t]) Tryz.func78 rfl Tryz.ntmps78 (Nat.le_of_ble_eq_true rfl) ?_ (fun a hf => ?_) (Nat.le_of_ble_eq_true rfl)
  rotate_left
  dsimp only [params, Nat.reduceAdd] at hf
  rotate_right
  · exact arg1 h
  have e := Ext.rfl' W
  repeat refine seq ?_
  refine regn0 ?_
  refine tl_as hf rfl (by decide) fun a hf => ?_
  refine tl_nil ?_
  repeat refine seq ?_
  refine regn 3 hf (by decide +kernel) ?_
  refine st (mv rfl) ?_
  refine st (call1 En25 rfl (fun v w he h => chkT_spec t f _ w h hl hd)) ?_
  refine st ((neq rfl rfl).eq (congrArg Value.bool (show (chkT t f != 0) = false from by rw [hc]; rfl))) ?_
  refine en fun a w e' hf => ?_
  replace e := Ext.tr e e'
  clear e'
  refine tl_nil ?_
  repeat refine seq ?_
  refine ifc hf rfl (fun h => by cases h) (fun _ => ?_)
  refine wskip ?_
  try simp only [Exit.then, Exit.inBlock, ↓reduceIte]
  repeat refine seq ?_
  refine regn 2 hf (by decide +kernel) ?_
  refine st (mv rfl) ?_
  refine st (call1 En122 rfl (fun v w he h => below2_spec (G2 := G2) t _ w h (fun b hb => Nat.lt_of_lt_of_le (hG b hb) (Nat.le_trans e.size he.size)) hl hr)) ?_
  refine en fun a w e' hf => ?_
  replace e := Ext.tr e e'
  clear e'
  refine tl_as hf rfl (by decide) fun a hf => ?_
  refine tl_nil ?_
  refine wret ?_
  try simp only [Exit.then, Exit.inBlock]
  refine ret1 rfl hf rfl ?_
  intro v hv
  exact ⟨_, rfl, e, hv⟩

theorem cloneTO_spec {G : Nat → Prop} (t : List (Int × BS)) (v : Value) (W : World) (h : (Dv (slE bagE) G t).p v W) (hl : t.length ≤ 4096) :
    Calls Tryz.prog 112 #[v] W (Post (OwA bagE 70 W.heap.size Go.Mono.G0 t) W) := by
  have hG : ∀ b, Go.Mono.G0 b → b < W.heap.size := fun b hb => hb.elim
  have HV : (Dv (slE bagE) (GB W Go.Mono.G0) t).p v W := Dv.toB (Dv.weak h fun b _ hb => hb.elim)
  have hv : ∃ ao n c, v = .slice ao n c ∧ (ao = none → t = [] ∧ v = .slice none 0 0) := by
    rcases Dv.sl.1 h with ⟨rfl, rfl⟩ | ⟨ad, cap, cs, rfl, _⟩
    · exact ⟨none, 0, 0, rfl, fun _ => ⟨rfl, rfl⟩⟩
    · exact ⟨_, _, _, rfl, fun h => by cases h⟩
  obtain ⟨ao, n, c, hv1, hv2⟩ := hv
  refine enter (args := [v]) (As := [E v]) Tryz.func112 rfl Tryz.ntmps112 (Nat.le_of_ble_eq_true rfl) ?_ (fun a hf => ?_) (Nat.le_of_ble_eq_true rfl)
  rotate_left
  dsimp only [params, Nat.reduceAdd] at hf
  rotate_right
  · exact arg1 rfl
  have e := Ext.rfl' W
  rw [hv1] at hf
  repeat refine seq ?_
  refine regn0 ?_
  refine tl_as hf rfl (by decide) fun a hf => ?_
  refine tl_nil ?_
  repeat refine seq ?_
  refine regn 2 hf (by decide +kernel) ?_
  refine st (mv rfl) ?_
  refine st (eqlNil Tryz.underlying23 rfl) ?_
  refine en fun a w e' hf => ?_
  replace HV := Dv.ex HV e'
  replace e := Ext.tr e e'
  clear e'
  refine tl_nil ?_
  repeat refine seq ?_
  refine ifc hf rfl (fun hb => ?_) (fun hb => ?_)
  · have hn : ao = none := by cases ao <;> simp at hb ⊢
    obtain ⟨h1, _⟩ := hv2 hn
    subst h1
    repeat refine seq ?_
    refine regn0 ?_
    refine tl_as hf rfl (by decide) fun a hf => ?_
    refine tl_nil ?_
    refine wret ?_
    try simp only [Exit.then, Exit.inBlock]
    refine ret1 rfl hf rfl ?_
    rintro _ rfl
    exact ⟨_, rfl, e, (OwR.nil bagE _ e.size hG)⟩
  · refine wskip ?_
    try simp only [Exit.then, Exit.inBlock, ↓reduceIte]
    repeat refine seq ?_
    refine regn0 ?_
    refine tl_bsl0 W.heap.size Go.Mono.G0 bagE Tryz.underlying23 S70 hf (by decide) e.size hG fun a v w e' hov Ho hf => ?_
    replace HV := Dv.ex HV e'
    replace e := Ext.tr e e'
    clear e'
    refine tl_op hf (by decide) (mv rfl) fun a w e' hf => ?_
    replace HV := Dv.ex HV e'
    replace e := Ext.tr e e'
    replace Ho := Ho.ext e'
    clear e'
    haveI hin : ∀ G0, InR (GB W G0) _ := OwR.inGB (W := W) Ho (Nat.le_refl _)
    refine tl_app Tryz.underlying23 I70 rfl rfl hf (by decide) rfl Ho (isE rfl (by rw [← hv1]; exact Dv.weak HV fun b _ hb => hb.elim (fun h => h.elim) (fun h => .inr (Ho.row (Nat.le_refl _) b h)))) (by simp only [List.length_nil]; omega) (by simp only [List.length_nil, maxLen]; omega) fun a v w hg hat Hn hf => ?_
    replace e := e.gro hg (Ho.row (W := W) (Nat.le_refl _))
    replace Ho := Hn; clear Hn hg hat hin
    refine tl_as hf rfl (by decide) fun a hf => ?_
    refine tl_nil ?_
    refine wret ?_
    try simp only [Exit.then, Exit.inBlock]
    refine ret1 rfl hf rfl ?_
    rintro _ rfl
    exact ⟨_, rfl, e, (by have := Ho; rw [List.nil_append] at this; exact this)⟩


theorem OwR.lower {α : Type} {e : Enc α} {ty : TypeId} {B B' : Nat} {G : Nat → Prop} {w : World} {xs : List α} {v : Value} (h : OwR e ty B G w xs v) (hB : B' ≤ B) (hG : ∀ b, G b → b < B') : OwR e ty B' G w xs v := by
  obtain ⟨cs, h1, h2⟩ := h.own
  refine ⟨⟨cs, ⟨h1.1, ?_⟩, h2⟩, hG, Nat.le_trans hB h.base⟩
  rcases h1.2 with h | ⟨g, cap, cur, a1, a2, a3⟩
  · exact .inl h
  · exact .inr ⟨g, cap, cur, a1, Nat.le_trans hB a2, a3⟩
theorem treeCloneO_spec {G : Nat → Prop} (B : Nat) (t : List (Int × BS)) (v : Value) (W : World) (h : (Dv treeE G t).p v W) (hl : t.length ≤ 4096) (hB : B ≤ W.heap.size) :
    Calls Tryz.prog 53 #[v] W (Post (OwA bagE 70 B Go.Mono.G0 t) W) := by
  refine enter (args := [v]) (As := [Dv treeE G t]) Tryz.func53 rfl Tryz.ntmps53 (Nat.le_of_ble_eq_true rfl) ?_ (fun a hf => ?_) (Nat.le_of_ble_eq_true rfl)
  rotate_left
  dsimp only [params, Nat.reduceAdd] at hf
  rotate_right
  · exact arg1 h
  have e := Ext.rfl' W
  repeat refine seq ?_
  refine regn0 ?_
  refine tl_as hf rfl (by decide) fun a hf => ?_
  refine tl_nil ?_
  repeat refine seq ?_
  refine regn 2 hf (by decide +kernel) ?_
  refine st (mv rfl) ?_
  refine st (call1 (A := OwA bagE 70 B Go.Mono.G0 t) En112 rfl (fun v w he h => Calls.mono (cloneTO_spec _ _ w h hl) (fun en w' ⟨u, h1, h2, h3⟩ => ⟨u, h1, h2, OwR.lower (B' := B) h3 (Nat.le_trans hB (Nat.le_trans e.size he.size)) (fun b hb => hb.elim)⟩))) ?_
  refine en fun a w e' hf => ?_
  replace e := Ext.tr e e'
  clear e'
  refine tl_as hf rfl (by decide) fun a hf => ?_
  refine tl_nil ?_
  refine wret ?_
  try simp only [Exit.then, Exit.inBlock]
  refine ret1 rfl hf rfl ?_
  intro v hv
  exact ⟨_, rfl, e, hv⟩
end Go.Mono

namespace Go.Mono
open Go Go.Proofs Go.RowKit

/-- the frame under construction, its box -/
structure FB (w : World) (bF bn bm bf n : Nat) (tv : Value) : Prop where
  f : Blk w bF #[tv, .slice (some ⟨bn, 0, none⟩) n n, .map (some bm)] 92
  p : Blk w bf #[.pointer (some ⟨bF, 0, none⟩)] 27

theorem leave_spec (xs : List RB) (V : Vals xs) (hl : xs.length ≤ 4096) (G : Nat → Prop) (nd : Nat → Nd) (bF bn bm bf b : Nat) (tv : Value) (cells : Array Value) (W : World) (hG : ∀ c, G c → c < W.heap.size) (hGn : G bn) (hbl : b < xs.length) (FBx : FB W bF bn bm bf xs.length tv)
    (BN : Blk W bn cells 130) (HS : NS xs.length G nd cells W) (hk : (nd b).1 = kids xs (b : Nat)) (hkid : ∀ i, i < xs.length → up xs i = (b : Int) → (nd i).2.2.1 = sizeR xs (i : Nat)) :
    Calls Tryz.prog 83 #[I (b : Nat), .pointer (some ⟨bf, 0, none⟩)] W (fun e w' => ∃ v, e = .returned v ∧ Chg (fun c => c = bn) W w' ∧ Any.p v w' ∧
      ∃ cells', Blk w' bn cells' 130 ∧ NS xs.length G (un nd b (kids xs (b : Nat), lightR xs (b : Nat), sizeR xs (b : Nat), heavyR xs (b : Nat), (nd b).2.2.2.2)) cells' w') := by
  obtain ⟨BF, Bf⟩ := FBx
  have hkl := kids_len xs (b : Nat)
  have nFn : bF ≠ bn := fun h => by
    have h1 := BF; have h2 := BN
    rw [h] at h1; unfold Blk at h1 h2; rw [h1] at h2; simp at h2
  have nfn : bf ≠ bn := fun h => by
    have h1 := Bf; have h2 := BN
    rw [h] at h1; unfold Blk at h1 h2; rw [h1] at h2; simp at h2
  have lF := BF.lt
  have lf := Bf.lt
  have ln := BN.lt
  replace HS := HS.toB
  haveI hin : InR (GB W G) (some bn) := ⟨fun c hc => by cases hc; exact .inl hGn⟩
  have hGB : GB W G bn := .inl hGn
  refine enter (args := [I (b : Nat), .pointer (some ⟨bf, 0, none⟩)]) (As := [E (I (b : Nat)), E (.pointer (some ⟨bf, 0, none⟩))]) Tryz.func83 rfl Tryz.ntmps83 (Nat.le_of_ble_eq_true rfl) ?_ (fun a hf => ?_) (Nat.le_of_ble_eq_true rfl)
  rotate_left
  dsimp only [params, Nat.reduceAdd] at hf
  rotate_right
  · exact arg2 rfl rfl
  have c := Chg.rfl' (fun c => c = bn) W
  have hNW := Nat.le_refl W.heap.size
  repeat refine seq ?_
  refine regn0 ?_
  refine tl_op hf (by decide) (ld1 T27 rfl (by assumption) rfl) fun a w e' hf => ?_
  replace hNW := Nat.le_trans hNW e'.size
  replace HS := HS.ext e'
  replace c := c.ext e'
  replace BF := BF.ext e'
  replace Bf := Bf.ext e'
  replace BN := BN.ext e'
  clear e'
  refine tl_op hf (by decide) (nilE rfl) fun a w e' hf => ?_
  replace hNW := Nat.le_trans hNW e'.size
  replace HS := HS.ext e'
  replace c := c.ext e'
  replace BF := BF.ext e'
  replace Bf := Bf.ext e'
  replace BN := BN.ext e'
  clear e'
  refine tl_op hf (by decide) (fldA Tryz.underlying92 rfl T89 (by decide) rfl) fun a w e' hf => ?_
  replace hNW := Nat.le_trans hNW e'.size
  replace HS := HS.ext e'
  replace c := c.ext e'
  replace BF := BF.ext e'
  replace Bf := Bf.ext e'
  replace BN := BN.ext e'
  clear e'
  refine tl_op hf (by decide) (ld1 T89 rfl (by assumption) rfl) fun a w e' hf => ?_
  replace hNW := Nat.le_trans hNW e'.size
  replace HS := HS.ext e'
  replace c := c.ext e'
  replace BF := BF.ext e'
  replace Bf := Bf.ext e'
  replace BN := BN.ext e'
  clear e'
  refine tl_op hf (by decide) (mv rfl) fun a w e' hf => ?_
  replace hNW := Nat.le_trans hNW e'.size
  replace HS := HS.ext e'
  replace c := c.ext e'
  replace BF := BF.ext e'
  replace Bf := Bf.ext e'
  replace BN := BN.ext e'
  clear e'
  refine tl_op hf (by decide) (idxS Tryz.underlying89 S130 rfl rfl (by omega)) fun a w e' hf => ?_
  replace hNW := Nat.le_trans hNW e'.size
  replace HS := HS.ext e'
  replace c := c.ext e'
  replace BF := BF.ext e'
  replace Bf := Bf.ext e'
  replace BN := BN.ext e'
  clear e'
  refine tl_alloc I133 hf (by decide) fun a b3 w e' hb3 hs3 B3 hf => ?_
  have lo3_hNW := Nat.le_trans hNW (Nat.le_of_eq hb3.symm)
  have lt3_BF := BF.lt
  have lt3_Bf := Bf.lt
  have lt3_BN := BN.lt
  replace hNW := Nat.le_trans hNW e'.size
  replace HS := HS.ext e'
  replace c := c.ext e'
  replace BF := BF.ext e'
  replace Bf := Bf.ext e'
  replace BN := BN.ext e'
  clear e'
  haveI hinr : ∀ G0, InR (GB W G0) (some b3) := fun G0 => InR.gb (by omega)
  refine tl_st1 T133 hf rfl rfl rfl B3 (by decide) fun w hg hsz B3 hf => ?_
  replace hNW := Nat.le_trans hNW (Nat.le_of_eq hsz.symm)
  replace HS := HS.gr hg (by first | exact .inl hGn | exact .inr (by omega))
  replace c := c.gr hg (by first | exact .inl rfl | exact .inr (by omega))
  replace BF := BF.gr hg (by omega)
  replace Bf := Bf.gr hg (by omega)
  replace BN := BN.gr hg (by omega)
  clear hg
  refine tl_nil ?_
  have B3' : Blk w b3 #[.pointer (some ⟨bn, 0 + b * 5, none⟩)] 133 := B3
  replace B3 := B3'
  clear B3'
  have hle3 : W.heap.size ≤ b3 := by omega
  have n3 : b3 ≠ bn ∧ b3 ≠ bF ∧ b3 ≠ bf := by omega
  replace hf := hf.keep [0, 1, 3]
  dsimp only [keep, List.filterMap, look, Nat.beq, Option.map] at hf
  have hb5 : ∀ f, f < 5 → 0 + b * 5 + f < cells.size := fun f hf => HS.bd hbl hf
  repeat refine seq ?_
  refine regY 5 4 (some bn) (fun w => Blk w bn (cells.setIfInBounds (0 + b * 5 + 2) (I 1)) 130) (fun w w1 k h => h.ext k) (by decide) Mix.mix hf (by decide +kernel) ?_
  refine ym (fun w1 h1 => ld1 T133 rfl (B3.gr h1 n3.1) rfl) ?_
  refine ym (fun w1 h1 => ld1 T133 rfl (B3.gr h1 n3.1) rfl) ?_
  refine ym (fun w1 h1 => nilE rfl) ?_
  refine ym (fun w1 h1 => fldA Tryz.underlying130 rfl T3 (by decide) rfl) ?_
  refine yx (yst1 T3 rfl rfl rfl BN (hb5 2 (by decide))) ?_
  refine ye fun a w hg HF hf => ?_
  try dsimp only [push] at hf
  have hszY := hg.size
  replace hNW := Nat.le_trans hNW (hg.size)
  replace HS := HS.gr hg (by first | exact .inl hGn | exact .inr (by omega))
  replace c := c.gr hg (by first | exact .inl rfl | exact .inr (by omega))
  replace BF := BF.gr hg (by omega)
  replace Bf := Bf.gr hg (by omega)
  replace B3 := B3.gr hg (by omega)
  replace BN := HF
  clear HF hg
  refine tl_op hf (by decide) (nilE rfl) fun a w e' hf => ?_
  replace hNW := Nat.le_trans hNW e'.size
  replace HS := HS.ext e'
  replace c := c.ext e'
  replace BF := BF.ext e'
  replace Bf := Bf.ext e'
  replace BN := BN.ext e'
  replace B3 := B3.ext e'
  clear e'
  refine tl_op hf (by decide) (fldA Tryz.underlying130 rfl T3 (by decide) rfl) fun a w e' hf => ?_
  replace hNW := Nat.le_trans hNW e'.size
  replace HS := HS.ext e'
  replace c := c.ext e'
  replace BF := BF.ext e'
  replace Bf := Bf.ext e'
  replace BN := BN.ext e'
  replace B3 := B3.ext e'
  clear e'
  refine tl_st1 T3 hf rfl rfl rfl BN (by rw [Array.size_setIfInBounds]; exact hb5 3 (by decide)) fun w hg hsz BN hf => ?_
  replace hNW := Nat.le_trans hNW (Nat.le_of_eq hsz.symm)
  replace HS := HS.gr hg (by first | exact .inl hGn | exact .inr (by omega))
  replace c := c.gr hg (by first | exact .inl rfl | exact .inr (by omega))
  replace BF := BF.gr hg (by omega)
  replace Bf := Bf.gr hg (by omega)
  replace B3 := B3.gr hg (by omega)
  clear hg
  refine tl_nil ?_
  have HS1 : NS xs.length (GB W G) (un nd b (kids xs (b : Nat), (nd b).2.1, szTo xs b 0, hvTo xs (b : Nat) 0, (nd b).2.2.2.2)) ((cells.setIfInBounds (0 + b * 5 + 2) (I 1)).setIfInBounds (0 + b * 5 + 3) (I (-1))) w := by
    rw [← hk]
    have h0 : NS xs.length (GB W G) (un nd b ((nd b).1, (nd b).2.1, (nd b).2.2.1, (nd b).2.2.2.1, (nd b).2.2.2.2)) cells w := by rw [show ((nd b).1, (nd b).2.1, (nd b).2.2.1, (nd b).2.2.2.1, (nd b).2.2.2.2) = nd b from rfl, un_self]; exact HS
    exact (h0.size' hbl 1).heavy' hbl (-1)
  obtain ⟨cells1, BN1, HS2⟩ : ∃ cells1, Blk w bn cells1 130 ∧ NS xs.length (GB W G) (un nd b (kids xs (b : Nat), (nd b).2.1, szTo xs b 0, hvTo xs (b : Nat) 0, (nd b).2.2.2.2)) cells1 w := ⟨_, BN, HS1⟩
  clear BN HS HS1 hb5
  replace BN := BN1
  replace HS := HS2
  clear BN1 HS2
  replace hf := hf.keep [0, 1, 3]
  dsimp only [keep, List.filterMap, look, Nat.beq, Option.map] at hf
  obtain ⟨kv, hkv, HK⟩ := HS.kids_at hbl
  rw [un_same] at HK
  repeat refine seq ?_
  refine regn 6 hf (by decide +kernel) ?_
  refine st (ld1 T133 rfl B3 rfl) ?_
  refine st (nilE rfl) ?_
  refine st (fldA Tryz.underlying130 rfl T59 (by decide) rfl) ?_
  refine st ((ld1 T59 rfl BN hkv).as (A := Dv (slE intE) (GB W G) (kids xs (b : Nat))) HK) ?_
  refine st (lenD Tryz.underlying59 (isR rfl)) ?_
  refine st (mv rfl) ?_
  refine en fun a w e' hf => ?_
  replace hNW := Nat.le_trans hNW e'.size
  replace HS := HS.ext e'
  replace c := c.ext e'
  replace BF := BF.ext e'
  replace Bf := Bf.ext e'
  replace BN := BN.ext e'
  replace B3 := B3.ext e'
  clear e'
  refine tl_nil ?_
  clear hkv HK
  replace hf := hf.keep [0, 1, 3, 21, 22, 23]
  dsimp only [keep, List.filterMap, look, Nat.beq, Option.map] at hf
  repeat refine seq ?_
  refine blk (loopN (fun r0 a w => ∃ (k : Nat) (cells : Array Value), r0 = (kids xs (b : Nat)).length - k ∧ k ≤ (kids xs (b : Nat)).length ∧ Fr 84 a w [(0, E (I (b : Nat))), (1, E (.pointer (some ⟨bf, 0, none⟩))), (3, E (.pointer (some ⟨b3, 0, none⟩))), (21, Dv (slE intE) (GB W G) (kids xs (b : Nat))), (22, E (I ((kids xs (b : Nat)).length : Nat))), (23, E (I k))] ∧
    Chg (fun c => c = bn) W w ∧ Blk w b3 #[.pointer (some ⟨bn, 0 + b * 5, none⟩)] 133 ∧ Blk w bF #[tv, .slice (some ⟨bn, 0, none⟩) xs.length xs.length, .map (some bm)] 92 ∧ Blk w bf #[.pointer (some ⟨bF, 0, none⟩)] 27 ∧ Blk w bn cells 130 ∧
    NS xs.length (GB W G) (un nd b (kids xs (b : Nat), (nd b).2.1, szTo xs b k, hvTo xs (b : Nat) k, (nd b).2.2.2.2)) cells w ∧ W.heap.size ≤ w.heap.size) (kids xs (b : Nat)).length ⟨0, cells1, rfl, by omega, hf, c, B3, BF, Bf, BN, HS, hNW⟩ ?_)
  clear hf c B3 BF Bf BN HS hNW
  rintro r0 a w ⟨k, cells, rfl, hkk, hf, c, B3, BF, Bf, BN, HS, hNW⟩
  repeat refine seq ?_
  refine regn 1 hf (by decide +kernel) ?_
  refine st (lss rfl rfl) ?_
  refine en fun a w e' hf => ?_
  replace hNW := Nat.le_trans hNW e'.size
  replace HS := HS.ext e'
  replace c := c.ext e'
  replace BF := BF.ext e'
  replace Bf := Bf.ext e'
  replace BN := BN.ext e'
  replace B3 := B3.ext e'
  clear e'
  refine tl_nil ?_
  repeat refine seq ?_
  refine ifc hf rfl (fun hc => wskip ?_) (fun hc => wexit ?_)
  · have hlt : k < (kids xs (b : Nat)).length := by have := of_decide_eq_true hc; omega
    clear hc
    obtain ⟨i, i1, i2, i3⟩ := kid_at hlt
    have hib : i ≠ b := fun h => by subst h; have := depth_step V i1 i2; omega
    have hz := szTo_le V hbl k
    have hz' := szTo_le V hbl (k + 1)
    have hg0 := gi_get hlt
    have hs0 := szTo_succ hlt
    have hh0 := hvTo_succ hlt
    rw [i3] at hg0 hs0 hh0
    repeat refine seq ?_
    refine blk ?_
    replace hf := hf.keep [0, 1, 3, 21, 22, 23]
    dsimp only [keep, List.filterMap, look, Nat.beq, Option.map] at hf
    repeat refine seq ?_
    refine regn 2 hf (by decide +kernel) ?_
    refine st (idxD Tryz.underlying59 S3 (isR rfl) rfl (by omega) (hg0)) ?_
    refine st (ldI T3 (isR rfl)) ?_
    refine en fun a w e' hf => ?_
    replace hNW := Nat.le_trans hNW e'.size
    replace HS := HS.ext e'
    replace c := c.ext e'
    replace BF := BF.ext e'
    replace Bf := Bf.ext e'
    replace BN := BN.ext e'
    replace B3 := B3.ext e'
    clear e'
    refine tl_as hf rfl (by decide) fun a hf => ?_
    refine tl_nil ?_
    replace hf := hf.keep [0, 1, 3, 5, 21, 22, 23]
    dsimp only [keep, List.filterMap, look, Nat.beq, Option.map] at hf
    have f2 : cells[0 + b * 5 + 2]? = some (I (szTo xs b k)) := by have := HS.size_at hbl; rwa [un_same] at this
    have fi : cells[0 + i * 5 + 2]? = some (I (sizeR xs (i : Nat))) := by have := HS.size_at i1; rwa [un_ne hib, hkid i i1 i2] at this
    have hb2 := HS.bd hbl (f := 2) (by decide)
    repeat refine seq ?_
    refine reg 15 Mix.mix hf (by decide +kernel) ?_
    refine st (ld1 T133 rfl B3 rfl) ?_
    refine st (nilE rfl) ?_
    refine st (fldA Tryz.underlying130 rfl T3 (by decide) rfl) ?_
    refine st (ld1 T3 rfl BN f2) ?_
    refine st (ld1 T27 rfl (by assumption) rfl) ?_
    refine st (nilE rfl) ?_
    refine st (fldA Tryz.underlying92 rfl T89 (by decide) rfl) ?_
    refine st (ld1 T89 rfl (by assumption) rfl) ?_
    refine st (mv rfl) ?_
    refine st (idxS Tryz.underlying89 S130 rfl rfl (by omega)) ?_
    refine st (fldA Tryz.underlying130 rfl T3 (by decide) rfl) ?_
    refine st (ld1 T3 rfl BN fi) ?_
    refine st ((add rfl rfl (by omega)).eq (congrArg (Value.int .i64) (show szTo xs b k + sizeR xs (i : Nat) = szTo xs b (k + 1) from hs0.symm))) ?_
    refine st (nilE rfl) ?_
    refine st (fldA Tryz.underlying130 rfl T3 (by decide) rfl) ?_
    refine en fun a w e' hf => ?_
    replace hNW := Nat.le_trans hNW e'.size
    replace HS := HS.ext e'
    replace c := c.ext e'
    replace BF := BF.ext e'
    replace Bf := Bf.ext e'
    replace BN := BN.ext e'
    replace B3 := B3.ext e'
    clear e'
    refine tl_st1 T3 hf rfl rfl rfl BN (by exact hb2) fun w hg hsz BN hf => ?_
    replace hNW := Nat.le_trans hNW (Nat.le_of_eq hsz.symm)
    replace HS := HS.gr hg (by first | exact .inl hGn | exact .inr (by omega))
    replace c := c.gr hg (by first | exact .inl rfl | exact .inr (by omega))
    replace BF := BF.gr hg (by omega)
    replace Bf := Bf.gr hg (by omega)
    replace B3 := B3.gr hg (by omega)
    clear hg
    refine tl_nil ?_
    have HS1 := HS.size' hbl (szTo xs b (k + 1))
    obtain ⟨cells1, BN1, HS2⟩ : ∃ cells1, Blk w bn cells1 130 ∧ NS xs.length (GB W G) (un nd b (kids xs (b : Nat), (nd b).2.1, szTo xs b (k + 1), hvTo xs (b : Nat) k, (nd b).2.2.2.2)) cells1 w := ⟨_, BN, HS1⟩
    clear BN HS HS1 f2 fi hb2
    replace BN := BN1
    replace HS := HS2
    clear BN1 HS2 cells
    replace hf := hf.keep [0, 1, 3, 5, 21, 22, 23]
    dsimp only [keep, List.filterMap, look, Nat.beq, Option.map] at hf
    have f3 : cells1[0 + b * 5 + 3]? = some (I (hvTo xs (b : Nat) k)) := by have := HS.heavy_at hbl; rwa [un_same] at this
    have fi : cells1[0 + i * 5 + 2]? = some (I (sizeR xs (i : Nat))) := by have := HS.size_at i1; rwa [un_ne hib, hkid i i1 i2] at this
    have hb3 := HS.bd hbl (f := 3) (by decide)
    obtain ⟨c0, hc0⟩ : ∃ c0 : Bool, c0 = decide (hvTo xs (b : Nat) k < 0 ∨ sizeR xs (hvTo xs (b : Nat) k) < sizeR xs (i : Nat)) := ⟨_, rfl⟩
    repeat refine seq ?_
    refine cut (J := fun a w => Fr 84 a w [(0, E (I (b : Nat))), (1, E (.pointer (some ⟨bf, 0, none⟩))), (3, E (.pointer (some ⟨b3, 0, none⟩))), (5, E (I (i : Nat))), (21, Dv (slE intE) (GB W G) (kids xs (b : Nat))), (22, E (I ((kids xs (b : Nat)).length : Nat))), (23, E (I k)), (68, E (B c0))] ∧
      Chg (fun c => c = bn) W w ∧ Blk w b3 #[.pointer (some ⟨bn, 0 + b * 5, none⟩)] 133 ∧ Blk w bF #[tv, .slice (some ⟨bn, 0, none⟩) xs.length xs.length, .map (some bm)] 92 ∧ Blk w bf #[.pointer (some ⟨bF, 0, none⟩)] 27 ∧ Blk w bn cells1 130 ∧
      NS xs.length (GB W G) (un nd b (kids xs (b : Nat), (nd b).2.1, szTo xs b (k + 1), hvTo xs (b : Nat) k, (nd b).2.2.2.2)) cells1 w ∧ W.heap.size ≤ w.heap.size) ?_ (fun a w hJ => ?_)
    · rcases hvTo_ok k (by omega) with hm | ⟨m, m1, m2, m3⟩
      · have hcT : c0 = true := by rw [hc0]; exact decide_eq_true (.inl (by omega))
        rw [hm] at f3
        repeat refine seq ?_
        refine reg 27 Mix.mix hf (by decide +kernel) ?_
        refine st (ld1 T133 rfl B3 rfl) ?_
        refine st (nilE rfl) ?_
        refine st (fldA Tryz.underlying130 rfl T3 (by decide) rfl) ?_
        refine st (ld1 T3 rfl BN f3) ?_
        refine st ((lss rfl rfl).eq (congrArg Value.bool (show decide ((-1 : Int) < 0) = true from rfl))) ?_
        refine st (mv rfl) ?_
        refine sn rfl rfl rfl ?_
        refine sn rfl rfl rfl ?_
        refine sn rfl rfl rfl ?_
        refine sn rfl rfl rfl ?_
        refine sn rfl rfl rfl ?_
        refine sn rfl rfl rfl ?_
        refine sn rfl rfl rfl ?_
        refine sn rfl rfl rfl ?_
        refine sn rfl rfl rfl ?_
        refine sn rfl rfl rfl ?_
        refine sn rfl rfl rfl ?_
        refine sn rfl rfl rfl ?_
        refine sn rfl rfl rfl ?_
        refine sn rfl rfl rfl ?_
        refine sn rfl rfl rfl ?_
        refine sn rfl rfl rfl ?_
        refine sn rfl rfl rfl ?_
        refine sn rfl rfl rfl ?_
        refine sn rfl rfl rfl ?_
        refine sn rfl rfl rfl ?_
        refine st (pkT rfl rfl) ?_
        refine en fun a w e' hf => ?_
        replace hNW := Nat.le_trans hNW e'.size
        replace HS := HS.ext e'
        replace c := c.ext e'
        replace BF := BF.ext e'
        replace Bf := Bf.ext e'
        replace BN := BN.ext e'
        replace B3 := B3.ext e'
        clear e'
        refine tl_nil ?_
        replace hf := hf.keep [0, 1, 3, 5, 21, 22, 23, 68]
        dsimp only [keep, List.filterMap, look, Nat.beq, Option.map] at hf
        rw [hcT]
        exact ⟨rfl, hf, c, B3, BF, Bf, BN, HS, hNW⟩
      · have hmb : m ≠ b := fun h => by subst h; have := depth_step V m1 m2; omega
        have hcT : c0 = decide (sizeR xs (m : Nat) < sizeR xs (i : Nat)) := by
          rw [hc0, m3, decide_eq_decide]
          exact ⟨fun h => h.elim (fun h => by omega) id, .inr⟩
        rw [m3] at f3
        have fm : cells1[0 + m * 5 + 2]? = some (I (sizeR xs (m : Nat))) := by have := HS.size_at m1; rwa [un_ne hmb, hkid m m1 m2] at this
        repeat refine seq ?_
        refine reg 27 Mix.mix hf (by decide +kernel) ?_
        refine st (ld1 T133 rfl B3 rfl) ?_
        refine st (nilE rfl) ?_
        refine st (fldA Tryz.underlying130 rfl T3 (by decide) rfl) ?_
        refine st (ld1 T3 rfl BN f3) ?_
        refine st ((lss rfl rfl).eq (congrArg Value.bool (show decide ((m : Int) < 0) = false from decide_eq_false (by omega)))) ?_
        refine st (mv rfl) ?_
        refine sy rfl rfl (ld1 T27 rfl (by assumption) rfl) ?_
        refine sy rfl rfl (nilE rfl) ?_
        refine sy rfl rfl (fldA Tryz.underlying92 rfl T89 (by decide) rfl) ?_
        refine sy rfl rfl (ld1 T89 rfl (by assumption) rfl) ?_
        refine sy rfl rfl (mv rfl) ?_
        refine sy rfl rfl (idxS Tryz.underlying89 S130 rfl rfl (by omega)) ?_
        refine sy rfl rfl (fldA Tryz.underlying130 rfl T3 (by decide) rfl) ?_
        refine sy rfl rfl (ld1 T3 rfl BN fi) ?_
        refine sy rfl rfl (ld1 T27 rfl (by assumption) rfl) ?_
        refine sy rfl rfl (nilE rfl) ?_
        refine sy rfl rfl (fldA Tryz.underlying92 rfl T89 (by decide) rfl) ?_
        refine sy rfl rfl (ld1 T89 rfl (by assumption) rfl) ?_
        refine sy rfl rfl (ld1 T133 rfl B3 rfl) ?_
        refine sy rfl rfl (nilE rfl) ?_
        refine sy rfl rfl (fldA Tryz.underlying130 rfl T3 (by decide) rfl) ?_
        refine sy rfl rfl (ld1 T3 rfl BN f3) ?_
        refine sy rfl rfl (idxS Tryz.underlying89 S130 rfl rfl (by omega)) ?_
        refine sy rfl rfl (fldA Tryz.underlying130 rfl T3 (by decide) rfl) ?_
        refine sy rfl rfl (ld1 T3 rfl BN fm) ?_
        refine sy rfl rfl (gtr rfl rfl) ?_
        refine st (pkF rfl rfl) ?_
        refine en fun a w e' hf => ?_
        replace hNW := Nat.le_trans hNW e'.size
        replace HS := HS.ext e'
        replace c := c.ext e'
        replace BF := BF.ext e'
        replace Bf := Bf.ext e'
        replace BN := BN.ext e'
        replace B3 := B3.ext e'
        clear e'
        refine tl_nil ?_
        replace hf := hf.keep [0, 1, 3, 5, 21, 22, 23, 68]
        dsimp only [keep, List.filterMap, look, Nat.beq, Option.map] at hf
        rw [hcT]
        exact ⟨rfl, hf, c, B3, BF, Bf, BN, HS, hNW⟩
    clear hf c B3 BF Bf BN HS hNW
    obtain ⟨hf, c, B3, BF, Bf, BN, HS, hNW⟩ := hJ
    try simp only [Exit.then]
    repeat refine seq ?_
    refine ifc hf rfl (fun hb => ?_) (fun hb => ?_)
    · have hst : hvTo xs (b : Nat) (k + 1) = (i : Int) := by
        rw [hh0, heavyStep, if_pos]
        rw [hc0] at hb
        exact of_decide_eq_true hb
      replace hf := hf.keep [0, 1, 3, 5, 21, 22, 23]
      dsimp only [keep, List.filterMap, look, Nat.beq, Option.map] at hf
      repeat refine seq ?_
      refine regn 4 hf (by decide +kernel) ?_
      refine st (ld1 T133 rfl B3 rfl) ?_
      refine st (mv rfl) ?_
      refine st (nilE rfl) ?_
      refine st (fldA Tryz.underlying130 rfl T3 (by decide) rfl) ?_
      refine en fun a w e' hf => ?_
      replace hNW := Nat.le_trans hNW e'.size
      replace HS := HS.ext e'
      replace c := c.ext e'
      replace BF := BF.ext e'
      replace Bf := Bf.ext e'
      replace BN := BN.ext e'
      replace B3 := B3.ext e'
      clear e'
      refine tl_st1 T3 hf rfl rfl rfl BN (by exact hb3) fun w hg hsz BN hf => ?_
      replace hNW := Nat.le_trans hNW (Nat.le_of_eq hsz.symm)
      replace HS := HS.gr hg (by first | exact .inl hGn | exact .inr (by omega))
      replace c := c.gr hg (by first | exact .inl rfl | exact .inr (by omega))
      replace BF := BF.gr hg (by omega)
      replace Bf := Bf.gr hg (by omega)
      replace B3 := B3.gr hg (by omega)
      clear hg
      refine tl_nil ?_
      have HS1 := HS.heavy' hbl (i : Int)
      obtain ⟨cells2, BN1, HS2⟩ : ∃ cells2, Blk w bn cells2 130 ∧ NS xs.length (GB W G) (un nd b (kids xs (b : Nat), (nd b).2.1, szTo xs b (k + 1), hvTo xs (b : Nat) (k + 1), (nd b).2.2.2.2)) cells2 w := ⟨_, BN, by rw [hst]; exact HS1⟩
      clear BN HS HS1 f3 fi hb3
      replace BN := BN1
      replace HS := HS2
      clear BN1 HS2
      try simp only [Exit.then, Exit.inBlock, ↓reduceIte]
      replace hf := hf.keep [0, 1, 3, 21, 22, 23]
      dsimp only [keep, List.filterMap, look, Nat.beq, Option.map] at hf
      repeat refine seq ?_
      refine regn 1 hf (by decide +kernel) ?_
      refine st ((add rfl rfl (by omega)).eq (congrArg (Value.int .i64) (show (k : Int) + 1 = ((k + 1 : Nat) : Int) from rfl))) ?_
      refine en fun a w e' hf => ?_
      replace hNW := Nat.le_trans hNW e'.size
      replace HS := HS.ext e'
      replace c := c.ext e'
      replace BF := BF.ext e'
      replace Bf := Bf.ext e'
      replace BN := BN.ext e'
      replace B3 := B3.ext e'
      clear e'
      refine tl_op hf (by decide) (mv rfl) fun a w e' hf => ?_
      replace hNW := Nat.le_trans hNW e'.size
      replace HS := HS.ext e'
      replace c := c.ext e'
      replace BF := BF.ext e'
      replace Bf := Bf.ext e'
      replace BN := BN.ext e'
      replace B3 := B3.ext e'
      clear e'
      refine tl_nil ?_
      replace hf := hf.keep [0, 1, 3, 21, 22, 23]
      dsimp only [keep, List.filterMap, look, Nat.beq, Option.map] at hf
      exact ⟨(kids xs (b : Nat)).length - (k + 1), by omega, k + 1, _, rfl, by omega, hf, c, B3, BF, Bf, BN, HS, hNW⟩
    · have hst : hvTo xs (b : Nat) (k + 1) = hvTo xs (b : Nat) k := by
        rw [hh0, heavyStep, if_neg]
        rw [hc0] at hb
        exact of_decide_eq_false hb
      rw [← hst] at HS
      refine wskip ?_
      try simp only [Exit.then, Exit.inBlock, ↓reduceIte]
      replace hf := hf.keep [0, 1, 3, 21, 22, 23]
      dsimp only [keep, List.filterMap, look, Nat.beq, Option.map] at hf
      repeat refine seq ?_
      refine regn 1 hf (by decide +kernel) ?_
      refine st ((add rfl rfl (by omega)).eq (congrArg (Value.int .i64) (show (k : Int) + 1 = ((k + 1 : Nat) : Int) from rfl))) ?_
      refine en fun a w e' hf => ?_
      replace hNW := Nat.le_trans hNW e'.size
      replace HS := HS.ext e'
      replace c := c.ext e'
      replace BF := BF.ext e'
      replace Bf := Bf.ext e'
      replace BN := BN.ext e'
      replace B3 := B3.ext e'
      clear e'
      refine tl_op hf (by decide) (mv rfl) fun a w e' hf => ?_
      replace hNW := Nat.le_trans hNW e'.size
      replace HS := HS.ext e'
      replace c := c.ext e'
      replace BF := BF.ext e'
      replace Bf := Bf.ext e'
      replace BN := BN.ext e'
      replace B3 := B3.ext e'
      clear e'
      refine tl_nil ?_
      replace hf := hf.keep [0, 1, 3, 21, 22, 23]
      dsimp only [keep, List.filterMap, look, Nat.beq, Option.map] at hf
      exact ⟨(kids xs (b : Nat)).length - (k + 1), by omega, k + 1, _, rfl, by omega, hf, c, B3, BF, Bf, BN, HS, hNW⟩
  · obtain rfl : k = (kids xs (b : Nat)).length := by have := of_decide_eq_false hc; omega
    simp only [Exit.then, Exit.inBlock, ↓reduceIte]
    replace hf := hf.keep [0, 1, 3]
    dsimp only [keep, List.filterMap, look, Nat.beq, Option.map] at hf
    have ez : szTo xs b (kids xs (b : Nat)).length = sizeR xs (b : Nat) := by rw [sizeR_eq V hbl, szTo, List.take_length]
    have eh : hvTo xs (b : Nat) (kids xs (b : Nat)).length = heavyR xs (b : Nat) := by rw [hvTo, List.take_length]; rfl
    rw [ez, eh] at HS
    obtain ⟨kv, hkv, HK⟩ := HS.kids_at hbl
    rw [un_same] at HK
    have f3 : cells[0 + b * 5 + 3]? = some (I (heavyR xs (b : Nat))) := by have := HS.heavy_at hbl; rwa [un_same] at this
    have hb1 := HS.bd hbl (f := 1) (by decide)
    have l3 := B3.lt
    have lN := BN.lt
    obtain ⟨Bz, hBz⟩ : ∃ Bz, Bz = w.heap.size := ⟨_, rfl⟩
    repeat refine seq ?_
    refine regZ 8 [true, false, false, false, false, false, false] (fun c => Bz ≤ c) (fun w => True) (fun w w1 k h => trivial) Mix.mix hf (by decide +kernel) (by decide +kernel) ?_
    refine zf (fun w1 h1 => ld1 T133 rfl (B3.ch h1 (by omega)) rfl) ?_
    refine za (ld1 T133 rfl B3 rfl) ?_
    refine za (nilE rfl) ?_
    refine za (fldA Tryz.underlying130 rfl T59 (by decide) rfl) ?_
    refine za ((ld1 T59 rfl BN hkv).as (A := Dv (slE intE) (GB W G) (kids xs (b : Nat))) HK) ?_
    refine za (call1 (A := OwA intE 3 Bz Go.Mono.G0 (kids xs (b : Nat))) En85 rfl (fun v w' he h => Calls.mono (cloneO_spec _ _ w' h (by omega)) (fun en w2 ⟨u, h1, h2, h3⟩ => ⟨u, h1, h2, OwR.lower (B' := Bz) h3 (by have := he.size; omega) (fun b hb => hb.elim)⟩))) ?_
    refine za (makeF1 rfl) ?_
    refine zx (xcall2Z En84 rfl rfl (fun v u w' he h h' => by cases h'; exact deleteFuncI_spec (kids xs (b : Nat)) Bz v _ _ (fun x => x == heavyR xs (b : Nat)) w' En86 h (fun w2 x c2 => new31_spec x b3 bn _ _ cells w2 ((B3.ext he).ch c2 (by omega)) ((BN.ext he).ch c2 (by omega)) f3) (by omega))) ?_
    refine fun a w hc HF hf => ?_
    try dsimp only [push] at hf
    clear HF
    replace B3 := B3.ch hc (by omega)
    replace BN := BN.ch hc (by omega)
    replace c := c.tr (hc.to fun b _ hb => by omega)
    replace HS := HS.ch hc fun b hb => .inr (by omega)
    replace HS := HS.weak (G' := G) fun _ _ h => .inl h
    obtain ⟨v, hv, hf⟩ := hf.fix 81 rfl
    replace hv := Dv.weak (G' := G) hv fun c _ hc => by have := hG c hc; show c < Bz; omega
    replace hf := hf.keep [74, 81]
    dsimp only [keep, List.filterMap, look, Nat.beq, Option.map] at hf
    refine tl_op hf (by decide) (nilE rfl) fun a w e' hf => ?_
    replace HS := HS.ext e'
    replace hv := Dv.ex hv e'
    replace c := c.ext e'
    replace BN := BN.ext e'
    clear e'
    refine tl_op hf (by decide) (fldA Tryz.underlying130 rfl T59 (by decide) rfl) fun a w e' hf => ?_
    replace HS := HS.ext e'
    replace hv := Dv.ex hv e'
    replace c := c.ext e'
    replace BN := BN.ext e'
    clear e'
    refine tl_st1 T59 hf rfl rfl (Dv.slOne hv) BN hb1 fun w hg hsz BN hf => ?_
    replace HS := HS.gr hg hGn
    replace hv := Dv.gr hv hg hGn
    replace c := c.gr hg (.inl rfl)
    have HS1 := HS.light' hbl hv
    refine tl_nil ?_
    refine ret0n rfl hf ?_
    exact ⟨_, rfl, c, trivial, _, BN, HS1⟩
end Go.Mono

namespace Go.Mono
open Go

/-- the place of the lowest bit (64: none) -/
def tz (x : BitVec 64) : Nat := ((List.range 64).find? fun i => x.getLsbD i).getD 64
def tabZ : List Nat := [0, 1, 56, 2, 57, 49, 28, 3, 61, 58, 42, 50, 38, 29, 17, 4, 62, 47, 59, 36, 45, 43, 51, 22, 53, 39, 33, 30, 24, 18, 12, 5, 63, 55, 48, 27, 60, 41, 37, 16, 46, 35, 44, 21, 52, 32, 23, 11, 54, 26, 40, 15, 34, 20, 31, 10, 25, 14, 19, 9, 13, 8, 7, 6]
theorem tab_all : ∀ k, k < 64 → tabZ.getD (((1#64 <<< k) * 285870213051353865#64) >>> 58).toNat 0 = k := by decide
theorem tz_some {x : BitVec 64} (h : x ≠ 0) : ∃ k, k < 64 ∧ tz x = k ∧ x.getLsbD k = true ∧ ∀ j, j < k → x.getLsbD j = false := by
  cases hf : (List.range 64).find? fun i => x.getLsbD i with
  | none =>
    exfalso
    apply h
    apply BitVec.eq_of_getLsbD_eq
    intro i hi
    have := List.find?_eq_none.1 hf i (List.mem_range.2 hi)
    simpa using this
  | some k =>
    have hk := List.find?_some hf
    have hm := List.mem_range.1 (List.mem_of_find?_eq_some hf)
    refine ⟨k, hm, by simp [tz, hf], hk, fun j hj => ?_⟩
    have := (List.find?_range_eq_some.1 hf).2.2 j hj
    simpa using this
theorem lowbit {x : BitVec 64} {k : Nat} (hk : k < 64) (h : x.getLsbD k = true) (h0 : ∀ j, j < k → x.getLsbD j = false) : x &&& -x = 1#64 <<< k := by
  apply BitVec.eq_of_getLsbD_eq
  intro i hi
  rw [BitVec.getLsbD_and, BitVec.getLsbD_neg, BitVec.getLsbD_shiftLeft, BitVec.getLsbD_one]
  rcases Nat.lt_trichotomy i k with hik | hik | hik
  · simp [h0 i hik, hik]
  · subst hik
    have : ¬ ∃ j, j < i ∧ x.getLsbD j = true := fun ⟨j, hj, hb⟩ => by rw [h0 j hj] at hb; cases hb
    rw [decide_eq_false this]
    simp only [h]
    simp [hi]
  · have : ∃ j, j < i ∧ x.getLsbD j = true := ⟨k, hik, h⟩
    rw [decide_eq_true this]
    have hne : i - k ≠ 0 := by omega
    simp only [decide_eq_false hne, hi, decide_true, Bool.true_and, Bool.and_true, Bool.xor_true, Bool.and_false]
    cases x.getLsbD i <;> rfl
theorem tz_calc {x : BitVec 64} (h : x ≠ 0) : (((x &&& -x) * 285870213051353865#64) >>> 58).toNat < 64 ∧ tabZ.getD (((x &&& -x) * 285870213051353865#64) >>> 58).toNat 0 = tz x := by
  obtain ⟨k, hk, ht, hb, h0⟩ := tz_some h
  constructor
  · have : (((x &&& -x) * 285870213051353865#64) >>> 58).toNat < 64 := by
      rw [BitVec.toNat_ushiftRight, Nat.shiftRight_eq_div_pow]
      have := ((x &&& -x) * 285870213051353865#64).isLt
      omega
    exact this
  · rw [lowbit hk hb h0, tab_all k hk, ht]
theorem tz_lt {x : BitVec 64} (h : x ≠ 0) : tz x < 64 := by
  obtain ⟨k, hk, ht, _⟩ := tz_some h
  omega

/-- the least element -/
def minOf (S : BS) : Option Nat := (List.range 1024).find? fun i => S.getLsbD i
theorem minOf_none {S : BS} : minOf S = none ↔ S = 0 := by
  constructor
  · intro h
    apply BitVec.eq_of_getLsbD_eq
    intro i hi
    have := List.find?_eq_none.1 h i (List.mem_range.2 hi)
    simpa using this
  · rintro rfl
    exact List.find?_eq_none.2 fun x hx => by simp
theorem find_range {p : Nat → Bool} {n k : Nat} (hk : k < n) (h : p k = true) (h0 : ∀ j, j < k → p j = false) : (List.range n).find? p = some k := by
  rw [List.find?_range_eq_some]
  exact ⟨h, List.mem_range.2 hk, fun j hj => by simp [h0 j hj]⟩
theorem minOf_some {S : BS} {k : Nat} : minOf S = some k ↔ k < 1024 ∧ S.getLsbD k = true ∧ ∀ j, j < k → S.getLsbD j = false := by
  constructor
  · intro h
    have := List.find?_range_eq_some.1 h
    exact ⟨List.mem_range.1 this.2.1, this.1, fun j hj => by simpa using this.2.2 j hj⟩
  · rintro ⟨h1, h2, h3⟩
    exact find_range h1 h2 h3
theorem minOf_word {S : BS} {k : Nat} (hk : k < 16) (h0 : ∀ i, i < k → word S i = 0) (h : word S k ≠ 0) : minOf S = some (64 * k + tz (word S k)) := by
  obtain ⟨t, ht, e, hb, hz⟩ := tz_some h
  rw [e]
  refine minOf_some.2 ⟨by omega, ?_, fun j hj => ?_⟩
  · rwa [word_bit _ _ _ ht] at hb
  · by_cases hjk : j / 64 < k
    · have h1 := h0 _ hjk
      have h2 := congrArg (fun v => v.getLsbD (j % 64)) h1
      simp only [word_bit _ _ _ (Nat.mod_lt j (by decide : 0 < 64)), Nat.div_add_mod] at h2
      simpa using h2
    · have hj64 : j / 64 = k := by omega
      have h1 := hz (j % 64) (by omega)
      rw [word_bit _ _ _ (Nat.mod_lt j (by decide))] at h1
      rw [← hj64, Nat.div_add_mod] at h1
      exact h1
theorem all_zero {S : BS} (h : ∀ i, i < 16 → word S i = 0) : S = 0 := word_ext fun i hi => by rw [h i hi, word_zero]
end Go.Mono

namespace Go.Mono
open Go Go.Proofs Go.RowKit

/-- the library's table lies where it was laid -/
def Tab (w : World) : Prop := ∀ i, i < 64 → w.cell? ⟨0, i, none⟩ = some (.int .u8 (tabZ.getD i 0 : Nat))
theorem Tab.ext {w w' : World} (h : Tab w) (e : Ext w w') : Tab w' := fun i hi =>
  (Below.cell e (p := ⟨0, i, none⟩) (World.block_lt_of_cell? w ⟨0, i, none⟩ (h i hi))).trans (h i hi)
theorem Tab.lt {w : World} (h : Tab w) : 0 < w.heap.size := World.block_lt_of_cell? w ⟨0, 0, none⟩ (h 0 (by decide))

theorem tz_spec (x : BitVec 64) (W : World) (hT : Tab W) : Calls Tryz.prog 155 #[Mono.W x] W (Post (E (I (tz x))) W) := by
  refine enter (args := [Mono.W x]) (As := [E (Mono.W x)]) Tryz.func155 rfl Tryz.ntmps155 (Nat.le_of_ble_eq_true rfl) ?_ (fun a hf => ?_) (Nat.le_of_ble_eq_true rfl)
  rotate_left
  dsimp only [params, Nat.reduceAdd] at hf
  rotate_right
  · exact arg1 rfl
  have e := Ext.rfl' W
  repeat refine seq ?_
  refine regn0 ?_
  refine tl_as hf rfl (by decide) fun a hf => ?_
  refine tl_nil ?_
  cases hb : (x == 0#64)
  · have hx : x ≠ 0 := by simpa using hb
    obtain ⟨h1, h2⟩ := tz_calc hx
    obtain ⟨p, hp⟩ : ∃ p : BitVec 64, p = ((x &&& -x) * 285870213051353865#64) >>> 58 := ⟨_, rfl⟩
    rw [← hp] at h1 h2
    repeat refine seq ?_
    refine regn 2 hf (by decide +kernel) ?_
    refine st (mv rfl) ?_
    refine st ((eqlW (v := 0#64) rfl rfl).eq (congrArg Value.bool (hb))) ?_
    refine en fun a w e' hf => ?_
    replace e := Ext.tr e e'
    clear e'
    refine tl_nil ?_
    repeat refine seq ?_
    refine ifc hf rfl (fun h => by cases h) (fun _ => wskip ?_)
    repeat refine seq ?_
    refine regn 9 hf (by decide +kernel) ?_
    refine st (mv rfl) ?_
    refine st (mv rfl) ?_
    refine st (negW rfl) ?_
    refine st (andW rfl rfl) ?_
    refine st (mulW (v := 285870213051353865#64) rfl rfl) ?_
    refine st ((shrW rfl rfl (by omega)).eq (show Mono.W _ = Mono.W p from by rw [hp]; rfl)) ?_
    refine st (idxA Tryz.underlying201 ⟨_, T5⟩ rfl rfl (by constructor <;> omega)) ?_
    refine st (ldC T5 rfl (v := .int .u8 (tabZ.getD p.toNat 0 : Nat)) (fun w' e' => by simpa using hT.ext (Ext.tr e e') _ h1)) ?_
    refine st (convI Tryz.underlying5 Tryz.underlying3 rfl) ?_
    refine en fun a w e' hf => ?_
    replace e := Ext.tr e e'
    clear e'
    refine tl_as hf rfl (by decide) fun a hf => ?_
    refine tl_nil ?_
    refine wret (ret1 rfl hf rfl ?_)
    rintro v rfl
    refine ⟨_, rfl, e, ?_⟩
    have h3 := tz_lt hx
    show Value.int .i64 _ = Value.int .i64 _
    rw [h2, IntWalk.i64_in _ (by omega)]
  · have hx : x = 0 := by simpa using hb
    repeat refine seq ?_
    refine regn 2 hf (by decide +kernel) ?_
    refine st (mv rfl) ?_
    refine st ((eqlW (v := 0#64) rfl rfl).eq (congrArg Value.bool (hb))) ?_
    refine en fun a w e' hf => ?_
    replace e := Ext.tr e e'
    clear e'
    refine tl_nil ?_
    repeat refine seq ?_
    refine ifc hf rfl (fun _ => ?_) (fun h => by cases h)
    repeat refine seq ?_
    refine regn0 ?_
    refine tl_as hf rfl (by decide) fun a hf => ?_
    refine tl_nil ?_
    refine wret (ret1 rfl hf rfl ?_)
    rintro v rfl
    refine ⟨_, rfl, e, ?_⟩
    subst hx
    rfl

/-- what Min returns -/
def minP (S : BS) : VA := Tup [E (I ((minOf S).getD 0 : Nat)), E (B (minOf S).isSome)]

theorem min_spec (S : BS) (W : World) (hT : Tab W) : Calls Tryz.prog 114 #[setV S] W (Post (minP S) W) := by
  refine enter (args := [setV S]) (As := [E (setV S)]) Tryz.func114 rfl Tryz.ntmps114 (Nat.le_of_ble_eq_true rfl) ?_ (fun a hf => ?_) (Nat.le_of_ble_eq_true rfl)
  rotate_left
  dsimp only [params, Nat.reduceAdd] at hf
  rotate_right
  · exact arg1 rfl
  have e := Ext.rfl' W
  repeat refine seq ?_
  refine regn0 ?_
  refine tl_box hf rfl (by decide) fun a b1 w v1 hv1 e' hb1 hs1 B1 hf => ?_
  have hle1 := Nat.le_trans e.size (Nat.le_of_eq hb1.symm)
  replace e := Ext.tr e e'
  clear e'
  refine tl_as hf rfl (by decide) fun a hf => ?_
  refine tl_as hf rfl (by decide) fun a hf => ?_
  refine tl_nil ?_
  subst hv1
  rw [setV_cells] at B1
  repeat refine seq ?_
  refine regn 2 hf (by decide +kernel) ?_
  refine st (ldW T67 rfl (by assumption) rfl) ?_
  refine st (mv rfl) ?_
  refine en fun a w e' hf => ?_
  replace e := Ext.tr e e'
  replace B1 := B1.ext e'
  clear e'
  refine tl_nil ?_
  replace hf := hf.keep [6, 7]
  dsimp only [keep, List.filterMap, look, Nat.beq, Option.map] at hf
  repeat refine seq ?_
  refine blk (loopN (fun r a w => ∃ k : Nat, r = 16 - k ∧ k ≤ 16 ∧ Fr 19 a w [(6, E (setV S)), (7, E (I k))] ∧ Ext W w ∧ ∀ i, i < k → word S i = 0) 16 ⟨0, rfl, by omega, hf, e, fun i hi => by omega⟩ ?_)
  clear hf e B1
  rintro r a w ⟨k, rfl, hk, hf, e, hz⟩
  by_cases hlt : k < 16
  · repeat refine seq ?_
    refine regn 1 hf (by decide +kernel) ?_
    refine st ((lss rfl rfl).eq (congrArg Value.bool (show decide ((k : Int) < 16) = true from decide_eq_true (by omega)))) ?_
    refine en fun a w e' hf => ?_
    replace e := Ext.tr e e'
    clear e'
    refine tl_nil ?_
    repeat refine seq ?_
    refine ifc hf rfl (fun _ => wskip ?_) (fun h => by cases h)
    repeat refine seq ?_
    refine blk ?_
    repeat refine seq ?_
    refine regn 2 hf (by decide +kernel) ?_
    refine st (mv rfl) ?_
    refine st (idxV Tryz.underlying67 T65 rfl rfl (by omega) (by simpa [setC] using wordsC_get (word S) k hlt)) ?_
    refine en fun a w e' hf => ?_
    replace e := Ext.tr e e'
    clear e'
    refine tl_as hf rfl (by decide) fun a hf => ?_
    refine tl_as hf rfl (by decide) fun a hf => ?_
    refine tl_nil ?_
    cases hb : (word S k != 0#64)
    · have hw : word S k = 0 := by simpa using hb
      repeat refine seq ?_
      refine regn 2 hf (by decide +kernel) ?_
      refine st (mv rfl) ?_
      refine st ((neqW (v := 0#64) rfl rfl).eq (congrArg Value.bool (hb))) ?_
      refine en fun a w e' hf => ?_
      replace e := Ext.tr e e'
      clear e'
      refine tl_nil ?_
      repeat refine seq ?_
      refine ifc hf rfl (fun h => by cases h) (fun _ => wskip ?_)
      repeat refine seq ?_
      refine regn 1 hf (by decide +kernel) ?_
      refine st (add rfl rfl (by omega)) ?_
      refine en fun a w e' hf => ?_
      replace e := Ext.tr e e'
      clear e'
      refine tl_op hf (by decide) (mv rfl) fun a w e' hf => ?_
      replace e := Ext.tr e e'
      clear e'
      refine tl_nil ?_
      replace hf := hf.keep [6, 7]
      dsimp only [keep, List.filterMap, look, Nat.beq, Option.map] at hf
      exact ⟨16 - (k + 1), by omega, k + 1, rfl, by omega, by simpa using hf, e, fun i hi => by
        by_cases h : i = k
        · subst h; exact hw
        · exact hz i (by omega)⟩
    · have hw : word S k ≠ 0 := by simpa using hb
      have hm := minOf_word hlt hz hw
      have htz := tz_lt hw
      repeat refine seq ?_
      refine regn 2 hf (by decide +kernel) ?_
      refine st (mv rfl) ?_
      refine st ((neqW (v := 0#64) rfl rfl).eq (congrArg Value.bool (hb))) ?_
      refine en fun a w e' hf => ?_
      replace e := Ext.tr e e'
      clear e'
      refine tl_nil ?_
      repeat refine seq ?_
      refine ifc hf rfl (fun _ => ?_) (fun h => by cases h)
      repeat refine seq ?_
      refine regn 5 hf (by decide +kernel) ?_
      refine st (mv rfl) ?_
      refine st (mul rfl rfl (by omega)) ?_
      refine st (mv rfl) ?_
      refine st (call1 En155 rfl (fun v w' e' h => by cases h; exact tz_spec _ w' (hT.ext (Ext.tr e e')))) ?_
      refine st (add rfl rfl (by omega)) ?_
      refine en fun a w e' hf => ?_
      replace e := Ext.tr e e'
      clear e'
      refine tl_as hf rfl (by decide) fun a hf => ?_
      refine tl_as hf rfl (by decide) fun a hf => ?_
      refine tl_nil ?_
      refine wret (ret2 rfl hf rfl rfl ?_)
      rintro u v rfl rfl
      refine ⟨_, rfl, e, Tup.two ?_ ?_⟩
      · rw [hm]; simp [E]
      · rw [hm]; rfl
  · obtain rfl : k = 16 := by omega
    have hm : minOf S = none := minOf_none.2 (all_zero hz)
    repeat refine seq ?_
    refine regn 1 hf (by decide +kernel) ?_
    refine st ((lss rfl rfl).eq (congrArg Value.bool (show decide (((16 : Nat) : Int) < 16) = false from rfl))) ?_
    refine en fun a w e' hf => ?_
    replace e := Ext.tr e e'
    clear e'
    refine tl_nil ?_
    repeat refine seq ?_
    refine ifc hf rfl (fun h => by cases h) (fun _ => wexit ?_)
    simp only [Exit.then, Exit.inBlock, ↓reduceIte]
    repeat refine seq ?_
    refine regn0 ?_
    refine tl_as hf rfl (by decide) fun a hf => ?_
    refine tl_as hf rfl (by decide) fun a hf => ?_
    refine tl_nil ?_
    refine wret (ret2 rfl hf rfl rfl ?_)
    rintro u v rfl rfl
    refine ⟨_, rfl, e, Tup.two ?_ ?_⟩
    · rw [hm]; rfl
    · rw [hm]; rfl
end Go.Mono
