/-
  Walks and plain facts, in this order: Frame2, Frame3, MonoA, MonoY, Frame4, R26c, Tree, Plain1, R45, R45b, Plain2, Plain3, Frame5, MonoZ, Frame6.
  No condition.
-/
import Derived.Test.YtnhbkdliljcedaaGreatDoorWB
import Derived.Lib.SliceRun
import Derived.Carry
import Derived.Test.YtnhbkdliljcedaaGreatDoorWA
set_option linter.unusedVariables false
set_option linter.unusedSimpArgs false
set_option linter.unusedVariables false
namespace Go.Mono
open Go Go.Proofs Go.RowKit

theorem fsize_spec {G : Nat → Prop} (F : Fm) (b : Int) (v : Value) (W : World) (h : (Dv (ptE frE) G (some F)).p v W) (hl : F.2.1.length = F.1.length) :
    Calls Tryz.prog 38 #[v, I b] W (Post (E (I (ofF F b).2.2.1)) W) := by
  refine enter (args := [v, I b]) (As := [Dv (ptE frE) G (some F), E (I b)]) Tryz.func38 rfl Tryz.ntmps38 (Nat.le_of_ble_eq_true rfl) ?_ (fun a hf => ?_) (Nat.le_of_ble_eq_true rfl)
  rotate_left
  dsimp only [params, Nat.reduceAdd] at hf
  rotate_right
  · exact arg2 h rfl
  have e := Ext.rfl' W
  repeat refine seq ?_
  refine regn0 ?_
  refine tl_as hf rfl (by decide) fun a hf => ?_
  refine tl_nil ?_
  repeat refine seq ?_
  refine regn 4 hf (by decide +kernel) ?_
  refine st (mv rfl) ?_
  refine st (mv rfl) ?_
  refine st (call2 En84 rfl rfl (fun v u w he h h' => by cases h'; exact fof_spec F _ _ w h hl)) ?_
  refine st (fieldI rfl Tryz.underlying134 rfl T3 (Fld.snd (Fld.snd (Fld.fst Fld.refl) rfl) rfl) (isR rfl)) ?_
  refine en fun a w e' hf => ?_
  replace e := Ext.tr e e'
  clear e'
  refine tl_as hf rfl (by decide) fun a hf => ?_
  refine tl_nil ?_
  refine wret ?_
  try simp only [Exit.then, Exit.inBlock]
  refine ret1 rfl hf rfl ?_
  rintro _ rfl
  exact ⟨_, rfl, e, rfl⟩

theorem fheavy_spec {G : Nat → Prop} (F : Fm) (b : Int) (v : Value) (W : World) (h : (Dv (ptE frE) G (some F)).p v W) (hl : F.2.1.length = F.1.length) :
    Calls Tryz.prog 37 #[v, I b] W (Post (E (I (ofF F b).2.2.2.1)) W) := by
  refine enter (args := [v, I b]) (As := [Dv (ptE frE) G (some F), E (I b)]) Tryz.func37 rfl Tryz.ntmps37 (Nat.le_of_ble_eq_true rfl) ?_ (fun a hf => ?_) (Nat.le_of_ble_eq_true rfl)
  rotate_left
  dsimp only [params, Nat.reduceAdd] at hf
  rotate_right
  · exact arg2 h rfl
  have e := Ext.rfl' W
  repeat refine seq ?_
  refine regn0 ?_
  refine tl_as hf rfl (by decide) fun a hf => ?_
  refine tl_nil ?_
  repeat refine seq ?_
  refine regn 4 hf (by decide +kernel) ?_
  refine st (mv rfl) ?_
  refine st (mv rfl) ?_
  refine st (call2 En84 rfl rfl (fun v u w he h h' => by cases h'; exact fof_spec F _ _ w h hl)) ?_
  refine st (fieldI rfl Tryz.underlying134 rfl T3 (Fld.snd (Fld.snd (Fld.snd (Fld.fst Fld.refl) rfl) rfl) rfl) (isR rfl)) ?_
  refine en fun a w e' hf => ?_
  replace e := Ext.tr e e'
  clear e'
  refine tl_as hf rfl (by decide) fun a hf => ?_
  refine tl_nil ?_
  refine wret ?_
  try simp only [Exit.then, Exit.inBlock]
  refine ret1 rfl hf rfl ?_
  rintro _ rfl
  exact ⟨_, rfl, e, rfl⟩

theorem fdepth_spec {G : Nat → Prop} (F : Fm) (b : Int) (v : Value) (W : World) (h : (Dv (ptE frE) G (some F)).p v W) (hl : F.2.1.length = F.1.length) :
    Calls Tryz.prog 88 #[v, I b] W (Post (E (I (ofF F b).2.2.2.2)) W) := by
  refine enter (args := [v, I b]) (As := [Dv (ptE frE) G (some F), E (I b)]) Tryz.func88 rfl Tryz.ntmps88 (Nat.le_of_ble_eq_true rfl) ?_ (fun a hf => ?_) (Nat.le_of_ble_eq_true rfl)
  rotate_left
  dsimp only [params, Nat.reduceAdd] at hf
  rotate_right
  · exact arg2 h rfl
  have e := Ext.rfl' W
  repeat refine seq ?_
  refine regn0 ?_
  refine tl_as hf rfl (by decide) fun a hf => ?_
  refine tl_nil ?_
  repeat refine seq ?_
  refine regn 4 hf (by decide +kernel) ?_
  refine st (mv rfl) ?_
  refine st (mv rfl) ?_
  refine st (call2 En84 rfl rfl (fun v u w he h h' => by cases h'; exact fof_spec F _ _ w h hl)) ?_
  refine st (fieldI rfl Tryz.underlying134 rfl T3 (Fld.snd (Fld.snd (Fld.snd (Fld.snd Fld.refl rfl) rfl) rfl) rfl) (isR rfl)) ?_
  refine en fun a w e' hf => ?_
  replace e := Ext.tr e e'
  clear e'
  refine tl_as hf rfl (by decide) fun a hf => ?_
  refine tl_nil ?_
  refine wret ?_
  try simp only [Exit.then, Exit.inBlock]
  refine ret1 rfl hf rfl ?_
  rintro _ rfl
  exact ⟨_, rfl, e, rfl⟩

theorem fchildren_spec {G : Nat → Prop} (F : Fm) (b : Int) (v : Value) (W : World) (h : (Dv (ptE frE) G (some F)).p v W) (hl : F.2.1.length = F.1.length) (hn : (ofF F b).1.length ≤ 4096) :
    Calls Tryz.prog 29 #[v, I b] W (Post (Dv (slE intE) (fun b => b < W.heap.size) (ofF F b).1) W) := by
  refine enter (args := [v, I b]) (As := [Dv (ptE frE) G (some F), E (I b)]) Tryz.func29 rfl Tryz.ntmps29 (Nat.le_of_ble_eq_true rfl) ?_ (fun a hf => ?_) (Nat.le_of_ble_eq_true rfl)
  rotate_left
  dsimp only [params, Nat.reduceAdd] at hf
  rotate_right
  · exact arg2 h rfl
  have e := Ext.rfl' W
  repeat refine seq ?_
  refine regn0 ?_
  refine tl_as hf rfl (by decide) fun a hf => ?_
  refine tl_nil ?_
  repeat refine seq ?_
  refine regn 5 hf (by decide +kernel) ?_
  refine st (mv rfl) ?_
  refine st (mv rfl) ?_
  refine st (call2 En84 rfl rfl (fun v u w he h h' => by cases h'; exact fof_spec F _ _ w h hl)) ?_
  refine st (fieldD rfl Tryz.underlying134 rfl T59 rfl (Fld.fst Fld.refl) (isR rfl)) ?_
  refine st (call1 En83 rfl (fun v w he h => Calls.mono (cloneI_spec _ _ w h hn) (fun en w' ⟨u, h1, h2, h3⟩ => ⟨u, h1, h2, Dv.weak (G' := fun b => b < W.heap.size) h3 fun b _ hb => Nat.lt_of_lt_of_le hb (Nat.le_trans e.size he.size)⟩))) ?_
  refine en fun a w e' hf => ?_
  replace e := Ext.tr e e'
  clear e'
  refine tl_as hf rfl (by decide) fun a hf => ?_
  refine tl_nil ?_
  refine wret ?_
  try simp only [Exit.then, Exit.inBlock]
  refine ret1 rfl hf rfl ?_
  intro v hv
  exact ⟨_, rfl, e, hv⟩

theorem flight_spec {G : Nat → Prop} (F : Fm) (b : Int) (v : Value) (W : World) (h : (Dv (ptE frE) G (some F)).p v W) (hl : F.2.1.length = F.1.length) (hn : (ofF F b).2.1.length ≤ 4096) :
    Calls Tryz.prog 45 #[v, I b] W (Post (Dv (slE intE) (fun b => b < W.heap.size) (ofF F b).2.1) W) := by
  refine enter (args := [v, I b]) (As := [Dv (ptE frE) G (some F), E (I b)]) Tryz.func45 rfl Tryz.ntmps45 (Nat.le_of_ble_eq_true rfl) ?_ (fun a hf => ?_) (Nat.le_of_ble_eq_true rfl)
  rotate_left
  dsimp only [params, Nat.reduceAdd] at hf
  rotate_right
  · exact arg2 h rfl
  have e := Ext.rfl' W
  repeat refine seq ?_
  refine regn0 ?_
  refine tl_as hf rfl (by decide) fun a hf => ?_
  refine tl_nil ?_
  repeat refine seq ?_
  refine regn 5 hf (by decide +kernel) ?_
  refine st (mv rfl) ?_
  refine st (mv rfl) ?_
  refine st (call2 En84 rfl rfl (fun v u w he h h' => by cases h'; exact fof_spec F _ _ w h hl)) ?_
  refine st (fieldD rfl Tryz.underlying134 rfl T59 rfl (Fld.snd (Fld.fst Fld.refl) rfl) (isR rfl)) ?_
  refine st (call1 En83 rfl (fun v w he h => Calls.mono (cloneI_spec _ _ w h hn) (fun en w' ⟨u, h1, h2, h3⟩ => ⟨u, h1, h2, Dv.weak (G' := fun b => b < W.heap.size) h3 fun b _ hb => Nat.lt_of_lt_of_le hb (Nat.le_trans e.size he.size)⟩))) ?_
  refine en fun a w e' hf => ?_
  replace e := Ext.tr e e'
  clear e'
  refine tl_as hf rfl (by decide) fun a hf => ?_
  refine tl_nil ?_
  refine wret ?_
  try simp only [Exit.then, Exit.inBlock]
  refine ret1 rfl hf rfl ?_
  intro v hv
  exact ⟨_, rfl, e, hv⟩

theorem fbags_spec {G : Nat → Prop} (F : Fm) (v : Value) (W : World) (h : (Dv (ptE frE) G (some F)).p v W) (hl : F.1.length ≤ 4096) :
    Calls Tryz.prog 21 #[v] W (Post (Dv treeE (fun b => b < W.heap.size) F.1) W) := by
  refine enter (args := [v]) (As := [Dv (ptE frE) G (some F)]) Tryz.func21 rfl Tryz.ntmps21 (Nat.le_of_ble_eq_true rfl) ?_ (fun a hf => ?_) (Nat.le_of_ble_eq_true rfl)
  rotate_left
  dsimp only [params, Nat.reduceAdd] at hf
  rotate_right
  · exact arg1 h
  have e := Ext.rfl' W
  repeat refine seq ?_
  refine regn0 ?_
  refine tl_as hf rfl (by decide) fun a hf => ?_
  refine tl_nil ?_
  repeat refine seq ?_
  refine regn 2 hf (by decide +kernel) ?_
  refine st (mv rfl) ?_
  refine st (eqlP Tryz.underlying27 (isR rfl)) ?_
  refine en fun a w e' hf => ?_
  replace e := Ext.tr e e'
  clear e'
  refine tl_nil ?_
  repeat refine seq ?_
  refine ifc hf rfl (fun h => by cases h) (fun _ => ?_)
  refine wskip ?_
  try simp only [Exit.then, Exit.inBlock, ↓reduceIte]
  repeat refine seq ?_
  refine regn 5 hf (by decide +kernel) ?_
  refine st (mv rfl) ?_
  refine st (nilC (isR rfl)) ?_
  refine st (fldD Tryz.underlying99 rfl T23 (by decide) (Fld.fst Fld.refl) (isR rfl)) ?_
  refine st (ldD T23 (isR rfl)) ?_
  refine st (call1 En59 rfl (fun v w he h => Calls.mono (treeClone_spec _ _ w h hl) (fun en w' ⟨u, h1, h2, h3⟩ => ⟨u, h1, h2, Dv.weak (G' := fun b => b < W.heap.size) h3 fun b _ hb => Nat.lt_of_lt_of_le hb (Nat.le_trans e.size he.size)⟩))) ?_
  refine en fun a w e' hf => ?_
  replace e := Ext.tr e e'
  clear e'
  refine tl_as hf rfl (by decide) fun a hf => ?_
  refine tl_nil ?_
  refine wret ?_
  try simp only [Exit.then, Exit.inBlock]
  refine ret1 rfl hf rfl ?_
  intro v hv
  exact ⟨_, rfl, e, hv⟩

theorem postG {P : Program} {α : Type} {e : Enc α} {x : α} {f : FuncId} {args : Array Value} {w : World} {G : Nat → Prop} (h : Calls P f args w (Post (Dv e (fun b => b < w.heap.size) x) w)) (hG : ∀ b, G b → b < w.heap.size) : Calls P f args w (Post (Dv e G x) w) :=
  Calls.mono h fun en w' ⟨u, h1, h2, h3⟩ => ⟨u, h1, h2, Dv.weak h3 fun b _ hb => hG b hb⟩

theorem flen_spec {G : Nat → Prop} (F : Fm) (v : Value) (W : World) (h : (Dv (ptE frE) G (some F)).p v W) (hl : F.1.length ≤ 4096) :
    Calls Tryz.prog 35 #[v] W (Post (E (I (F.1.length : Nat))) W) := by
  refine enter (args := [v]) (As := [Dv (ptE frE) G (some F)]) Tryz.func35 rfl Tryz.ntmps35 (Nat.le_of_ble_eq_true rfl) ?_ (fun a hf => ?_) (Nat.le_of_ble_eq_true rfl)
  rotate_left
  dsimp only [params, Nat.reduceAdd] at hf
  rotate_right
  · exact arg1 h
  have e := Ext.rfl' W
  repeat refine seq ?_
  refine regn0 ?_
  refine tl_as hf rfl (by decide) fun a hf => ?_
  refine tl_nil ?_
  repeat refine seq ?_
  refine regn 3 hf (by decide +kernel) ?_
  refine st (mv rfl) ?_
  refine st (call1 En21 rfl (fun v w he h => postG (G := Go.Mono.G0) (fbags_spec F _ w h hl) (fun b hb => hb.elim))) ?_
  refine st (lenD Tryz.underlying23 (isR rfl)) ?_
  refine en fun a w e' hf => ?_
  replace e := Ext.tr e e'
  clear e'
  refine tl_as hf rfl (by decide) fun a hf => ?_
  refine tl_nil ?_
  refine wret ?_
  try simp only [Exit.then, Exit.inBlock]
  refine ret1 rfl hf rfl ?_
  rintro _ rfl
  exact ⟨_, rfl, e, rfl⟩

theorem froot1_spec (b : Int × BS) (W : World) : Calls Tryz.prog 86 #[bagV b] W (Post (E (B (decide (b.1 < 0)))) W) := by
  refine enter (args := [bagV b]) (As := [E (bagV b)]) Tryz.func86 rfl Tryz.ntmps86 (Nat.le_of_ble_eq_true rfl) ?_ (fun a hf => ?_) (Nat.le_of_ble_eq_true rfl)
  rotate_left
  dsimp only [params, Nat.reduceAdd] at hf
  rotate_right
  · exact arg1 rfl
  have e := Ext.rfl' W
  repeat refine seq ?_
  refine regn0 ?_
  refine tl_box hf rfl (by decide) fun a b1 w v1 hv1 e' hb1 hs1 B1 hf => ?_
  have hle1 := Nat.le_trans e.size (Nat.le_of_eq hb1.symm)
  replace e := Ext.tr e e'
  clear e'
  refine tl_as hf rfl (by decide) fun a hf => ?_
  refine tl_nil ?_
  cases hv1
  repeat refine seq ?_
  refine regn 3 hf (by decide +kernel) ?_
  refine st (fldA Tryz.underlying69 rfl T3 (by decide) rfl) ?_
  refine st (ld1 T3 rfl B1 (bagC_0 _)) ?_
  refine st (lss rfl rfl) ?_
  refine en fun a w e' hf => ?_
  replace e := Ext.tr e e'
  replace B1 := B1.ext e'
  clear e'
  refine tl_as hf rfl (by decide) fun a hf => ?_
  refine tl_nil ?_
  refine wret ?_
  try simp only [Exit.then, Exit.inBlock]
  refine ret1 rfl hf rfl ?_
  rintro _ rfl
  exact ⟨_, rfl, e, rfl⟩

theorem froot_spec {G : Nat → Prop} (F : Fm) (v : Value) (W : World) (h : (Dv (ptE frE) G (some F)).p v W) (hl : F.1.length ≤ 4096) :
    Calls Tryz.prog 30 #[v] W (Post (E (I (fstB (fun b => decide (b.1 < 0)) F.1))) W) := by
  refine enter (args := [v]) (As := [Dv (ptE frE) G (some F)]) Tryz.func30 rfl Tryz.ntmps30 (Nat.le_of_ble_eq_true rfl) ?_ (fun a hf => ?_) (Nat.le_of_ble_eq_true rfl)
  rotate_left
  dsimp only [params, Nat.reduceAdd] at hf
  rotate_right
  · exact arg1 h
  have e := Ext.rfl' W
  repeat refine seq ?_
  refine regn0 ?_
  refine tl_as hf rfl (by decide) fun a hf => ?_
  refine tl_nil ?_
  repeat refine seq ?_
  refine regn 3 hf (by decide +kernel) ?_
  refine st (mv rfl) ?_
  refine st (call1 En21 rfl (fun v w he h => postG (G := Go.Mono.G0) (fbags_spec F _ w h hl) (fun b hb => hb.elim))) ?_
  refine st (call2 En85 rfl rfl (fun v u w he h h' => by cases h'; exact indexFunc_spec _ _ _ _ (fun b => decide (b.1 < 0)) w En86 h (fun w' b _ => froot1_spec b w') hl)) ?_
  refine en fun a w e' hf => ?_
  replace e := Ext.tr e e'
  clear e'
  refine tl_as hf rfl (by decide) fun a hf => ?_
  refine tl_nil ?_
  refine wret ?_
  try simp only [Exit.then, Exit.inBlock]
  refine ret1 rfl hf rfl ?_
  rintro _ rfl
  exact ⟨_, rfl, e, rfl⟩

theorem fparent_spec {G : Nat → Prop} (F : Fm) (b : Int) (v : Value) (W : World) (h : (Dv (ptE frE) G (some F)).p v W) :
    Calls Tryz.prog 36 #[v, I b] W (Post (E (I (if inT F.1 b then (bg F.1 b.toNat).1 else -1))) W) := by
  refine enter (args := [v, I b]) (As := [Dv (ptE frE) G (some F), E (I b)]) Tryz.func36 rfl Tryz.ntmps36 (Nat.le_of_ble_eq_true rfl) ?_ (fun a hf => ?_) (Nat.le_of_ble_eq_true rfl)
  rotate_left
  dsimp only [params, Nat.reduceAdd] at hf
  rotate_right
  · exact arg2 h rfl
  have e := Ext.rfl' W
  repeat refine seq ?_
  refine regn0 ?_
  refine tl_as hf rfl (by decide) fun a hf => ?_
  refine tl_nil ?_
  repeat refine seq ?_
  refine regn 4 hf (by decide +kernel) ?_
  refine st (mv rfl) ?_
  refine st (mv rfl) ?_
  refine st (call2 En55 rfl rfl (fun v u w he h h' => by cases h'; exact fis_spec F _ _ w h)) ?_
  refine st (notp rfl) ?_
  refine en fun a w e' hf => ?_
  replace e := Ext.tr e e'
  clear e'
  refine tl_nil ?_
  repeat refine seq ?_
  refine ifc hf rfl (fun hb => ?_) (fun hb => ?_)
  · have hb' : inT F.1 b = false := by simpa using hb
    repeat refine seq ?_
    refine regn0 ?_
    refine tl_as hf rfl (by decide) fun a hf => ?_
    refine tl_nil ?_
    refine wret ?_
    try simp only [Exit.then, Exit.inBlock]
    refine ret1 rfl hf rfl ?_
    rintro _ rfl
    exact ⟨_, rfl, e, congrArg I (by rw [hb']; rfl)⟩
  · have hb' : inT F.1 b = true := by simpa using hb
    have hb2 : 0 ≤ b ∧ b < (F.1.length : Nat) := by simpa [inT] using hb'
    refine wskip ?_
    try simp only [Exit.then, Exit.inBlock, ↓reduceIte]
    repeat refine seq ?_
    refine regn 8 hf (by decide +kernel) ?_
    refine st (mv rfl) ?_
    refine st (nilC (isR rfl)) ?_
    refine st (fldD Tryz.underlying99 rfl T23 (by decide) (Fld.fst Fld.refl) (isR rfl)) ?_
    refine st (ldD T23 (isR rfl)) ?_
    refine st (mv rfl) ?_
    refine st (idxD Tryz.underlying23 S69 (isR rfl) rfl (by omega) (bg_get (i := b.toNat) (by omega))) ?_
    refine st (fldD Tryz.underlying69 rfl T3 (by decide) (Fld.fst Fld.refl) (isR rfl)) ?_
    refine st (ldI T3 (isR rfl)) ?_
    refine en fun a w e' hf => ?_
    replace e := Ext.tr e e'
    clear e'
    refine tl_as hf rfl (by decide) fun a hf => ?_
    refine tl_nil ?_
    refine wret ?_
    try simp only [Exit.then, Exit.inBlock]
    refine ret1 rfl hf rfl ?_
    rintro _ rfl
    exact ⟨_, rfl, e, congrArg I (by rw [hb']; rfl)⟩

theorem fbag_spec {G : Nat → Prop} (F : Fm) (b : Int) (v : Value) (W : World) (h : (Dv (ptE frE) G (some F)).p v W) :
    Calls Tryz.prog 90 #[v, I b] W (Post (E (setV (if inT F.1 b then (bg F.1 b.toNat).2 else 0))) W) := by
  refine enter (args := [v, I b]) (As := [Dv (ptE frE) (GB W G) (some F), E (I b)]) Tryz.func90 rfl Tryz.ntmps90 (Nat.le_of_ble_eq_true rfl) ?_ (fun a hf => ?_) (Nat.le_of_ble_eq_true rfl)
  rotate_left
  dsimp only [params, Nat.reduceAdd] at hf
  rotate_right
  · exact arg2 (Dv.toB h) rfl
  have e := Ext.rfl' W
  repeat refine seq ?_
  refine regn0 ?_
  refine tl_alloc I67 hf (by decide) fun a b4 w e' hb4 hs4 B4 hf => ?_
  have hle4 := Nat.le_trans e.size (Nat.le_of_eq hb4.symm)
  replace e := Ext.tr e e'
  clear e'
  refine tl_nil ?_
  simp only [Value.cells, zeroC] at B4
  repeat refine seq ?_
  refine regn 4 hf (by decide +kernel) ?_
  refine st (mv rfl) ?_
  refine st (mv rfl) ?_
  refine st (call2 En55 rfl rfl (fun v u w he h h' => by cases h'; exact fis_spec F _ _ w h)) ?_
  refine st (notp rfl) ?_
  refine en fun a w e' hf => ?_
  replace e := Ext.tr e e'
  replace B4 := B4.ext e'
  clear e'
  refine tl_nil ?_
  repeat refine seq ?_
  refine ifc hf rfl (fun hb => ?_) (fun hb => ?_)
  · have hb' : inT F.1 b = false := by simpa using hb
    replace hf := hf.keep [4]
    dsimp only [keep, List.filterMap, look, Nat.beq, Option.map] at hf
    repeat refine seq ?_
    refine regn 1 hf (by decide +kernel) ?_
    refine st ((bld0 Bz67).eq (congrArg Value.agg zeroC)) ?_
    refine en fun a w e' hf => ?_
    replace e := Ext.tr e e'
    replace B4 := B4.ext e'
    clear e'
    haveI hinr : ∀ G0, InR (GB W G0) (some b4) := fun G0 => InR.gb (by omega)
    refine tl_stW T67 hf rfl rfl (wordsC_one _) B4 rfl (rfl) fun w hg hsz B4 hf => ?_
    replace e := e.gr hg (by omega)
    clear hg
    refine tl_nil ?_
    refine wret (retS rfl T67 hf rfl B4 e (by rw [hb']; rfl))
  · have hb' : inT F.1 b = true := by simpa using hb
    have hb2 : 0 ≤ b ∧ b < (F.1.length : Nat) := by simpa [inT] using hb'
    refine wskip ?_
    try simp only [Exit.then, Exit.inBlock, ↓reduceIte]
    repeat refine seq ?_
    refine regn 8 hf (by decide +kernel) ?_
    refine st (mv rfl) ?_
    refine st (nilC (isR rfl)) ?_
    refine st (fldD Tryz.underlying99 rfl T23 (by decide) (Fld.fst Fld.refl) (isR rfl)) ?_
    refine st (ldD T23 (isR rfl)) ?_
    refine st (mv rfl) ?_
    refine st (idxD Tryz.underlying23 S69 (isR rfl) rfl (by omega) (bg_get (i := b.toNat) (by omega))) ?_
    refine st (fldD Tryz.underlying69 rfl T67 (by decide) (Fld.snd Fld.refl rfl) (isR rfl)) ?_
    refine st (ldS T67 (isR rfl)) ?_
    refine en fun a w e' hf => ?_
    replace e := Ext.tr e e'
    replace B4 := B4.ext e'
    clear e'
    haveI hinr : ∀ G0, InR (GB W G0) (some b4) := fun G0 => InR.gb (by omega)
    refine tl_stW T67 hf rfl rfl (wordsC_one _) B4 rfl (rfl) fun w hg hsz B4 hf => ?_
    replace e := e.gr hg (by omega)
    clear hg
    refine tl_nil ?_
    refine wret (retS rfl T67 hf rfl B4 e (by rw [hb']; rfl))
end Go.Mono

set_option linter.unusedVariables false
namespace Go.Mono
open Go Go.Proofs Go.RowKit

def bagF (F : Fm) (b : Int) : BS := if inT F.1 b then (bg F.1 b.toNat).2 else 0
def parF (F : Fm) (b : Int) : Int := if inT F.1 b then (bg F.1 b.toNat).1 else -1

theorem fvhome_spec {G : Nat → Prop} (F : Fm) (id : Int) (v : Value) (W : World) (h : (Dv (ptE frE) G (some F)).p v W) (hw : (Lit.int .i64 id).wf = true) :
    Calls Tryz.prog 31 #[v, I id] W (Post (E (.tuple #[I ((F.2.2 id).getD 0), B (F.2.2 id).isSome])) W) := by
  refine enter (args := [v, I id]) (As := [Dv (ptE frE) G (some F), E (I id)]) Tryz.func31 rfl Tryz.ntmps31 (Nat.le_of_ble_eq_true rfl) ?_ (fun a hf => ?_) (Nat.le_of_ble_eq_true rfl)
  rotate_left
  dsimp only [params, Nat.reduceAdd] at hf
  rotate_right
  · exact arg2 h rfl
  have e := Ext.rfl' W
  repeat refine seq ?_
  refine regn0 ?_
  refine tl_as hf rfl (by decide) fun a hf => ?_
  refine tl_as hf rfl (by decide) fun a hf => ?_
  refine tl_nil ?_
  repeat refine seq ?_
  refine regn 2 hf (by decide +kernel) ?_
  refine st (mv rfl) ?_
  refine st (eqlP Tryz.underlying27 (isR rfl)) ?_
  refine en fun a w e' hf => ?_
  replace e := Ext.tr e e'
  clear e'
  refine tl_nil ?_
  repeat refine seq ?_
  refine ifc hf rfl (fun h => by cases h) (fun _ => ?_)
  refine wskip ?_
  try simp only [Exit.then, Exit.inBlock, ↓reduceIte]
  repeat refine seq ?_
  refine regn 9 hf (by decide +kernel) ?_
  refine st (mv rfl) ?_
  refine st (nilC (isR rfl)) ?_
  refine st (fldD Tryz.underlying99 rfl T97 (by decide) (Fld.snd (Fld.snd Fld.refl rfl) rfl) (isR rfl)) ?_
  refine st (ldD T97 (isR rfl)) ?_
  refine st (mv rfl) ?_
  refine st (getM Tryz.underlying3 Tryz.underlying3 Tryz.underlying97 (zero_of I3) (isR rfl) rfl (by assumption)) ?_
  refine st (mv rfl) ?_
  refine st (ext_ rfl rfl) ?_
  refine st (ext_ rfl rfl) ?_
  refine en fun a w e' hf => ?_
  replace e := Ext.tr e e'
  clear e'
  refine tl_as hf rfl (by decide) fun a hf => ?_
  refine tl_as hf rfl (by decide) fun a hf => ?_
  refine tl_nil ?_
  repeat refine seq ?_
  refine regn 2 hf (by decide +kernel) ?_
  refine st (mv rfl) ?_
  refine st (mv rfl) ?_
  refine en fun a w e' hf => ?_
  replace e := Ext.tr e e'
  clear e'
  refine tl_as hf rfl (by decide) fun a hf => ?_
  refine tl_as hf rfl (by decide) fun a hf => ?_
  refine tl_nil ?_
  refine wret (ret2 rfl hf rfl rfl ?_)
  rintro _ _ rfl rfl
  exact ⟨_, rfl, e, rfl⟩

def unionTo (t : List (Int × BS)) : Nat → BS
  | 0 => 0
  | k + 1 => unionTo t k ||| (bg t k).2

theorem fverts_spec {G : Nat → Prop} (F : Fm) (v : Value) (W : World) (h : (Dv (ptE frE) G (some F)).p v W) (hl : F.1.length ≤ 4096) :
    Calls Tryz.prog 39 #[v] W (Post (E (setV (unionTo F.1 F.1.length))) W) := by
  refine enter (args := [v]) (As := [Dv (ptE frE) (GB W G) (some F)]) Tryz.func39 rfl Tryz.ntmps39 (Nat.le_of_ble_eq_true rfl) ?_ (fun a hf => ?_) (Nat.le_of_ble_eq_true rfl)
  rotate_left
  dsimp only [params, Nat.reduceAdd] at hf
  rotate_right
  · exact arg1 (Dv.toB h)
  have e := Ext.rfl' W
  repeat refine seq ?_
  refine regn0 ?_
  refine tl_alloc I67 hf (by decide) fun a b2 w e' hb2 hs2 B2 hf => ?_
  have hle2 := Nat.le_trans e.size (Nat.le_of_eq hb2.symm)
  replace e := Ext.tr e e'
  clear e'
  refine tl_nil ?_
  repeat refine seq ?_
  refine regn0 ?_
  refine tl_alloc I67 hf (by decide) fun a b3 w e' hb3 hs3 B3 hf => ?_
  have hle3 := Nat.le_trans e.size (Nat.le_of_eq hb3.symm)
  have lt3_B2 := B2.lt
  replace e := Ext.tr e e'
  replace B2 := B2.ext e'
  clear e'
  refine tl_nil ?_
  have hne : b2 ≠ b3 := by omega
  simp only [Value.cells, zeroC] at B2 B3
  have l2 := B2.lt
  have l3 := B3.lt
  replace hf := hf.keep [0, 2, 3]
  dsimp only [keep, List.filterMap, look, Nat.beq, Option.map] at hf
  obtain ⟨N, hN⟩ : ∃ N, N = w.heap.size := ⟨_, rfl⟩
  have hNN : ∀ w', Ext w w' → N ≤ w'.heap.size := fun w' h => by have := h.size; omega
  have l2' : b2 < N := by omega
  have l3' : b3 < N := by omega
  repeat refine seq ?_
  refine regn 4 hf (by decide +kernel) ?_
  refine st (mv rfl) ?_
  refine st (call1 En21 rfl (fun v w' he h => postG (G := fun b => b < N) (fbags_spec F _ w' h hl) (fun b hb => by have := he.size; omega))) ?_
  refine st (lenD Tryz.underlying23 (isR rfl)) ?_
  refine st (mv rfl) ?_
  refine en fun a w e' hf => ?_
  replace hNN := (fun w2 h2 => hNN w2 (Ext.tr e' h2))
  replace e := Ext.tr e e'
  replace B2 := B2.ext e'
  replace B3 := B3.ext e'
  clear e'
  refine tl_nil ?_
  have hN3 : N ≤ w.heap.size := hNN w (Ext.rfl' w)
  obtain ⟨N2, hN2⟩ : ∃ N2, N2 = w.heap.size := ⟨_, rfl⟩
  have hNN2 : N ≤ N2 := by omega
  replace hf := hf.upd 7 rfl (B := Dv treeE (fun b => b < N ∨ N2 ≤ b) F.1) (fun v hv => Dv.weak hv fun b hb h => h.elim id fun h => by omega)
  replace hf := hf.keep [2, 3, 7, 8, 9]
  dsimp only [keep, List.filterMap, look, Nat.beq, Option.map] at hf
  clear hNN
  haveI i3 : InR (fun b => b < N ∨ N2 ≤ b) (some b3) := ⟨fun c hc => by cases hc; exact .inl l3'⟩
  replace hf := hf.keep [2, 3, 7, 8, 9]
  dsimp only [keep, List.filterMap, look, Nat.beq, Option.map] at hf
  repeat refine seq ?_
  refine blk (loopN (fun r0 a w => ∃ (k : Nat) , r0 = F.1.length - k ∧ k ≤ F.1.length ∧ Fr 19 a w [(2, E (.pointer (some ⟨b2, 0, none⟩))), (3, E (.pointer (some ⟨b3, 0, none⟩))), (7, Dv treeE (fun b => b < N ∨ N2 ≤ b) F.1), (8, E (I (F.1.length : Nat))), (9, E (I k))] ∧ Ext W w ∧ Blk w b2 (setC 0) 67 ∧ Blk w b3 (setC (unionTo F.1 k)) 67 ∧ N2 ≤ w.heap.size) F.1.length ⟨0, rfl, by omega, hf, e, B2, B3, Nat.le_of_eq hN2⟩ ?_)
  clear hf e; try clear B2; try clear B3; try clear hN4
  rintro r0 a w ⟨k, rfl, hk, hf, e, B2, B3, hN4⟩
  repeat refine seq ?_
  refine regn 1 hf (by decide +kernel) ?_
  refine st (lss rfl rfl) ?_
  refine en fun a w e' hf => ?_
  replace hN4 := Nat.le_trans hN4 e'.size
  replace e := Ext.tr e e'
  replace B2 := B2.ext e'
  replace B3 := B3.ext e'
  clear e'
  refine tl_nil ?_
  repeat refine seq ?_
  refine ifc hf rfl (fun hc => wskip ?_) (fun hc => wexit ?_)
  rotate_left
  rotate_left
  · have hlt : k < F.1.length := by have := of_decide_eq_true hc; (try dsimp only at this); omega
    clear hc
    replace hf := hf.keep [2, 3, 7, 8, 9]
    dsimp only [keep, List.filterMap, look, Nat.beq, Option.map] at hf
    repeat refine seq ?_
    refine blk ?_
    have hx := bg_get hlt
    repeat refine seq ?_
    refine regn0 ?_
    refine tl_op hf (by decide) (idxD Tryz.underlying23 S69 (isR rfl) rfl (by omega) (hx)) fun a w e' hf => ?_
    replace hN4 := Nat.le_trans hN4 e'.size
    replace e := Ext.tr e e'
    replace B2 := B2.ext e'
    replace B3 := B3.ext e'
    clear e'
    refine tl_op hf (by decide) (ldBag T69 (isR rfl)) fun a w e' hf => ?_
    replace hN4 := Nat.le_trans hN4 e'.size
    replace e := Ext.tr e e'
    replace B2 := B2.ext e'
    replace B3 := B3.ext e'
    clear e'
    refine tl_alloc I69 hf (by decide) fun a b5 w e' hb5 hs5 B5 hf => ?_
    have hle5 := Nat.le_trans e.size (Nat.le_of_eq hb5.symm)
    have lo5_hN4 := Nat.le_trans hN4 (Nat.le_of_eq hb5.symm)
    have lt5_B2 := B2.lt
    have lt5_B3 := B3.lt
    replace hN4 := Nat.le_trans hN4 e'.size
    replace e := Ext.tr e e'
    replace B2 := B2.ext e'
    replace B3 := B3.ext e'
    clear e'
    haveI := (⟨fun c hc => by cases hc; exact .inr (by omega)⟩ : InR (fun b => b < N ∨ N2 ≤ b) (some b5))
    haveI hinr : ∀ G0, InR (GB W G0) (some b5) := fun G0 => InR.gb (by omega)
    refine tl_stW T69 hf rfl rfl (bagC_one _) B5 rfl (bagC_size _) fun w hg hsz B5 hf => ?_
    replace hN4 := Nat.le_trans hN4 (Nat.le_of_eq hsz.symm)
    replace e := e.gr hg (by omega)
    replace B2 := B2.gr hg (by omega)
    replace B3 := B3.gr hg (by omega)
    clear hg
    refine tl_nil ?_
    have h53 : b5 ≠ b3 ∧ b5 ≠ b2 := by omega
    repeat refine seq ?_
    refine regn 4 hf (by decide +kernel) ?_
    refine st (ldW T67 rfl (by assumption) rfl) ?_
    refine st (fldA Tryz.underlying69 rfl T67 (by decide) rfl) ?_
    refine st ((ldP T67 rfl B5 (bagC_le _)).eq (bagC_1 _)) ?_
    refine st (call2 En65 rfl rfl (fun v u w he h h' => by cases h; cases h'; exact union_spec _ _ w)) ?_
    refine en fun a w e' hf => ?_
    replace hN4 := Nat.le_trans hN4 e'.size
    replace e := Ext.tr e e'
    replace B2 := B2.ext e'
    replace B3 := B3.ext e'
    replace B5 := B5.ext e'
    clear e'
    haveI hinr : ∀ G0, InR (GB W G0) (some b3) := fun G0 => InR.gb (by omega)
    refine tl_stW T67 hf rfl rfl (wordsC_one _) B3 rfl (rfl) fun w hg hsz B3 hf => ?_
    replace hN4 := Nat.le_trans hN4 (Nat.le_of_eq hsz.symm)
    replace e := e.gr hg (by omega)
    replace B2 := B2.gr hg (by omega)
    replace B5 := B5.gr hg (by omega)
    clear hg
    refine tl_nil ?_
    try simp only [Exit.then, Exit.inBlock, ↓reduceIte]
    try simp only [Exit.then, Exit.inBlock, ↓reduceIte]
    repeat refine seq ?_
    refine regn 1 hf (by decide +kernel) ?_
    refine st ((add rfl rfl (by omega)).eq (congrArg (Value.int .i64) (show (k : Int) + 1 = ((k + 1 : Nat) : Int) from rfl))) ?_
    refine en fun a w e' hf => ?_
    replace hN4 := Nat.le_trans hN4 e'.size
    replace e := Ext.tr e e'
    replace B2 := B2.ext e'
    replace B3 := B3.ext e'
    replace B5 := B5.ext e'
    clear e'
    refine tl_op hf (by decide) (mv rfl) fun a w e' hf => ?_
    replace hN4 := Nat.le_trans hN4 e'.size
    replace e := Ext.tr e e'
    replace B2 := B2.ext e'
    replace B3 := B3.ext e'
    replace B5 := B5.ext e'
    clear e'
    refine tl_nil ?_
    replace hf := hf.keep [2, 3, 7, 8, 9]
    dsimp only [keep, List.filterMap, look, Nat.beq, Option.map] at hf
    refine ⟨_, ?_, k + 1, rfl, by omega, hf, e, ?_⟩
    · omega
    exact ⟨B2, B3, hN4⟩
  · obtain rfl : k = F.1.length := by have := of_decide_eq_false hc; (try dsimp only at this); omega
    clear hc
    simp only [Exit.then, Exit.inBlock, ↓reduceIte]
    replace hf := hf.keep [2, 3]
    dsimp only [keep, List.filterMap, look, Nat.beq, Option.map] at hf
    repeat refine seq ?_
    refine regn 1 hf (by decide +kernel) ?_
    refine st (ldW T67 rfl (by assumption) rfl) ?_
    refine en fun a w e' hf => ?_
    replace e := Ext.tr e e'
    replace B2 := B2.ext e'
    replace B3 := B3.ext e'
    clear e'
    haveI hinr : ∀ G0, InR (GB W G0) (some b2) := fun G0 => InR.gb (by omega)
    refine tl_stW T67 hf rfl rfl (wordsC_one _) B2 rfl (rfl) fun w hg hsz B2 hf => ?_
    replace e := e.gr hg (by omega)
    replace B3 := B3.gr hg (by omega)
    clear hg
    refine tl_nil ?_
    refine wret (retS rfl T67 hf rfl B2 e rfl)
end Go.Mono

set_option linter.unusedVariables false
set_option linter.unusedSimpArgs false
namespace Go.Mono
open Go Go.RowKit
variable {P : Program} {w0 : World} {L : Env} {dst : Option Tmp} {ty : TypeId} {pos : String} {aft : Array Edge} {g : Option (Nat × Bool)} {x y : Operand} {t te : TypeId}

theorem sz_of {te : TypeId} {s : Nat} (hs : (P.info? te).map (·.size) = some s) (w : World) : (sizeOf te).run P w = .ok s w := by
  cases hi : P.info? te with
  | none => simp [hi] at hs
  | some i => simp [hi] at hs; simp [sizeOf, typeInfo, hi, hs]
/-- s[i:] -/
theorem slcLo {b o n c i : Nat} (ht : P.underlying t = some (.slice te)) (hs : (P.info? te).map (·.size) = some 1) (hx : opd L x = some (E (.slice (some ⟨b, o, none⟩) n c))) (hy : opd L y = some (E (.int .i64 (i : Nat)))) (hi : i ≤ n) (hn : i < c) :
    OpC P w0 L ⟨dst, .slice t x (some y) none none, ty, pos, aft, g⟩ (E (.slice (some ⟨b, o + i, none⟩) (n - i) (c - i))) :=
  opc_pure fun ρ w _ hv => by
    have h1 := opE hv (x := x) (by simp [Op.operands]) hx
    have h2 := opE hv (x := y) (by simp [Op.operands]) hy
    refine ⟨_, ?_, rfl⟩
    have hi' : (0 : Int) ≤ (i : Int) ∧ (i : Int) ≤ (n : Int) := by omega
    have hne : ¬ c = i := by omega
    simp [execOp, h1, h2, Instr.sliceAt, Instr.slice, Instr.sliceBounds, Instr.sliceBound, asIntOf, run_underlying ht, hi, sz_of hs, hne, Addr.add_lit]
/-- s[:i] -/
theorem slcHi {b o n c i : Nat} (ht : P.underlying t = some (.slice te)) (hs : (P.info? te).map (·.size) = some 1) (hx : opd L x = some (E (.slice (some ⟨b, o, none⟩) n c))) (hy : opd L y = some (E (.int .i64 (i : Nat)))) (hi : i ≤ c) :
    OpC P w0 L ⟨dst, .slice t x none (some y) none, ty, pos, aft, g⟩ (E (.slice (some ⟨b, o, none⟩) i c)) :=
  opc_pure fun ρ w _ hv => by
    have h1 := opE hv (x := x) (by simp [Op.operands]) hx
    have h2 := opE hv (x := y) (by simp [Op.operands]) hy
    refine ⟨_, ?_, rfl⟩
    have hi' : (0 : Int) ≤ (i : Int) ∧ (i : Int) ≤ (c : Int) := by omega
    simp [execOp, h1, h2, Instr.sliceAt, Instr.slice, Instr.sliceBounds, Instr.sliceBound, asIntOf, run_underlying ht, hi, sz_of hs, Addr.add_lit]
section tail
variable {r : Option Nat} {ds : List Deferred} {ops : Array Oper} {rest : List Oper} {Q : Exit → Act → World → Prop} {n : Nat} {a : Act} {w : World}
/-- clear(s) -/
theorem tl_clear {b off m c sz bz : Nat} {z : Value} {cs : Array Value} {bt : TypeId} {d : Option Nat} (ht : P.underlying t = some (.slice te)) (hi : (P.info? te).map (fun i => (i.zero, i.size, i.bytes)) = some (some z, sz, bz)) (hz : z.cells = #[z]) (h1 : z.oneCell' = true)
    (hf : FrD n ds a w L) [hL : AvL b L] (hx : opd L x = some (E (.slice (some ⟨b, off, none⟩) m c))) (hb : Blk w b cs bt) (hm : 0 < m) (ho : off + m ≤ cs.size) (hd : ∀ k, d = some k → k < n)
    (k : ∀ a' w', w.grownBy w' (some b) → w'.heap.size = w.heap.size → Blk w' b (cs.toList.take off ++ List.replicate m z ++ cs.toList.drop (off + m)).toArray bt → FrD n ds a' w' (push d Any L) → wpListIn (FW r) 0 P ops Q rest a' w') :
    wpListIn (FW r) 0 P ops Q (⟨d, .call ⟨.builtin .clear, #[x], #[t]⟩, ty, pos, aft, none⟩ :: rest) a w :=
  wpListIn_plain rfl fun K hK => by
    have hxv : a.eval x = .slice (some ⟨b, off, none⟩) m c := hf.opd x _ hx
    obtain ⟨it, hit, hiz, _, _⟩ := info_parts hi
    have hzc : (Builtin.zeroCells z.cells m).toList = List.replicate m z := by
      rw [hz]
      simp [Builtin.zeroCells]
      apply List.ext_getElem
      · simp
      · intro i h1 h2
        simp [Nat.mod_one]
    have hst := run_storeCells_at (P := P) b off bt (List.replicate m z) 0 cs w hb (by simpa using ho) (by intro v hv'; rw [List.eq_of_mem_replicate hv']; exact h1)
    simp only [Nat.add_zero, List.length_replicate] at hst
    obtain ⟨m', rfl⟩ : ∃ k, m = k + 1 := ⟨m - 1, by omega⟩
    have hzv : (zeroValue te).run P w = .ok z w := by simp [zeroValue, typeInfo, hit, hiz]
    have hrun : (Builtin.clear_ #[t] ty #[.slice (some ⟨b, off, none⟩) (m' + 1) c]).run P w = .ok (.tuple #[]) (w.setRow b (cs.toList.take off ++ List.replicate (m' + 1) z ++ cs.toList.drop (off + (m' + 1))).toArray) := by
      simp [Builtin.clear_, run_underlying ht, hzv, hzc, hst]
    refine OpR.wp (R := fun v w' => v = .tuple #[] ∧ w' = w.setRow b (cs.toList.take off ++ List.replicate (m' + 1) z ++ cs.toList.drop (off + (m' + 1))).toArray) ?_ ?_
    · simp only [OpR, execOp, resolve, invoke, builtin, Sem.run_bind, Sem.run_pure, Result.andThen_ok, List.map_toArray, List.map_cons, List.map_nil, hxv, hrun]
      trivial
    · rintro v w' ⟨rfl, rfl⟩
      refine hK _ _ (k _ _ (grownBy_setRow _ _ _) (by simp) (setRow_heap _ _ _ _ _ _ hb) ?_)
      exact (hf.gr (grownBy_setRow _ _ _)).put (d := d) (A := Any) (Ext.rfl' _) hd trivial
end tail
/-- a slice that was made: a block of its own -/
def MkA (B n : Nat) (cs : Array Value) (te : TypeId) : VA := ⟨fun v w => ∃ b, B ≤ b ∧ v = .slice (some ⟨b, 0, none⟩) n n ∧ Blk w b cs te, fun v w w' e ⟨b, h1, h2, h3⟩ => ⟨b, h1, h2, h3.ext e⟩⟩
theorem mkS {z : Value} {k : IntKind} {c sz bz : Nat} (ht : P.underlying t = some (.slice te)) (hi : (P.info? te).map (fun i => (i.zero, i.size, i.bytes)) = some (some z, sz, bz)) (hx : opd L x = some (E (.int k (c : Nat)))) (hc : c ≤ 1048576) (hb : bz ≤ 1048576) :
    OpC P w0 L ⟨dst, .makeSlice t x x, ty, pos, aft, g⟩ (MkA w0.heap.size c (madeCells z.cells (c * sz)) te) := by
  refine ⟨fun ρ w he hv => ?_⟩
  have hxv : ρ x = .int k (c : Nat) := opE hv (x := x) (by simp [Op.operands]) hx
  obtain ⟨it, hit, hiz, hs, hby⟩ := info_parts hi
  have hprod : (bz : Int) * (c : Nat) ≤ 1048576 * 1048576 := Int.mul_le_mul (by omega) (by omega) (by omega) (by omega)
  have hr := run_make (P := P) w t te it z ht hit hiz k k (c : Nat) (c : Nat) (by omega) (by omega) (by rw [hby]; omega) (by omega)
  rw [hs, Int.toNat_natCast] at hr
  simp only [OpR, execOp, hxv, Sem.run_bind, hr, Result.andThen_ok, Sem.run_pure]
  exact ⟨ext_alloc _ _, _, he.size, rfl, blk_alloc _ _ _⟩
/-- a map that was made -/
def MpA (P : Program) (k e : TypeId) (B : Nat) : VA := ⟨fun v w => ∃ b, B ≤ b ∧ v = .map (some b) ∧ MapR P k e w b 0 (fun _ => none), fun v w w' e ⟨b, h1, h2, h3⟩ => ⟨b, h1, h2, h3.pres (e.block b h3.lt)⟩⟩
theorem mkM {k e : TypeId} : OpC P w0 L ⟨dst, .makeMap t none, ty, pos, aft, g⟩ (MpA P k e w0.heap.size) := by
  refine ⟨fun ρ w he hv => ?_⟩
  simp only [OpR, execOp, Sem.run_bind, Option.map_none, run_makeMap, Result.andThen_ok, Sem.run_pure]
  exact ⟨ext_alloc _ _, _, he.size, rfl, MapR.made w⟩
/-- a value in a block of its own -/
def BxA (B : Nat) (A : VA) (e : TypeId) : VA := ⟨fun v w => ∃ b u, B ≤ b ∧ v = .pointer (some ⟨b, 0, none⟩) ∧ A.p u w ∧ Blk w b u.cells e, fun v w w' e ⟨b, u, h1, h2, h3, h4⟩ => ⟨b, u, h1, h2, A.st _ _ _ e h3, h4.ext e⟩⟩
theorem bxD {e : TypeId} {A : VA} (hx : opd L x = some A) : OpC P w0 L ⟨dst, .box e x, ty, pos, aft, g⟩ (BxA w0.heap.size A e) := by
  refine ⟨fun ρ w he hv => ?_⟩
  have hxv := hv x (by simp [Op.operands]) _ hx
  simp only [OpR, execOp, Instr.box, Sem.run_bind, run_newVar, Result.andThen_ok, Sem.run_pure]
  exact ⟨ext_alloc _ _, _, _, he.size, rfl, A.st _ _ _ (ext_alloc _ _) hxv, blk_alloc _ _ _⟩
theorem exE {vs : Array Value} {i : Nat} {u : Value} (hx : opd L x = some (E (.tuple vs))) (hi : vs[i]? = some u) : OpC P w0 L ⟨dst, .extract x i, ty, pos, aft, g⟩ (E u) :=
  opc_pure fun ρ w he hv => by
    have h1 := opE hv (x := x) (by simp [Op.operands]) hx
    have hlt : i < vs.size := (Array.getElem?_eq_some_iff.1 hi).1
    exact ⟨u, by simp [execOp, h1, Instr.extract, hi], rfl⟩
end Go.Mono

set_option linter.unusedVariables false
set_option linter.unusedSimpArgs false
namespace Go.Mono
open Go Go.RowKit

/-- the operation that changes the row: it runs once, ahead of it the world has but grown -/
structure XOpY (P : Program) (w0 : World) (row : Option Nat) (F : World → Prop) (L : Env) (o : Oper) (A : VA) : Prop where
  out : ∀ ρ w, Ext w0 w → (∀ x ∈ o.op.operands, ∀ B, opd L x = some B → B.p (ρ x) w) → OpR P o ρ w (fun v w' => w.grownBy w' row ∧ A.p v w' ∧ F w')

/-- the operations in the order of the text; which one is the row's -/
def RegY (P : Program) (ops : Array Oper) (w0 : World) (row : Option Nat) (F : World → Prop) : Option Nat → List Oper → (Env → Prop) → Env → Prop
  | _, [], K, L => K L
  | some 0, o :: rest, K, L => o.guard = none ∧ ∃ A, XOpY P w0 row F L o A ∧ RegY P ops w0 row F none rest K (push o.dst A L)
  | some (x + 1), o :: rest, K, L => ∃ A, (∀ w1, w0.grownBy w1 row → GOp P ops w1 L o A) ∧ AvR row A ∧ RegY P ops w0 row F (some x) rest K (push o.dst A L)
  | none, o :: rest, K, L => ∃ A, (∀ w1, w0.grownBy w1 row → GOp P ops w1 L o A) ∧ AvR row A ∧ RegY P ops w0 row F none rest K (push o.dst A L)

section
variable {P : Program} {ops : Array Oper} {Q : Exit → Act → World → Prop} {w0 : World} {n : Nat} {ds : List Deferred} {r : Option Nat}

def consFY (A : VA) (As : Nat → VA) : Nat → VA
  | 0 => A
  | i + 1 => As i
theorem envFY_cons (L : Env) (A : VA) (As : Nat → VA) (k j : Nat) : envF ops L (consFY A As) k (j + 1) = envF ops (push (dstOf ops k) A L) As (k + 1) j := by
  rw [← envF_shift]
  congr 1
theorem RegY_As {row : Option Nat} {F : World → Prop} {K : Env → Prop} : ∀ (M : List Oper) (k : Nat) (x : Option Nat) (L : Env), (∀ j, j < M.length → ops[k + j]? = M[j]?) → RegY P ops w0 row F x M K L →
    ∃ As : Nat → VA, (∀ j o, j < M.length → x ≠ some j → ops[k + j]? = some o → (∀ w1, w0.grownBy w1 row → GOp P ops w1 (envF ops L As k j) o (As j)) ∧ AvR row (As j)) ∧
      (∀ j o, j < M.length → x = some j → ops[k + j]? = some o → o.guard = none ∧ XOpY P w0 row F (envF ops L As k j) o (As j)) ∧ K (envF ops L As k M.length)
  | [], k, x, L, _, h => ⟨fun _ => Any, fun j o hj => by simp at hj, fun j o hj => by simp at hj, by
    match x, h with
    | none, h => exact h
    | some 0, h => exact h
    | some (x + 1), h => exact h⟩
  | o :: M, k, x, L, hM, h => by
    have h0 : ops[k]? = some o := by simpa using hM 0 (by simp)
    have hd : dstOf ops k = o.dst := by simp [dstOf, h0]
    obtain ⟨A, x', hA, hx', hr⟩ : ∃ A x', ((x ≠ some 0 → (∀ w1, w0.grownBy w1 row → GOp P ops w1 L o A) ∧ AvR row A) ∧ (x = some 0 → o.guard = none ∧ XOpY P w0 row F L o A)) ∧ (∀ j, x = some (j + 1) ↔ x' = some j) ∧ RegY P ops w0 row F x' M K (push o.dst A L) := by
      match x, h with
      | none, ⟨A, h1, h2, h3⟩ => exact ⟨A, none, ⟨fun _ => ⟨h1, h2⟩, fun h => by cases h⟩, fun j => by simp, h3⟩
      | some 0, ⟨hg, A, h1, h2⟩ => exact ⟨A, none, ⟨fun h => absurd rfl h, fun _ => ⟨hg, h1⟩⟩, fun j => by simp, h2⟩
      | some (x + 1), ⟨A, h1, h2, h3⟩ => exact ⟨A, some x, ⟨fun _ => ⟨h1, h2⟩, fun h => by cases h⟩, fun j => by simp, h3⟩
    obtain ⟨As, h1, h2, h3⟩ := RegY_As M (k + 1) x' (push o.dst A L) (fun j hj => by
      have := hM (j + 1) (by simpa using hj)
      rw [show k + 1 + j = k + (j + 1) by omega]
      simpa using this) hr
    refine ⟨consFY A As, ?_, ?_, ?_⟩
    · intro j o' hj hjx ho'
      cases j with
      | zero =>
        rw [Nat.add_zero, h0] at ho'
        obtain rfl := Option.some.inj ho'
        exact hA.1 hjx
      | succ j =>
        rw [envFY_cons, hd]
        exact h1 j o' (by simpa using hj) (fun h => hjx ((hx' j).2 h)) (by rw [show k + 1 + j = k + (j + 1) by omega]; exact ho')
    · intro j o' hj hjx ho'
      cases j with
      | zero =>
        rw [Nat.add_zero, h0] at ho'
        obtain rfl := Option.some.inj ho'
        exact hA.2 hjx
      | succ j =>
        rw [envFY_cons, hd]
        exact h2 j o' (by simpa using hj) ((hx' j).1 hjx) (by rw [show k + 1 + j = k + (j + 1) by omega]; exact ho')
    · rw [List.length_cons, envFY_cons, hd]
      exact h3

structure InvY (ops : Array Oper) (m x : Nat) (row : Option Nat) (F : World → Prop) (n : Nat) (ds : List Deferred) (w0 : World) (L : Env) (As : Nat → VA) (listed : Array Bool) (a : Act) (w : World) : Prop where
  ext : w0.grownBy w row
  pre : listed.getD x true = false → Ext w0 w
  post : listed.getD x false = true → F w
  size : a.tmps.size = n
  defers : a.defers = ds
  hL : ∀ t A, look L t = some A → (∀ j, j < m → dstOf ops j ≠ some t) → A.p (a.eval (.tmp t)) w
  hA : ∀ i, i < m → listed.getD i false = true → ∀ d, dstOf ops i = some d → (As i).p (a.eval (.tmp d)) w

theorem wpAny_mainY {m x : Nat} {row : Option Nat} {F : World → Prop} (hx0 : x < m) (hFst : ∀ w w', Ext w w' → F w → F w') {L : Env} {As : Nat → VA} (hm : m ≤ ops.size) (hchk : ∀ i, i < m → chkOp ops m n i = true) (hchk2 : ∀ i, m ≤ i → i < ops.size → chkTail ops i = true)
    (hops : ∀ j o, j < m → j ≠ x → ops[j]? = some o → (∀ w1, w0.grownBy w1 row → GOp P ops w1 (envF ops L As 0 j) o (As j)) ∧ AvR row (As j))
    (hX : ∀ o, ops[x]? = some o → o.guard = none ∧ XOpY P w0 row F (envF ops L As 0 x) o (As x)) (hLav : AvRL row L)
    (hend : ∀ a w, w0.grownBy w row → F w → FrD n ds a w (envF ops L As 0 m) → wpListIn (FW r) 0 P ops Q (ops.toList.drop m) a w) :
    ∀ (c : Nat) (listed : Array Bool) (a : Act) (w : World), (List.range m).countP (fun i => !listed.getD i true) = c → listed.size = ops.size →
      (∀ j, m ≤ j → j < ops.size → listed.getD j true = false) → LD ops listed → InvY ops m x row F n ds w0 L As listed a w → wpAnyIn (FW r) 0 P .any ops Q (c + (ops.size - m)) listed a w
  | 0, listed, a, w, hc, hsz, hun, hld, hi => by
    have hall : ∀ j, j < m → listed.getD j false = true := by
      intro j hj
      have := (List.countP_eq_zero.1 hc) j (List.mem_range.2 hj)
      have hjl : j < listed.size := by omega
      simpa [hjl] using this
    rw [Nat.zero_add]
    refine wpAny_tail m hchk2 (ops.size - m) m (by omega) (Nat.le_refl _) listed a w hall hun hsz hld (hend a w hi.ext (hi.post (hall x hx0)) ⟨hi.size, hi.defers, fun t A ht => ?_⟩)
    rcases look_envF L As t A m ht with ⟨j, hj, hd, rfl⟩ | ⟨hn, hl⟩
    · exact hi.hA j hj (hall j hj) t hd
    · exact hi.hL t A hl hn
  | c + 1, listed, a, w, hc, hsz, hun, hld, hi => by
    have facts : ∀ i o, i < m → ops[i]? = some o → (∀ e ∈ o.after, Region.binds .any e = true → e.on < i) ∧ (∀ d, o.dst = some d → d < n) ∧
        (∀ t, t ∈ tmpsOf o ∨ gdst ops o = some t → ∀ j, j < m → dstOf ops j = some t → bnd ops i j = true) ∧ (∀ j, j < m → j ≠ i → ∀ d, o.dst = some d → dstOf ops j ≠ some d) := by
      intro i o hlt ho
      have := hchk i hlt
      simp only [chkOp, ho, Bool.and_eq_true, Array.all_eq_true_iff_forall_mem, Bool.or_eq_true, Bool.not_eq_true', List.all_eq_true, List.mem_range, List.mem_append, Option.mem_toList] at this
      obtain ⟨⟨⟨h1, h2⟩, h3⟩, h4⟩ := this
      refine ⟨fun e he hb => ?_, fun d hd => ?_, fun t ht j hj hd => ?_, fun j hj hne d hd hd' => ?_⟩
      · rcases h1 e he with h | h
        · rw [hb] at h; cases h
        · simpa [Nat.blt_eq] using h
      · simpa [hd, Nat.blt_eq] using h2
      · have := h3 t ht j hj
        rcases this with h | h
        · rw [hd] at h; simp at h
        · exact h
      · have := h4 j hj
        rcases this with h | h
        · exact hne (Nat.eq_of_beq_eq_true h)
        · rw [hd, hd'] at h; simp at h
    have prog : ∃ i, i < m ∧ listed.getD i true = false ∧ ∀ j, j < i → listed.getD j true = true := by
      have hex : ∃ i, i < m ∧ listed.getD i true = false := by
        have hpos : 0 < (List.range m).countP (fun i => !listed.getD i true) := by omega
        obtain ⟨i, hi, hb⟩ := List.countP_pos_iff.1 hpos
        exact ⟨i, List.mem_range.1 hi, by simpa using hb⟩
      obtain ⟨i, hlt, hb⟩ := hex
      induction i using Nat.strongRecOn with
      | _ i ih =>
        by_cases h : ∃ j, j < i ∧ listed.getD j true = false
        · obtain ⟨j, hj, hjb⟩ := h
          exact ih j hj (by omega) hjb
        · refine ⟨i, hlt, hb, fun j hj => ?_⟩
          cases hjb : listed.getD j true with
          | true => rfl
          | false => exact absurd ⟨j, hj, hjb⟩ h
    obtain ⟨i0, hi0, hu0, hbelow⟩ := prog
    have hready : i0 ∈ Region.ready .any ops listed := by
      have ho : ops[i0]? = some (ops[i0]'(by omega)) := by simp
      refine mem_ready.2 ⟨hu0, _, ho, fun e he hb => ?_⟩
      have hlt := (facts i0 _ hi0 ho).1 e he hb
      have := hbelow _ hlt
      have hjl : e.on < listed.size := by omega
      simpa [hjl] using this
    rw [show c + 1 + (ops.size - m) = (c + (ops.size - m)) + 1 by omega]
    refine ⟨fun h0 => (by rw [h0] at hready; cases hready), fun i hir => ?_⟩
    obtain ⟨hu, o, ho, hall⟩ := mem_ready.1 hir
    have hilt : i < ops.size := (Array.getElem?_eq_some_iff.1 ho).1
    have listed_of_bnd : ∀ j, bnd ops i j = true → listed.getD j false = true := by
      intro j hb
      simp only [bnd, ho] at hb
      obtain ⟨e, he, hb⟩ := Array.any_eq_true'.1 hb
      simp only [Bool.and_eq_true] at hb
      have := hall e he hb.1
      rwa [Nat.eq_of_beq_eq_true hb.2] at this
    have him : i < m := by
      rcases Nat.lt_or_ge i m with h | h
      · exact h
      · have hc := hchk2 i h hilt
        simp only [chkTail, ho, Bool.and_eq_true, List.all_eq_true, List.mem_range] at hc
        have := cov hld 12 i i0 (hc.2 i0 (by omega)) (fun o' ho' e he hb => by
          rw [ho] at ho'
          obtain rfl := Option.some.inj ho'
          exact hall e he hb)
        rw [not_listed hu0] at this
        cases this
    obtain ⟨f1, f2, f3, f4⟩ := facts i o him ho
    have byLook : ∀ t, (t ∈ tmpsOf o ∨ gdst ops o = some t) → ∀ B, look (envF ops L As 0 i) t = some B → B.p (a.eval (.tmp t)) w := by
      intro t ht B hB
      rcases look_envF L As t B i hB with ⟨j, hj, hd, rfl⟩ | ⟨hn, hl⟩
      · exact hi.hA j (by omega) (listed_of_bnd j (f3 t ht j (by omega) hd)) t hd
      · refine hi.hL t B hl fun j hj hd => ?_
        have hb := f3 t ht j hj hd
        simp only [bnd, ho] at hb
        obtain ⟨e, he, hb⟩ := Array.any_eq_true'.1 hb
        simp only [Bool.and_eq_true] at hb
        have hlt := f1 e he hb.1
        rw [Nat.eq_of_beq_eq_true hb.2] at hlt
        exact hn j hlt hd
    have ops1 : ∀ x ∈ o.op.operands, ∀ B, opd (envF ops L As 0 i) x = some B → B.p (a.eval x) w := fun x hx B hB => by
      cases x with
      | tmp t => exact byLook t (.inl (List.mem_filterMap.2 ⟨.tmp t, by simpa using hx, rfl⟩)) B hB
      | const v => simp [opd] at hB; subst hB; rfl
      | global g => simp [opd] at hB; subst hB; rfl
      | func f => simp [opd] at hB; subst hB; rfl
    have hdst : dstOf ops i = o.dst := by simp [dstOf, ho]
    have step : ∀ v w', w.grownBy w' row → (i ≠ x → Ext w w') → (i = x → ∀ j, j < m → j ≠ x → AvR row (As j)) → (As i).p v w' → (i = x → F w') → wpAnyIn (FW r) 0 P .any ops Q (c + (ops.size - m)) (listed.setIfInBounds i true) (a.put o.dst v) w' := by
      intro v w' hx hxe hxa hv hvF
      have stab : ∀ (A : VA) u, AvR row A → A.p u w → A.p u w' := fun A u hA h => hA.av _ _ _ hx h
      refine wpAny_mainY hx0 hFst hm hchk hchk2 hops hX hLav hend c _ _ _ ?_ (by simpa using hsz) ?_ ?_ ?_
      · have := countP_upd m (fun j => !listed.getD j true) (fun j => !(listed.setIfInBounds i true).getD j true) i him (by simp only [hu, Bool.not_false])
          (by have hjl : i < listed.size := by omega
              simp [hjl]) (fun j hj => by simp only [getD_set_ne true (Ne.symm hj)])
        omega
      · intro j hj hj'
        rw [getD_set_ne true (by omega)]
        exact hun j hj hj'
      · exact hld.set fun o' ho' e he hb => by
          rw [ho] at ho'
          obtain rfl := Option.some.inj ho'
          exact hall e he hb
      · refine ⟨World.grownBy.trans hi.ext hx, fun hl => ?_, fun hl => ?_, by simp [hi.size], by simp [hi.defers], fun t A ht hn => ?_, fun j hj hl d hd => ?_⟩
        · have hix : i ≠ x := by
            rintro rfl
            have hjl : i < listed.size := by omega
            simp [hjl] at hl
          rw [getD_set_ne true hix] at hl
          exact Ext.tr (hi.pre hl) (hxe hix)
        · by_cases hix : i = x
          · exact hvF hix
          · rw [getD_set_ne false hix] at hl
            exact hFst _ _ (hxe hix) (hi.post hl)
        · have h0 := stab A _ ⟨hLav.av t A ht⟩ (hi.hL t A ht hn)
          cases hod : o.dst with
          | none => exact h0
          | some d =>
            have : d ≠ t := fun e => hn i him (by rw [hdst, hod, e])
            rw [eval_put_ne this]
            exact h0
        · by_cases hji : j = i
          · subst hji
            rw [hdst] at hd
            rw [hd, eval_put_same (by rw [hi.size]; exact f2 d hd)]
            exact hv
          · have hl' : listed.getD j false = true := by rwa [getD_set_ne false (Ne.symm hji)] at hl
            have h1 := hi.hA j hj hl' d hd
            have h0 : (As j).p (a.eval (.tmp d)) w' := by
              by_cases hix : i = x
              · exact stab _ _ (hxa hix j hj (fun h => hji (h.trans hix.symm))) h1
              · exact (As j).st _ _ _ (hxe hix) h1
            cases hod : o.dst with
            | none => exact h0
            | some d' =>
              have : d' ≠ d := fun e => f4 j hj hji d' hod (by rw [hd, e])
              rw [eval_put_ne this]
              exact h0
    unfold wpOpIn
    simp only [ho]
    by_cases hix : i = x
    · obtain ⟨hgd, hxo⟩ := hX o (hix ▸ ho)
      have hw : Region.wanted o (yielded ops a.tmps) = true := by unfold Region.wanted; rw [hgd]
      rw [if_pos hw]
      have hpre : Ext w0 w := hi.pre (hix ▸ hu)
      exact (hxo.out a.eval w hpre (hix ▸ ops1)).wp fun v w' hv => step v w' hv.1 (fun h => absurd hix h) (fun _ j hj hjx => by
        have hoj : ops[j]? = some (ops[j]'(by omega)) := by simp
        exact (hops j _ hj hjx hoj).2) (hix ▸ hv.2.1) (fun _ => hv.2.2)
    · have hg := (hops i o him hix ho).1 w hi.ext a w (Ext.rfl' w) ops1 (fun d B hd hB => byLook d (.inr hd) B hB)
      split
      · rename_i hw
        rw [if_pos hw] at hg
        exact (hg.wp fun v w' hv => step v w' ⟨hv.1.os, hv.1.tape, hv.1.output, hv.1.size, fun k hk _ => hv.1.block k hk⟩ (fun _ => hv.1) (fun h => absurd h hix) hv.2 (fun h => absurd h hix))
      · rename_i hw
        rw [if_neg hw] at hg
        exact ⟨fun _ _ => trivial, step undef w ⟨rfl, rfl, rfl, Nat.le_refl _, fun _ _ _ => rfl⟩ (fun _ => Ext.rfl' _) (fun h => absurd h hix) hg (fun h => absurd h hix)⟩

/-- THE RULE: m operations first, number x of them changes the row -/
theorem regY {id : Nat} {ops : Array Oper} {L : Env} {a : Act} {w : World} (m x : Nat) (row : Option Nat) (F : World → Prop) (hFst : ∀ w w', Ext w w' → F w → F w') (hx : x < m) (hmix : P.follows .mixedOrders = true) (hf : FrD n ds a w L) [hL : AvRL row L] (hchk : chk ops m n = true)
    (h : RegY P ops w row F (some x) (ops.toList.take m) (fun L' => ∀ a' w', w.grownBy w' row → F w' → FrD n ds a' w' L' → wpListIn (FW r) 0 P ops Q (ops.toList.drop m) a' w') L) : (Code.region id ops true).wpIn (FW r) 0 P Q a w := by
  simp only [chk, Bool.and_eq_true, List.all_eq_true, List.mem_range, Bool.or_eq_true, Nat.ble_eq] at hchk
  obtain ⟨⟨hm, h1⟩, h2⟩ := hchk
  refine wpIn_region_any hmix ?_
  have hlen : (ops.toList.take m).length = m := by simp; omega
  obtain ⟨As, hAs, hX, hK⟩ := RegY_As (ops := ops) (ops.toList.take m) 0 (some x) L (fun j hj => by
    rw [hlen] at hj
    rw [Nat.zero_add, List.getElem?_take, if_pos hj]; simp) h
  rw [hlen] at hK hAs hX
  have hdrew : w.grownBy w.drew none := ⟨rfl, rfl, rfl, Nat.le_refl _, fun _ _ _ => rfl⟩
  have hext : Ext w { w with drawn := w.drawn + 1 } := Ext.drew w
  have := wpAny_mainY (P := P) (ops := ops) (Q := Q) (w0 := w) (n := n) (ds := ds) (m := m) (x := x) (row := row) (r := r) (L := L) (As := As) hx hFst hm h1 (fun i hi hi' => by
      rcases h2 i hi' with h | h
      · simp only [Nat.blt_eq] at h; omega
      · exact h) (fun j o hj hjx ho => hAs j o hj (by simpa using fun h => hjx h.symm) (by simpa using ho)) (fun o ho => hX x o hx rfl (by simpa using ho)) hL (fun a w hx hF hf => hK a w hx hF hf) m
    (Array.replicate ops.size false) a { w with drawn := w.drawn + 1 } ?_ (by simp) ?_ ?_ ⟨⟨rfl, rfl, rfl, Nat.le_refl _, fun _ _ _ => rfl⟩, fun _ => hext, fun hl => ?_, hf.size, hf.defers, fun t A ht _ => A.st _ _ _ hext (hf.val t A ht), fun i hi hl => ?_⟩
  · rwa [show m + (ops.size - m) = ops.size by omega] at this
  · have : (List.range m).countP (fun i => !(Array.replicate ops.size false).getD i true) = (List.range m).length := by
      refine List.countP_eq_length.2 fun i hi => ?_
      have := List.mem_range.1 hi
      have hlt : i < ops.size := by omega
      simp [hlt]
    simpa using this
  · intro j _ hj
    simp [hj]
  · intro i o hl
    have : (Array.replicate ops.size false).getD i false = false := by
      by_cases hlt : i < ops.size <;> simp [hlt]
    rw [this] at hl; cases hl
  · have : (Array.replicate ops.size false).getD x false = false := by
      by_cases hlt : x < ops.size <;> simp [hlt]
    rw [this] at hl; cases hl
  · have : (Array.replicate ops.size false).getD i false = false := by
      by_cases hlt : i < ops.size <;> simp [hlt]
    rw [this] at hl; cases hl
end
end Go.Mono
namespace Go.Mono
open Go Go.RowKit
section
variable {P : Program} {w0 : World} {L : Env} {ty : TypeId} {pos : String} {aft : Array Edge}
variable {ops : Array Oper} {rest : List Oper} {K : Env → Prop} {A : VA} {op : Op} {dd : Nat} {row : Option Nat} {F : World → Prop}
theorem ym {x : Nat} (h : ∀ w1, w0.grownBy w1 row → OpC P w1 L ⟨some dd, op, ty, pos, aft, none⟩ A) [hA : AvR row A] (k : RegY P ops w0 row F (some x) rest K ((dd, A) :: L)) : RegY P ops w0 row F (some (x + 1)) (⟨some dd, op, ty, pos, aft, none⟩ :: rest) K L :=
  ⟨A, fun w1 h1 a w he hv _ => by simp only [Region.wanted, if_true]; exact (h w1 h1).out _ w he hv, hA, k⟩
theorem yn (h : ∀ w1, w0.grownBy w1 row → OpC P w1 L ⟨some dd, op, ty, pos, aft, none⟩ A) [hA : AvR row A] (k : RegY P ops w0 row F none rest K ((dd, A) :: L)) : RegY P ops w0 row F none (⟨some dd, op, ty, pos, aft, none⟩ :: rest) K L :=
  ⟨A, fun w1 h1 a w he hv _ => by simp only [Region.wanted, if_true]; exact (h w1 h1).out _ w he hv, hA, k⟩
theorem yx {d : Option Nat} (h : XOpY P w0 row F L ⟨d, op, ty, pos, aft, none⟩ A) (k : RegY P ops w0 row F none rest K (push d A L)) : RegY P ops w0 row F (some 0) (⟨d, op, ty, pos, aft, none⟩ :: rest) K L :=
  ⟨rfl, A, h, k⟩
theorem ye {x : Option Nat} (h : K L) : RegY P ops w0 row F x [] K L := by
  match x, h with
  | none, h => exact h
  | some 0, h => exact h
  | some (x + 1), h => exact h
/-- a store into one cell -/
theorem yst1 {x y : Operand} {t bt : TypeId} {b off : Nat} {v : Value} {cs : Array Value} (ht : TI P t false 1) (hx : opd L x = some (E (.pointer (some ⟨b, off, none⟩)))) (hy : opd L y = some (E v)) (h1 : v.oneCell' = true) (hb : Blk w0 b cs bt) (ho : off < cs.size) :
    XOpY P w0 (some b) (fun w => Blk w b (cs.setIfInBounds off v) bt) L ⟨none, .store t x y, ty, pos, aft, none⟩ Any := by
  refine ⟨fun ρ w he hv => ?_⟩
  have hxv : ρ x = .pointer (some ⟨b, off, none⟩) := hv x (by simp [Op.operands]) _ hx
  have hyv : ρ y = v := hv y (by simp [Op.operands]) _ hy
  have hb' := hb.ext he
  have hc : v.cells = #[v] := by cases v <;> simp [Value.cells, Value.oneCell'] at h1 ⊢
  have hrun := run_storeCells_at (P := P) b off bt [v] 0 cs w hb' (by simp; omega) (by simpa using h1)
  have e := setRow_take cs off v ho
  simp only [List.length_singleton, Nat.add_zero] at hrun
  rw [e] at hrun
  simp only [OpR, execOp, Sem.run_bind, Instr.storeAt, Instr.sureAddr, hxv, hyv, storeVar, hc, ht.size, hrun, Result.andThen_ok, Sem.run_pure]
  simp [ht.size, hrun]
  exact ⟨grownBy_setRow _ _ _, trivial, setRow_heap _ _ _ _ _ _ hb'⟩
end
end Go.Mono

set_option linter.unusedVariables false
namespace Go.Mono
open Go Go.Proofs Go.RowKit

theorem feh1_spec (b : Int × BS) (p q : Nat) (x y : Int) (W : World) (B1 : Blk W p #[I x] 3) (B2 : Blk W q #[I y] 3) :
    Calls Tryz.prog 87 #[bagV b, .pointer (some ⟨p, 0, none⟩), .pointer (some ⟨q, 0, none⟩)] W (Post (E (B (has b.2 x && has b.2 y))) W) := by
  refine enter (args := [bagV b, .pointer (some ⟨p, 0, none⟩), .pointer (some ⟨q, 0, none⟩)]) (As := [E (bagV b), E (.pointer (some ⟨p, 0, none⟩)), E (.pointer (some ⟨q, 0, none⟩))]) Tryz.func87 rfl Tryz.ntmps87 (Nat.le_of_ble_eq_true rfl) ?_ (fun a hf => ?_) (Nat.le_of_ble_eq_true rfl)
  rotate_left
  dsimp only [params, Nat.reduceAdd] at hf
  rotate_right
  · exact arg3 rfl rfl rfl
  have e := Ext.rfl' W
  repeat refine seq ?_
  refine regn0 ?_
  refine tl_box hf rfl (by decide) fun a b3 w v3 hv3 e' hb3 hs3 B3 hf => ?_
  have hle3 := Nat.le_trans e.size (Nat.le_of_eq hb3.symm)
  have lt3_B1 := B1.lt
  have lt3_B2 := B2.lt
  replace e := Ext.tr e e'
  replace B1 := B1.ext e'
  replace B2 := B2.ext e'
  clear e'
  refine tl_as hf rfl (by decide) fun a hf => ?_
  refine tl_nil ?_
  cases hv3
  cases h1 : has b.2 x
  · repeat refine seq ?_
    refine regn 10 hf (by decide +kernel) ?_
    refine st (fldA Tryz.underlying69 rfl T67 (by decide) rfl) ?_
    refine st ((ldP T67 rfl B3 (bagC_le _)).eq (bagC_1 _)) ?_
    refine st (ld1 T3 rfl B1 rfl) ?_
    refine st ((call2 En81 rfl rfl (fun v u w he h h' => by cases h; cases h'; exact has_spec _ _ w)).eq (congrArg Value.bool (h1))) ?_
    refine st (mv rfl) ?_
    first | refine sn rfl rfl rfl ?_ | refine su rfl rfl ?_ | refine sy rfl rfl (fldA Tryz.underlying69 rfl T67 (by decide) rfl) ?_
    first | refine sn rfl rfl rfl ?_ | refine su rfl rfl ?_ | refine sy rfl rfl ((ldP T67 rfl B3 (bagC_le _)).eq (bagC_1 _)) ?_
    first | refine sn rfl rfl rfl ?_ | refine su rfl rfl ?_ | refine sy rfl rfl (ld1 T3 rfl (by assumption) rfl) ?_
    first | refine sn rfl rfl rfl ?_ | refine su rfl rfl ?_ | refine sy rfl rfl (TODO_call) ?_
    first | refine st (pkT rfl rfl) ?_ | refine st (pkF rfl rfl) ?_ | refine st (pk rfl rfl rfl) ?_
    refine en fun a w e' hf => ?_
    replace e := Ext.tr e e'
    replace B1 := B1.ext e'
    replace B2 := B2.ext e'
    replace B3 := B3.ext e'
    clear e'
    refine tl_as hf rfl (by decide) fun a hf => ?_
    refine tl_nil ?_
    refine wret ?_
    try simp only [Exit.then, Exit.inBlock]
    refine ret1 rfl hf rfl ?_
    rintro _ rfl
    exact ⟨_, rfl, e, rfl⟩
  · repeat refine seq ?_
    refine regn 10 hf (by decide +kernel) ?_
    refine st (fldA Tryz.underlying69 rfl T67 (by decide) rfl) ?_
    refine st ((ldP T67 rfl B3 (bagC_le _)).eq (bagC_1 _)) ?_
    refine st (ld1 T3 rfl B1 rfl) ?_
    refine st ((call2 En81 rfl rfl (fun v u w he h h' => by cases h; cases h'; exact has_spec _ _ w)).eq (congrArg Value.bool (h1))) ?_
    refine st (mv rfl) ?_
    first | refine sn rfl rfl rfl ?_ | refine su rfl rfl ?_ | refine sy rfl rfl (fldA Tryz.underlying69 rfl T67 (by decide) rfl) ?_
    first | refine sn rfl rfl rfl ?_ | refine su rfl rfl ?_ | refine sy rfl rfl ((ldP T67 rfl B3 (bagC_le _)).eq (bagC_1 _)) ?_
    first | refine sn rfl rfl rfl ?_ | refine su rfl rfl ?_ | refine sy rfl rfl (ld1 T3 rfl B2 rfl) ?_
    first | refine sn rfl rfl rfl ?_ | refine su rfl rfl ?_ | refine sy rfl rfl (call2 En81 rfl rfl (fun v u w he h h' => by cases h; cases h'; exact has_spec _ _ w)) ?_
    first | refine st (pkT rfl rfl) ?_ | refine st (pkF rfl rfl) ?_ | refine st (pk rfl rfl rfl) ?_
    refine en fun a w e' hf => ?_
    replace e := Ext.tr e e'
    replace B1 := B1.ext e'
    replace B2 := B2.ext e'
    replace B3 := B3.ext e'
    clear e'
    refine tl_as hf rfl (by decide) fun a hf => ?_
    refine tl_nil ?_
    refine wret ?_
    try simp only [Exit.then, Exit.inBlock]
    refine ret1 rfl hf rfl ?_
    rintro _ rfl
    exact ⟨_, rfl, e, rfl⟩

/-- some bag has both -/
def bothF (t : List (Int × BS)) (x y : Int) : Bool := decide (0 ≤ fstB (fun b => has b.2 x && has b.2 y) t)
def ehF (F : Fm) (x y : Int) : Int × Bool :=
  if ((F.2.2 x).isSome && ((F.2.2 y).isSome && (!(x == y) && bothF F.1 x y))) = true then
    (if (ofF F ((F.2.2 y).getD 0)).2.2.2.2 < (ofF F ((F.2.2 x).getD 0)).2.2.2.2 then (F.2.2 x).getD 0 else (F.2.2 y).getD 0, true)
  else (0, false)

theorem fehome_spec {G : Nat → Prop} (F : Fm) (x y : Int) (v : Value) (W : World) (h : (Dv (ptE frE) G (some F)).p v W) (hw : (Lit.int .i64 x).wf = true) (hw' : (Lit.int .i64 y).wf = true) (hl : F.1.length ≤ 4096) (hn : F.2.1.length = F.1.length) :
    Calls Tryz.prog 32 #[v, I x, I y] W (Post (E (.tuple #[I (ehF F x y).1, B (ehF F x y).2])) W) := by
  refine enter (args := [v, I x, I y]) (As := [Dv (ptE frE) (GB W G) (some F), E (I x), E (I y)]) Tryz.func32 rfl Tryz.ntmps32 (Nat.le_of_ble_eq_true rfl) ?_ (fun a hf => ?_) (Nat.le_of_ble_eq_true rfl)
  rotate_left
  dsimp only [params, Nat.reduceAdd] at hf
  rotate_right
  · exact arg3 (Dv.toB h) rfl rfl
  have e := Ext.rfl' W
  repeat refine seq ?_
  refine regn0 ?_
  refine tl_box hf rfl (by decide) fun a b4 w v4 hv4 e' hb4 hs4 B4 hf => ?_
  have hle4 := Nat.le_trans e.size (Nat.le_of_eq hb4.symm)
  replace e := Ext.tr e e'
  clear e'
  refine tl_box hf rfl (by decide) fun a b5 w v5 hv5 e' hb5 hs5 B5 hf => ?_
  have hle5 := Nat.le_trans e.size (Nat.le_of_eq hb5.symm)
  have lt5_B4 := B4.lt
  replace e := Ext.tr e e'
  replace B4 := B4.ext e'
  clear e'
  refine tl_as hf rfl (by decide) fun a hf => ?_
  refine tl_as hf rfl (by decide) fun a hf => ?_
  refine tl_nil ?_
  cases hv4
  cases hv5
  have hne : b4 ≠ b5 := by omega
  repeat refine seq ?_
  refine regn 6 hf (by decide +kernel) ?_
  refine st (mv rfl) ?_
  refine st (ld1 T3 rfl B4 rfl) ?_
  refine st (call2 En31 rfl rfl (fun v u w he h h' => by cases h'; exact fvhome_spec F _ _ w h hw)) ?_
  refine st (mv rfl) ?_
  refine st (exE rfl rfl) ?_
  refine st (exE rfl rfl) ?_
  refine en fun a w e' hf => ?_
  replace e := Ext.tr e e'
  replace B4 := B4.ext e'
  replace B5 := B5.ext e'
  clear e'
  refine tl_as hf rfl (by decide) fun a hf => ?_
  refine tl_as hf rfl (by decide) fun a hf => ?_
  refine tl_nil ?_
  replace hf := hf.keep [0, 4, 5, 6, 7, 8, 9]
  dsimp only [keep, List.filterMap, look, Nat.beq, Option.map] at hf
  repeat refine seq ?_
  refine regn 6 hf (by decide +kernel) ?_
  refine st (mv rfl) ?_
  refine st (ld1 T3 rfl B5 rfl) ?_
  refine st (call2 En31 rfl rfl (fun v u w he h h' => by cases h'; exact fvhome_spec F _ _ w h hw')) ?_
  refine st (mv rfl) ?_
  refine st (exE rfl rfl) ?_
  refine st (exE rfl rfl) ?_
  refine en fun a w e' hf => ?_
  replace e := Ext.tr e e'
  replace B4 := B4.ext e'
  replace B5 := B5.ext e'
  clear e'
  refine tl_as hf rfl (by decide) fun a hf => ?_
  refine tl_as hf rfl (by decide) fun a hf => ?_
  refine tl_nil ?_
  replace hf := hf.keep [0, 4, 5, 6, 7, 8, 9, 10, 11]
  dsimp only [keep, List.filterMap, look, Nat.beq, Option.map] at hf
  have no : ((F.2.2 x).isSome && ((F.2.2 y).isSome && (!(x == y) && bothF F.1 x y))) = false → ehF F x y = (0, false) := fun h => by rw [ehF, if_neg (by rw [h]; decide)]
  have yes : ((F.2.2 x).isSome && ((F.2.2 y).isSome && (!(x == y) && bothF F.1 x y))) = true → ehF F x y = (if (ofF F ((F.2.2 y).getD 0)).2.2.2.2 < (ofF F ((F.2.2 x).getD 0)).2.2.2.2 then (F.2.2 x).getD 0 else (F.2.2 y).getD 0, true) := fun h => by rw [ehF, if_pos h]
  cases h1 : (F.2.2 x).isSome
  · rw [h1] at hf
    repeat refine seq ?_
    refine regn 20 hf (by decide +kernel) ?_
    refine st (mv rfl) ?_
    refine st (notp rfl) ?_
    refine st (mv rfl) ?_
    first | refine sn rfl rfl rfl ?_ | refine su rfl rfl ?_ | refine sy rfl rfl (mv rfl) ?_
    first | refine sn rfl rfl rfl ?_ | refine su rfl rfl ?_ | refine sy rfl rfl (notp rfl) ?_
    first | refine st (pkT rfl rfl) ?_ | refine st (pkF rfl rfl) ?_ | refine st (pk rfl rfl rfl) ?_
    refine st (mv rfl) ?_
    first | refine sn rfl rfl rfl ?_ | refine su rfl rfl ?_ | refine sy rfl rfl (ld1 T3 rfl (by assumption) rfl) ?_
    first | refine sn rfl rfl rfl ?_ | refine su rfl rfl ?_ | refine sy rfl rfl (ld1 T3 rfl (by assumption) rfl) ?_
    first | refine sn rfl rfl rfl ?_ | refine su rfl rfl ?_ | refine sy rfl rfl (eql rfl rfl) ?_
    first | refine st (pkT rfl rfl) ?_ | refine st (pkF rfl rfl) ?_ | refine st (pk rfl rfl rfl) ?_
    refine st (mv rfl) ?_
    first | refine sn rfl rfl rfl ?_ | refine su rfl rfl ?_ | refine sy rfl rfl (mv rfl) ?_
    first | refine sn rfl rfl rfl ?_ | refine su rfl rfl ?_ | refine sy rfl rfl (nilC (isR rfl)) ?_
    first | refine sn rfl rfl rfl ?_ | refine su rfl rfl ?_ | refine sy rfl rfl (fldD Tryz.underlying99 rfl T23 (by decide) (Fld.fst Fld.refl) (isR rfl)) ?_
    first | refine sn rfl rfl rfl ?_ | refine su rfl rfl ?_ | refine sy rfl rfl (ldD T23 (isR rfl)) ?_
    first | refine sn rfl rfl rfl ?_ | refine su rfl rfl ?_ | refine sy rfl rfl (makeF2 rfl rfl) ?_
    first | refine sn rfl rfl rfl ?_ | refine su rfl rfl ?_ | refine sy rfl rfl (TODO_call) ?_
    first | refine sn rfl rfl rfl ?_ | refine su rfl rfl ?_ | refine sy rfl rfl (notp rfl) ?_
    first | refine st (pkT rfl rfl) ?_ | refine st (pkF rfl rfl) ?_ | refine st (pk rfl rfl rfl) ?_
    refine en fun a w e' hf => ?_
    replace e := Ext.tr e e'
    replace B4 := B4.ext e'
    replace B5 := B5.ext e'
    clear e'
    refine tl_nil ?_
    repeat refine seq ?_
    refine ifc hf rfl (fun _ => ?_) (fun h => by cases h)
    repeat refine seq ?_
    refine regn0 ?_
    refine tl_as hf rfl (by decide) fun a hf => ?_
    refine tl_as hf rfl (by decide) fun a hf => ?_
    refine tl_nil ?_
    refine wret (ret2 rfl hf rfl rfl ?_)
    rintro _ _ rfl rfl
    exact ⟨_, rfl, e, by rw [no (by rw [h1]; rfl)]; rfl⟩
  cases h2 : (F.2.2 y).isSome
  · rw [h1, h2] at hf
    repeat refine seq ?_
    refine regn 20 hf (by decide +kernel) ?_
    refine st (mv rfl) ?_
    refine st (notp rfl) ?_
    refine st (mv rfl) ?_
    first | refine sn rfl rfl rfl ?_ | refine su rfl rfl ?_ | refine sy rfl rfl (mv rfl) ?_
    first | refine sn rfl rfl rfl ?_ | refine su rfl rfl ?_ | refine sy rfl rfl (notp rfl) ?_
    first | refine st (pkT rfl rfl) ?_ | refine st (pkF rfl rfl) ?_ | refine st (pk rfl rfl rfl) ?_
    refine st (mv rfl) ?_
    first | refine sn rfl rfl rfl ?_ | refine su rfl rfl ?_ | refine sy rfl rfl (ld1 T3 rfl (by assumption) rfl) ?_
    first | refine sn rfl rfl rfl ?_ | refine su rfl rfl ?_ | refine sy rfl rfl (ld1 T3 rfl (by assumption) rfl) ?_
    first | refine sn rfl rfl rfl ?_ | refine su rfl rfl ?_ | refine sy rfl rfl (eql rfl rfl) ?_
    first | refine st (pkT rfl rfl) ?_ | refine st (pkF rfl rfl) ?_ | refine st (pk rfl rfl rfl) ?_
    refine st (mv rfl) ?_
    first | refine sn rfl rfl rfl ?_ | refine su rfl rfl ?_ | refine sy rfl rfl (mv rfl) ?_
    first | refine sn rfl rfl rfl ?_ | refine su rfl rfl ?_ | refine sy rfl rfl (nilC (isR rfl)) ?_
    first | refine sn rfl rfl rfl ?_ | refine su rfl rfl ?_ | refine sy rfl rfl (fldD Tryz.underlying99 rfl T23 (by decide) (Fld.fst Fld.refl) (isR rfl)) ?_
    first | refine sn rfl rfl rfl ?_ | refine su rfl rfl ?_ | refine sy rfl rfl (ldD T23 (isR rfl)) ?_
    first | refine sn rfl rfl rfl ?_ | refine su rfl rfl ?_ | refine sy rfl rfl (makeF2 rfl rfl) ?_
    first | refine sn rfl rfl rfl ?_ | refine su rfl rfl ?_ | refine sy rfl rfl (TODO_call) ?_
    first | refine sn rfl rfl rfl ?_ | refine su rfl rfl ?_ | refine sy rfl rfl (notp rfl) ?_
    first | refine st (pkT rfl rfl) ?_ | refine st (pkF rfl rfl) ?_ | refine st (pk rfl rfl rfl) ?_
    refine en fun a w e' hf => ?_
    replace e := Ext.tr e e'
    replace B4 := B4.ext e'
    replace B5 := B5.ext e'
    clear e'
    refine tl_nil ?_
    repeat refine seq ?_
    refine ifc hf rfl (fun _ => ?_) (fun h => by cases h)
    repeat refine seq ?_
    refine regn0 ?_
    refine tl_as hf rfl (by decide) fun a hf => ?_
    refine tl_as hf rfl (by decide) fun a hf => ?_
    refine tl_nil ?_
    refine wret (ret2 rfl hf rfl rfl ?_)
    rintro _ _ rfl rfl
    exact ⟨_, rfl, e, by rw [no (by rw [h1, h2]; rfl)]; rfl⟩
  rw [h1, h2] at hf
  cases h3 : (x == y)
  rotate_left
  · repeat refine seq ?_
    refine regn 20 hf (by decide +kernel) ?_
    refine st (mv rfl) ?_
    refine st (notp rfl) ?_
    refine st (mv rfl) ?_
    first | refine sn rfl rfl rfl ?_ | refine su rfl rfl ?_ | refine sy rfl rfl (mv rfl) ?_
    first | refine sn rfl rfl rfl ?_ | refine su rfl rfl ?_ | refine sy rfl rfl (notp rfl) ?_
    first | refine st (pkT rfl rfl) ?_ | refine st (pkF rfl rfl) ?_ | refine st (pk rfl rfl rfl) ?_
    refine st (mv rfl) ?_
    first | refine sn rfl rfl rfl ?_ | refine su rfl rfl ?_ | refine sy rfl rfl (ld1 T3 rfl B4 rfl) ?_
    first | refine sn rfl rfl rfl ?_ | refine su rfl rfl ?_ | refine sy rfl rfl (ld1 T3 rfl B5 rfl) ?_
    first | refine sn rfl rfl rfl ?_ | refine su rfl rfl ?_ | refine sy rfl rfl ((eql rfl rfl).eq (congrArg Value.bool (h3))) ?_
    first | refine st (pkT rfl rfl) ?_ | refine st (pkF rfl rfl) ?_ | refine st (pk rfl rfl rfl) ?_
    refine st (mv rfl) ?_
    first | refine sn rfl rfl rfl ?_ | refine su rfl rfl ?_ | refine sy rfl rfl (mv rfl) ?_
    first | refine sn rfl rfl rfl ?_ | refine su rfl rfl ?_ | refine sy rfl rfl (nilC (isR rfl)) ?_
    first | refine sn rfl rfl rfl ?_ | refine su rfl rfl ?_ | refine sy rfl rfl (fldD Tryz.underlying99 rfl T23 (by decide) (Fld.fst Fld.refl) (isR rfl)) ?_
    first | refine sn rfl rfl rfl ?_ | refine su rfl rfl ?_ | refine sy rfl rfl (ldD T23 (isR rfl)) ?_
    first | refine sn rfl rfl rfl ?_ | refine su rfl rfl ?_ | refine sy rfl rfl (makeF2 rfl rfl) ?_
    first | refine sn rfl rfl rfl ?_ | refine su rfl rfl ?_ | refine sy rfl rfl (TODO_call) ?_
    first | refine sn rfl rfl rfl ?_ | refine su rfl rfl ?_ | refine sy rfl rfl (notp rfl) ?_
    first | refine st (pkT rfl rfl) ?_ | refine st (pkF rfl rfl) ?_ | refine st (pk rfl rfl rfl) ?_
    refine en fun a w e' hf => ?_
    replace e := Ext.tr e e'
    replace B4 := B4.ext e'
    replace B5 := B5.ext e'
    clear e'
    refine tl_nil ?_
    repeat refine seq ?_
    refine ifc hf rfl (fun _ => ?_) (fun h => by cases h)
    repeat refine seq ?_
    refine regn0 ?_
    refine tl_as hf rfl (by decide) fun a hf => ?_
    refine tl_as hf rfl (by decide) fun a hf => ?_
    refine tl_nil ?_
    refine wret (ret2 rfl hf rfl rfl ?_)
    rintro _ _ rfl rfl
    exact ⟨_, rfl, e, by rw [no (by rw [h1, h2, h3]; rfl)]; rfl⟩
  cases h4 : bothF F.1 x y
  · repeat refine seq ?_
    refine regn 20 hf (by decide +kernel) ?_
    refine st (mv rfl) ?_
    refine st (notp rfl) ?_
    refine st (mv rfl) ?_
    first | refine sn rfl rfl rfl ?_ | refine su rfl rfl ?_ | refine sy rfl rfl (mv rfl) ?_
    first | refine sn rfl rfl rfl ?_ | refine su rfl rfl ?_ | refine sy rfl rfl (notp rfl) ?_
    first | refine st (pkT rfl rfl) ?_ | refine st (pkF rfl rfl) ?_ | refine st (pk rfl rfl rfl) ?_
    refine st (mv rfl) ?_
    first | refine sn rfl rfl rfl ?_ | refine su rfl rfl ?_ | refine sy rfl rfl (ld1 T3 rfl B4 rfl) ?_
    first | refine sn rfl rfl rfl ?_ | refine su rfl rfl ?_ | refine sy rfl rfl (ld1 T3 rfl B5 rfl) ?_
    first | refine sn rfl rfl rfl ?_ | refine su rfl rfl ?_ | refine sy rfl rfl ((eql rfl rfl).eq (congrArg Value.bool (h3))) ?_
    first | refine st (pkT rfl rfl) ?_ | refine st (pkF rfl rfl) ?_ | refine st (pk rfl rfl rfl) ?_
    refine st (mv rfl) ?_
    first | refine sn rfl rfl rfl ?_ | refine su rfl rfl ?_ | refine sy rfl rfl (mv rfl) ?_
    first | refine sn rfl rfl rfl ?_ | refine su rfl rfl ?_ | refine sy rfl rfl (nilC (isR rfl)) ?_
    first | refine sn rfl rfl rfl ?_ | refine su rfl rfl ?_ | refine sy rfl rfl (fldD Tryz.underlying99 rfl T23 (by decide) (Fld.fst Fld.refl) (isR rfl)) ?_
    first | refine sn rfl rfl rfl ?_ | refine su rfl rfl ?_ | refine sy rfl rfl (ldD T23 (isR rfl)) ?_
    first | refine sn rfl rfl rfl ?_ | refine su rfl rfl ?_ | refine sy rfl rfl (makeF2 rfl rfl) ?_
    first | refine sn rfl rfl rfl ?_ | refine su rfl rfl ?_ | refine sy rfl rfl ((call2 En71 rfl rfl (fun v u w he h h' => by cases h'; exact containsFunc_spec F.1 _ _ _ (fun b => has b.2 x && has b.2 y) w En87 h (fun w' b he' => feh1_spec b _ _ x y w' (B4.ext (Ext.tr he he')) (B5.ext (Ext.tr he he'))) hl)).eq (congrArg Value.bool (h4))) ?_
    first | refine sn rfl rfl rfl ?_ | refine su rfl rfl ?_ | refine sy rfl rfl (notp rfl) ?_
    first | refine st (pkT rfl rfl) ?_ | refine st (pkF rfl rfl) ?_ | refine st (pk rfl rfl rfl) ?_
    refine en fun a w e' hf => ?_
    replace e := Ext.tr e e'
    replace B4 := B4.ext e'
    replace B5 := B5.ext e'
    clear e'
    refine tl_nil ?_
    repeat refine seq ?_
    refine ifc hf rfl (fun _ => ?_) (fun h => by cases h)
    repeat refine seq ?_
    refine regn0 ?_
    refine tl_as hf rfl (by decide) fun a hf => ?_
    refine tl_as hf rfl (by decide) fun a hf => ?_
    refine tl_nil ?_
    refine wret (ret2 rfl hf rfl rfl ?_)
    rintro _ _ rfl rfl
    exact ⟨_, rfl, e, by rw [no (by rw [h1, h2, h3, h4]; rfl)]; rfl⟩
  · repeat refine seq ?_
    refine regn 20 hf (by decide +kernel) ?_
    refine st (mv rfl) ?_
    refine st (notp rfl) ?_
    refine st (mv rfl) ?_
    first | refine sn rfl rfl rfl ?_ | refine su rfl rfl ?_ | refine sy rfl rfl (mv rfl) ?_
    first | refine sn rfl rfl rfl ?_ | refine su rfl rfl ?_ | refine sy rfl rfl (notp rfl) ?_
    first | refine st (pkT rfl rfl) ?_ | refine st (pkF rfl rfl) ?_ | refine st (pk rfl rfl rfl) ?_
    refine st (mv rfl) ?_
    first | refine sn rfl rfl rfl ?_ | refine su rfl rfl ?_ | refine sy rfl rfl (ld1 T3 rfl B4 rfl) ?_
    first | refine sn rfl rfl rfl ?_ | refine su rfl rfl ?_ | refine sy rfl rfl (ld1 T3 rfl B5 rfl) ?_
    first | refine sn rfl rfl rfl ?_ | refine su rfl rfl ?_ | refine sy rfl rfl ((eql rfl rfl).eq (congrArg Value.bool (h3))) ?_
    first | refine st (pkT rfl rfl) ?_ | refine st (pkF rfl rfl) ?_ | refine st (pk rfl rfl rfl) ?_
    refine st (mv rfl) ?_
    first | refine sn rfl rfl rfl ?_ | refine su rfl rfl ?_ | refine sy rfl rfl (mv rfl) ?_
    first | refine sn rfl rfl rfl ?_ | refine su rfl rfl ?_ | refine sy rfl rfl (nilC (isR rfl)) ?_
    first | refine sn rfl rfl rfl ?_ | refine su rfl rfl ?_ | refine sy rfl rfl (fldD Tryz.underlying99 rfl T23 (by decide) (Fld.fst Fld.refl) (isR rfl)) ?_
    first | refine sn rfl rfl rfl ?_ | refine su rfl rfl ?_ | refine sy rfl rfl (ldD T23 (isR rfl)) ?_
    first | refine sn rfl rfl rfl ?_ | refine su rfl rfl ?_ | refine sy rfl rfl (makeF2 rfl rfl) ?_
    first | refine sn rfl rfl rfl ?_ | refine su rfl rfl ?_ | refine sy rfl rfl ((call2 En71 rfl rfl (fun v u w he h h' => by cases h'; exact containsFunc_spec F.1 _ _ _ (fun b => has b.2 x && has b.2 y) w En87 h (fun w' b he' => feh1_spec b _ _ x y w' (B4.ext (Ext.tr he he')) (B5.ext (Ext.tr he he'))) hl)).eq (congrArg Value.bool (h4))) ?_
    first | refine sn rfl rfl rfl ?_ | refine su rfl rfl ?_ | refine sy rfl rfl (notp rfl) ?_
    first | refine st (pkT rfl rfl) ?_ | refine st (pkF rfl rfl) ?_ | refine st (pk rfl rfl rfl) ?_
    refine en fun a w e' hf => ?_
    replace e := Ext.tr e e'
    replace B4 := B4.ext e'
    replace B5 := B5.ext e'
    clear e'
    refine tl_nil ?_
    have hy := yes (by rw [h1, h2, h3, h4]; rfl)
    repeat refine seq ?_
    refine ifc hf rfl (fun h => by cases h) (fun _ => ?_)
    refine wskip ?_
    try simp only [Exit.then, Exit.inBlock, ↓reduceIte]
    replace hf := hf.keep [0, 6, 7, 8, 10]
    dsimp only [keep, List.filterMap, look, Nat.beq, Option.map] at hf
    repeat refine seq ?_
    refine regn 7 hf (by decide +kernel) ?_
    refine st (mv rfl) ?_
    refine st (mv rfl) ?_
    refine st (call2 En88 rfl rfl (fun v u w he h h' => by cases h'; exact fdepth_spec F _ _ w h hn)) ?_
    refine st (mv rfl) ?_
    refine st (mv rfl) ?_
    refine st (call2 En88 rfl rfl (fun v u w he h h' => by cases h'; exact fdepth_spec F _ _ w h hn)) ?_
    refine st (gtr rfl rfl) ?_
    refine en fun a w e' hf => ?_
    replace e := Ext.tr e e'
    replace B4 := B4.ext e'
    replace B5 := B5.ext e'
    clear e'
    refine tl_nil ?_
    repeat refine seq ?_
    refine ifc hf rfl (fun hb => ?_) (fun hb => ?_)
    · rw [if_pos (of_decide_eq_true hb)] at hy
      repeat refine seq ?_
      refine regn 1 hf (by decide +kernel) ?_
      refine st (mv rfl) ?_
      refine en fun a w e' hf => ?_
      replace e := Ext.tr e e'
      replace B4 := B4.ext e'
      replace B5 := B5.ext e'
      clear e'
      refine tl_as hf rfl (by decide) fun a hf => ?_
      refine tl_as hf rfl (by decide) fun a hf => ?_
      refine tl_nil ?_
      refine wret (ret2 rfl hf rfl rfl ?_)
      rintro _ _ rfl rfl
      exact ⟨_, rfl, e, by rw [hy]; rfl⟩
    · rw [if_neg (of_decide_eq_false hb)] at hy
      refine wskip ?_
      try simp only [Exit.then, Exit.inBlock, ↓reduceIte]
      repeat refine seq ?_
      refine regn 1 hf (by decide +kernel) ?_
      refine st (mv rfl) ?_
      refine en fun a w e' hf => ?_
      replace e := Ext.tr e e'
      replace B4 := B4.ext e'
      replace B5 := B5.ext e'
      clear e'
      refine tl_as hf rfl (by decide) fun a hf => ?_
      refine tl_as hf rfl (by decide) fun a hf => ?_
      refine tl_nil ?_
      refine wret (ret2 rfl hf rfl rfl ?_)
      rintro _ _ rfl rfl
      exact ⟨_, rfl, e, by rw [hy]; rfl⟩
end Go.Mono

set_option linter.unusedVariables false
namespace Go.Mono
open Go Go.Proofs Go.RowKit

structure Vals (xs : List RB) : Prop where
  range : ∀ i, i < xs.length → -1 ≤ up xs i ∧ up xs i < xs.length
  root : (selN (fun i => decide (up xs i < 0)) xs.length).length = 1
  loop : ∀ i, i < xs.length → (above xs i).isSome = true
  dup : ∀ i, i < xs.length → ∀ id ∈ hs xs i, (topsR xs id).length = 1
open Classical in
/-- the error's number -/
noncomputable def chkR (xs : List RB) : Int :=
  if xs.length < 1 then 2 else
  if ¬ ∀ i, i < xs.length → -1 ≤ up xs i ∧ up xs i < xs.length then 3 else
  if ¬ (selN (fun i => decide (up xs i < 0)) xs.length).length = 1 then 3 else
  if ¬ ∀ i, i < xs.length → (above xs i).isSome = true then 15 else
  if ¬ ∀ i, i < xs.length → ∀ id ∈ hs xs i, (topsR xs id).length = 1 then 7 else 0
theorem chkR_ok {xs : List RB} : chkR xs = 0 ↔ 0 < xs.length ∧ Vals xs := by
  unfold chkR
  constructor
  · intro h
    split at h
    · cases h
    · split at h
      · cases h
      · split at h
        · cases h
        · split at h
          · cases h
          · split at h
            · cases h
            · rename_i h1 h2 h3 h4 h5
              exact ⟨by omega, ⟨Classical.not_not.1 h2, Classical.not_not.1 h3, Classical.not_not.1 h4, Classical.not_not.1 h5⟩⟩
  · rintro ⟨h0, h⟩
    rw [if_neg (by omega), if_neg (Classical.not_not.2 h.range), if_neg (Classical.not_not.2 h.root), if_neg (Classical.not_not.2 h.loop), if_neg (Classical.not_not.2 h.dup)]

theorem chkR_spec {G : Nat → Prop} (xs : List RB) (v : Value) (W : World) (h : (Dv rtE G xs).p v W) (hl : xs.length ≤ 4096) (hh : ∀ i, i < xs.length → (hs xs i).length ≤ 4096) :
    Calls Tryz.prog 48 #[v] W (Post (E (I (chkR xs))) W) := by
  refine enter (args := [v]) (As := [Dv rtE G0 xs]) Tryz.func48 rfl Tryz.ntmps48 (Nat.le_of_ble_eq_true rfl) ?_ (fun a hf => ?_) (Nat.le_of_ble_eq_true rfl)
  rotate_left
  dsimp only [params, Nat.reduceAdd] at hf
  rotate_right
  · exact arg1 (Dv.weak h fun b _ hb => hb.elim)
  have e := Ext.rfl' W
  repeat refine seq ?_
  refine regn0 ?_
  refine tl_as hf rfl (by decide) fun a hf => ?_
  refine tl_nil ?_
  cases h0 : decide (((xs.length : Nat) : Int) < 1)
  rotate_left
  · repeat refine seq ?_
    refine regn 8 hf (by decide +kernel) ?_
    refine st (mv rfl) ?_
    refine st (lenD Tryz.underlying29 (isR rfl)) ?_
    refine st ((lss rfl rfl).eq (congrArg Value.bool (h0))) ?_
    refine st (mv rfl) ?_
    first | refine sn rfl rfl rfl ?_ | refine su rfl rfl ?_ | refine sy rfl rfl (mv rfl) ?_
    first | refine sn rfl rfl rfl ?_ | refine su rfl rfl ?_ | refine sy rfl rfl (lenD Tryz.underlying29 (isR rfl)) ?_
    first | refine sn rfl rfl rfl ?_ | refine su rfl rfl ?_ | refine sy rfl rfl (gtr rfl rfl) ?_
    first | refine st (pkT rfl rfl) ?_ | refine st (pkF rfl rfl) ?_ | refine st (pk rfl rfl rfl) ?_
    refine en fun a w e' hf => ?_
    replace e := Ext.tr e e'
    clear e'
    refine tl_nil ?_
    have h0' := of_decide_eq_true h0
    repeat refine seq ?_
    refine ifc hf rfl (fun _ => ?_) (fun h => by cases h)
    repeat refine seq ?_
    refine regn0 ?_
    refine tl_as hf rfl (by decide) fun a hf => ?_
    refine tl_nil ?_
    refine wret ?_
    try simp only [Exit.then, Exit.inBlock]
    refine ret1 rfl hf rfl ?_
    rintro _ rfl
    exact ⟨_, rfl, e, congrArg I (by rw [chkR, if_pos (by omega)])⟩
  have h0' := of_decide_eq_false h0
  repeat refine seq ?_
  refine regn 8 hf (by decide +kernel) ?_
  refine st (mv rfl) ?_
  refine st (lenD Tryz.underlying29 (isR rfl)) ?_
  refine st ((lss rfl rfl).eq (congrArg Value.bool (h0))) ?_
  refine st (mv rfl) ?_
  first | refine sn rfl rfl rfl ?_ | refine su rfl rfl ?_ | refine sy rfl rfl (mv rfl) ?_
  first | refine sn rfl rfl rfl ?_ | refine su rfl rfl ?_ | refine sy rfl rfl (lenD Tryz.underlying29 (isR rfl)) ?_
  first | refine sn rfl rfl rfl ?_ | refine su rfl rfl ?_ | refine sy rfl rfl ((gtr rfl rfl).eq (congrArg Value.bool (show decide ((4096 : Int) < (xs.length : Nat)) = false from decide_eq_false (by omega)))) ?_
  first | refine st (pkT rfl rfl) ?_ | refine st (pkF rfl rfl) ?_ | refine st (pk rfl rfl rfl) ?_
  refine en fun a w e' hf => ?_
  replace e := Ext.tr e e'
  clear e'
  refine tl_nil ?_
  repeat refine seq ?_
  refine ifc hf rfl (fun h => by cases h) (fun _ => ?_)
  refine wskip ?_
  try simp only [Exit.then, Exit.inBlock, ↓reduceIte]
  repeat refine seq ?_
  refine regn0 ?_
  refine tl_as hf rfl (by decide) fun a hf => ?_
  refine tl_nil ?_
  repeat refine seq ?_
  refine regn0 ?_
  refine tl_as hf rfl (by decide) fun a hf => ?_
  refine tl_nil ?_
  replace hf := hf.keep [0, 3, 4]
  dsimp only [keep, List.filterMap, look, Nat.beq, Option.map] at hf
  repeat refine seq ?_
  refine blk (loopN (fun r0 a w => ∃ (k : Nat) , r0 = xs.length - k ∧ k ≤ xs.length ∧ Fr 92 a w [(0, Dv rtE G0 xs), (3, E (I ((selN (fun i => decide (up xs i < 0)) k).length : Nat))), (4, E (I k))] ∧ Ext W w ∧ ∀ i, i < k → -1 ≤ up xs i ∧ up xs i < xs.length) xs.length ⟨0, rfl, by omega, hf, e, (fun i hi => by omega)⟩ ?_)
  clear hf e; try clear Ho
  rintro r0 a w ⟨k, rfl, hk, hf, e, Ho⟩
  repeat refine seq ?_
  refine regn 4 hf (by decide +kernel) ?_
  refine st (mv rfl) ?_
  refine st (mv rfl) ?_
  refine st (lenD Tryz.underlying29 (isR rfl)) ?_
  refine st (lss rfl rfl) ?_
  refine en fun a w e' hf => ?_
  replace e := Ext.tr e e'
  clear e'
  refine tl_nil ?_
  repeat refine seq ?_
  refine ifc hf rfl (fun hc => wskip ?_) (fun hc => wexit ?_)
  rotate_left
  rotate_left
  · have hlt : k < xs.length := by have := of_decide_eq_true hc; (try dsimp only at this); omega
    clear hc
    replace hf := hf.keep [0, 3, 4]
    dsimp only [keep, List.filterMap, look, Nat.beq, Option.map] at hf
    repeat refine seq ?_
    refine blk ?_
    have g := up_get hlt
    have hsel := selN_len (fun i => decide (up xs i < 0)) k
    cases h1 : decide (up xs k < -1)
    · repeat refine seq ?_
      refine regn 16 hf (by decide +kernel) ?_
      refine st (mv rfl) ?_
      refine st (mv rfl) ?_
      refine st (idxD Tryz.underlying29 S103 (isR rfl) rfl (by omega) (g)) ?_
      refine st (fldD Tryz.underlying103 rfl T3 (by decide) (Fld.fst Fld.refl) (isR rfl)) ?_
      refine st (ldI T3 (isR rfl)) ?_
      refine st ((lss rfl rfl).eq (congrArg Value.bool (h1))) ?_
      refine st (mv rfl) ?_
      first | refine sn rfl rfl rfl ?_ | refine su rfl rfl ?_ | refine sy rfl rfl (mv rfl) ?_
      first | refine sn rfl rfl rfl ?_ | refine su rfl rfl ?_ | refine sy rfl rfl (mv rfl) ?_
      first | refine sn rfl rfl rfl ?_ | refine su rfl rfl ?_ | refine sy rfl rfl (idxD Tryz.underlying29 S103 (isR rfl) rfl (by omega) (g)) ?_
      first | refine sn rfl rfl rfl ?_ | refine su rfl rfl ?_ | refine sy rfl rfl (fldD Tryz.underlying103 rfl T3 (by decide) (Fld.fst Fld.refl) (isR rfl)) ?_
      first | refine sn rfl rfl rfl ?_ | refine su rfl rfl ?_ | refine sy rfl rfl (ldI T3 (isR rfl)) ?_
      first | refine sn rfl rfl rfl ?_ | refine su rfl rfl ?_ | refine sy rfl rfl (mv rfl) ?_
      first | refine sn rfl rfl rfl ?_ | refine su rfl rfl ?_ | refine sy rfl rfl (lenD Tryz.underlying29 (isR rfl)) ?_
      first | refine sn rfl rfl rfl ?_ | refine su rfl rfl ?_ | refine sy rfl rfl (geq rfl rfl) ?_
      first | refine st (pkT rfl rfl) ?_ | refine st (pkF rfl rfl) ?_ | refine st (pk rfl rfl rfl) ?_
      refine en fun a w e' hf => ?_
      replace e := Ext.tr e e'
      clear e'
      refine tl_nil ?_
      have h1' := of_decide_eq_false h1
      repeat refine seq ?_
      refine ifc hf rfl (fun hb => ?_) (fun hb => ?_)
      · have hb' := of_decide_eq_true hb
        repeat refine seq ?_
        refine regn0 ?_
        refine tl_as hf rfl (by decide) fun a hf => ?_
        refine tl_nil ?_
        refine wret ?_
        try simp only [Exit.then, Exit.inBlock]
        refine ret1 rfl hf rfl ?_
        rintro _ rfl
        exact ⟨_, rfl, e, congrArg I (by rw [chkR, if_neg (by omega), if_pos (fun h => by have := (h k hlt).2; omega)])⟩
      · have hb' := of_decide_eq_false hb
        have Ho' : ∀ i, i < k + 1 → -1 ≤ up xs i ∧ up xs i < xs.length := by
          intro i hi
          by_cases hk : i = k
          · subst hk; exact ⟨by omega, by omega⟩
          · exact Ho i (by omega)
        refine wskip ?_
        try simp only [Exit.then, Exit.inBlock, ↓reduceIte]
        replace hf := hf.keep [0, 3, 4]
        dsimp only [keep, List.filterMap, look, Nat.beq, Option.map] at hf
        repeat refine seq ?_
        refine regn 6 hf (by decide +kernel) ?_
        refine st (mv rfl) ?_
        refine st (mv rfl) ?_
        refine st (idxD Tryz.underlying29 S103 (isR rfl) rfl (by omega) (g)) ?_
        refine st (fldD Tryz.underlying103 rfl T3 (by decide) (Fld.fst Fld.refl) (isR rfl)) ?_
        refine st (ldI T3 (isR rfl)) ?_
        refine st (lss rfl rfl) ?_
        refine en fun a w e' hf => ?_
        replace e := Ext.tr e e'
        clear e'
        refine tl_nil ?_
        repeat refine seq ?_
        refine ifc hf rfl (fun hb => ?_) (fun hb => ?_)
        · repeat refine seq ?_
          refine regn 2 hf (by decide +kernel) ?_
          refine st (mv rfl) ?_
          refine st ((add rfl rfl (by omega)).eq (congrArg (Value.int .i64) (show ((selN (fun i => decide (up xs i < 0)) k).length : Int) + 1 = ((selN (fun i => decide (up xs i < 0)) (k + 1)).length : Nat) from by rw [selN_succ, if_pos hb]; simp))) ?_
          refine en fun a w e' hf => ?_
          replace e := Ext.tr e e'
          clear e'
          refine tl_as hf rfl (by decide) fun a hf => ?_
          refine tl_nil ?_
          try simp only [Exit.then, Exit.inBlock, ↓reduceIte]
          repeat refine seq ?_
          refine regn 2 hf (by decide +kernel) ?_
          refine st (mv rfl) ?_
          refine st ((add rfl rfl (by omega)).eq (congrArg (Value.int .i64) (show (k : Int) + 1 = ((k + 1 : Nat) : Int) from rfl))) ?_
          refine en fun a w e' hf => ?_
          replace e := Ext.tr e e'
          clear e'
          refine tl_as hf rfl (by decide) fun a hf => ?_
          refine tl_nil ?_
          replace hf := hf.keep [0, 3, 4]
          dsimp only [keep, List.filterMap, look, Nat.beq, Option.map] at hf
          refine ⟨_, ?_, k + 1, rfl, by omega, hf, e, ?_⟩
          · omega
          exact Ho'
        · have hs' : (selN (fun i => decide (up xs i < 0)) k).length = (selN (fun i => decide (up xs i < 0)) (k + 1)).length := by rw [selN_succ, if_neg (by rw [hb]; decide)]
          rw [hs'] at hf
          refine wskip ?_
          try simp only [Exit.then, Exit.inBlock, ↓reduceIte]
          try simp only [Exit.then, Exit.inBlock, ↓reduceIte]
          repeat refine seq ?_
          refine regn 2 hf (by decide +kernel) ?_
          refine st (mv rfl) ?_
          refine st ((add rfl rfl (by omega)).eq (congrArg (Value.int .i64) (show (k : Int) + 1 = ((k + 1 : Nat) : Int) from rfl))) ?_
          refine en fun a w e' hf => ?_
          replace e := Ext.tr e e'
          clear e'
          refine tl_as hf rfl (by decide) fun a hf => ?_
          refine tl_nil ?_
          replace hf := hf.keep [0, 3, 4]
          dsimp only [keep, List.filterMap, look, Nat.beq, Option.map] at hf
          refine ⟨_, ?_, k + 1, rfl, by omega, hf, e, ?_⟩
          · omega
          exact Ho'
    · repeat refine seq ?_
      refine regn 16 hf (by decide +kernel) ?_
      refine st (mv rfl) ?_
      refine st (mv rfl) ?_
      refine st (idxD Tryz.underlying29 S103 (isR rfl) rfl (by omega) (g)) ?_
      refine st (fldD Tryz.underlying103 rfl T3 (by decide) (Fld.fst Fld.refl) (isR rfl)) ?_
      refine st (ldI T3 (isR rfl)) ?_
      refine st ((lss rfl rfl).eq (congrArg Value.bool (h1))) ?_
      refine st (mv rfl) ?_
      first | refine sn rfl rfl rfl ?_ | refine su rfl rfl ?_ | refine sy rfl rfl (mv rfl) ?_
      first | refine sn rfl rfl rfl ?_ | refine su rfl rfl ?_ | refine sy rfl rfl (mv rfl) ?_
      first | refine sn rfl rfl rfl ?_ | refine su rfl rfl ?_ | refine sy rfl rfl (idxD Tryz.underlying29 S103 (isR rfl) rfl (by omega) (by assumption)) ?_
      first | refine sn rfl rfl rfl ?_ | refine su rfl rfl ?_ | refine sy rfl rfl (fldD Tryz.underlying103 rfl T3 (by decide) (Fld.fst Fld.refl) (isR rfl)) ?_
      first | refine sn rfl rfl rfl ?_ | refine su rfl rfl ?_ | refine sy rfl rfl (ldI T3 (isR rfl)) ?_
      first | refine sn rfl rfl rfl ?_ | refine su rfl rfl ?_ | refine sy rfl rfl (mv rfl) ?_
      first | refine sn rfl rfl rfl ?_ | refine su rfl rfl ?_ | refine sy rfl rfl (lenD Tryz.underlying29 (isR rfl)) ?_
      first | refine sn rfl rfl rfl ?_ | refine su rfl rfl ?_ | refine sy rfl rfl (geq rfl rfl) ?_
      first | refine st (pkT rfl rfl) ?_ | refine st (pkF rfl rfl) ?_ | refine st (pk rfl rfl rfl) ?_
      refine en fun a w e' hf => ?_
      replace e := Ext.tr e e'
      clear e'
      refine tl_nil ?_
      have h1' := of_decide_eq_true h1
      repeat refine seq ?_
      refine ifc hf rfl (fun _ => ?_) (fun h => by cases h)
      repeat refine seq ?_
      refine regn0 ?_
      refine tl_as hf rfl (by decide) fun a hf => ?_
      refine tl_nil ?_
      refine wret ?_
      try simp only [Exit.then, Exit.inBlock]
      refine ret1 rfl hf rfl ?_
      rintro _ rfl
      exact ⟨_, rfl, e, congrArg I (by rw [chkR, if_neg (by omega), if_pos (fun h => by have := (h k hlt).1; omega)])⟩
  · obtain rfl : k = xs.length := by have := of_decide_eq_false hc; (try dsimp only at this); omega
    clear hc
    simp only [Exit.then, Exit.inBlock, ↓reduceIte]
    have c1 := Classical.not_not.2 Ho
    repeat refine seq ?_
    refine regn 2 hf (by decide +kernel) ?_
    refine st (mv rfl) ?_
    refine st (neq rfl rfl) ?_
    refine en fun a w e' hf => ?_
    replace e := Ext.tr e e'
    clear e'
    refine tl_nil ?_
    repeat refine seq ?_
    refine ifc hf rfl (fun hb => ?_) (fun hb => ?_)
    · have hb' : ¬ (selN (fun i => decide (up xs i < 0)) xs.length).length = 1 := by
        have : ((selN (fun i => decide (up xs i < 0)) xs.length).length : Int) ≠ 1 := by simpa using hb
        omega
      repeat refine seq ?_
      refine regn0 ?_
      refine tl_as hf rfl (by decide) fun a hf => ?_
      refine tl_nil ?_
      refine wret ?_
      try simp only [Exit.then, Exit.inBlock]
      refine ret1 rfl hf rfl ?_
      rintro _ rfl
      exact ⟨_, rfl, e, congrArg I (by rw [chkR, if_neg (by omega), if_neg c1, if_pos hb'])⟩
    · have c2 : ¬ ¬ (selN (fun i => decide (up xs i < 0)) xs.length).length = 1 := by
        have : ((selN (fun i => decide (up xs i < 0)) xs.length).length : Int) = 1 := by simpa using hb
        omega
      refine wskip ?_
      try simp only [Exit.then, Exit.inBlock, ↓reduceIte]
      repeat refine seq ?_
      refine regn0 ?_
      refine tl_as hf rfl (by decide) fun a hf => ?_
      refine tl_nil ?_
      have hr := Ho
      clear Ho
      replace hf := hf.keep [0, 5]
      dsimp only [keep, List.filterMap, look, Nat.beq, Option.map] at hf
      repeat refine seq ?_
      refine blk (loopN (fun r0 a w => ∃ (k : Nat) , r0 = xs.length - k ∧ k ≤ xs.length ∧ Fr 92 a w [(0, Dv rtE G0 xs), (5, E (I k))] ∧ Ext W w ∧ ∀ i, i < k → (above xs i).isSome = true) xs.length ⟨0, rfl, by omega, hf, e, (fun i hi => by omega)⟩ ?_)
      clear hf e; try clear Ho
      rintro r0 a w ⟨k, rfl, hk, hf, e, Ho⟩
      repeat refine seq ?_
      refine regn 4 hf (by decide +kernel) ?_
      refine st (mv rfl) ?_
      refine st (mv rfl) ?_
      refine st (lenD Tryz.underlying29 (isR rfl)) ?_
      refine st (lss rfl rfl) ?_
      refine en fun a w e' hf => ?_
      replace e := Ext.tr e e'
      clear e'
      refine tl_nil ?_
      repeat refine seq ?_
      refine ifc hf rfl (fun hc => wskip ?_) (fun hc => wexit ?_)
      rotate_left
      rotate_left
      · have hlt : k < xs.length := by have := of_decide_eq_true hc; (try dsimp only at this); omega
        clear hc
        replace hf := hf.keep [0, 5]
        dsimp only [keep, List.filterMap, look, Nat.beq, Option.map] at hf
        repeat refine seq ?_
        refine blk ?_
        repeat refine seq ?_
        refine regn 6 hf (by decide +kernel) ?_
        refine st (mv rfl) ?_
        refine st (mv rfl) ?_
        refine st (call2 En106 rfl rfl (fun v u w he h h' => by cases h'; exact above_spec (G := G0) _ _ _ _ h (fun b hb => hb.elim) hl (fun i hi => (hr i hi).2) hlt)) ?_
        refine st (mv rfl) ?_
        refine st (ext_ rfl rfl) ?_
        refine st (ext_ rfl rfl) ?_
        refine en fun a w e' hf => ?_
        replace e := Ext.tr e e'
        clear e'
        refine tl_as hf rfl (by decide) fun a hf => ?_
        refine tl_as hf rfl (by decide) fun a hf => ?_
        refine tl_nil ?_
        repeat refine seq ?_
        refine regn 2 hf (by decide +kernel) ?_
        refine st (mv rfl) ?_
        refine st (notp rfl) ?_
        refine en fun a w e' hf => ?_
        replace e := Ext.tr e e'
        clear e'
        refine tl_nil ?_
        repeat refine seq ?_
        refine ifc hf rfl (fun hb => ?_) (fun hb => ?_)
        · have hb' : ¬ (above xs k).isSome = true := by simpa using hb
          repeat refine seq ?_
          refine regn0 ?_
          refine tl_as hf rfl (by decide) fun a hf => ?_
          refine tl_nil ?_
          refine wret ?_
          try simp only [Exit.then, Exit.inBlock]
          refine ret1 rfl hf rfl ?_
          rintro _ rfl
          exact ⟨_, rfl, e, congrArg I (by rw [chkR, if_neg (by omega), if_neg c1, if_neg c2, if_pos (fun h => hb' (h k hlt))])⟩
        · have hb' : (above xs k).isSome = true := by simpa using hb
          refine wskip ?_
          try simp only [Exit.then, Exit.inBlock, ↓reduceIte]
          try simp only [Exit.then, Exit.inBlock, ↓reduceIte]
          repeat refine seq ?_
          refine regn 2 hf (by decide +kernel) ?_
          refine st (mv rfl) ?_
          refine st ((add rfl rfl (by omega)).eq (congrArg (Value.int .i64) (show (k : Int) + 1 = ((k + 1 : Nat) : Int) from rfl))) ?_
          refine en fun a w e' hf => ?_
          replace e := Ext.tr e e'
          clear e'
          refine tl_as hf rfl (by decide) fun a hf => ?_
          refine tl_nil ?_
          replace hf := hf.keep [0, 5]
          dsimp only [keep, List.filterMap, look, Nat.beq, Option.map] at hf
          refine ⟨_, ?_, k + 1, rfl, by omega, hf, e, ?_⟩
          · omega
          intro i hi
          by_cases hk : i = k
          · subst hk; exact hb'
          · exact Ho i (by omega)
      · obtain rfl : k = xs.length := by have := of_decide_eq_false hc; (try dsimp only at this); omega
        clear hc
        simp only [Exit.then, Exit.inBlock, ↓reduceIte]
        have c3 := Classical.not_not.2 Ho
        clear Ho
        repeat refine seq ?_
        refine regn0 ?_
        refine tl_as hf rfl (by decide) fun a hf => ?_
        refine tl_nil ?_
        replace hf := hf.keep [0, 8]
        dsimp only [keep, List.filterMap, look, Nat.beq, Option.map] at hf
        repeat refine seq ?_
        refine blk (loopN (fun r0 a w => ∃ (k : Nat) , r0 = xs.length - k ∧ k ≤ xs.length ∧ Fr 92 a w [(0, Dv rtE G0 xs), (8, E (I k))] ∧ Ext W w ∧ ∀ i, i < k → ∀ id ∈ hs xs i, (topsR xs id).length = 1) xs.length ⟨0, rfl, by omega, hf, e, (fun i hi => by omega)⟩ ?_)
        clear hf e; try clear Ho
        rintro r0 a w ⟨k, rfl, hk, hf, e, Ho⟩
        repeat refine seq ?_
        refine regn 4 hf (by decide +kernel) ?_
        refine st (mv rfl) ?_
        refine st (mv rfl) ?_
        refine st (lenD Tryz.underlying29 (isR rfl)) ?_
        refine st (lss rfl rfl) ?_
        refine en fun a w e' hf => ?_
        replace e := Ext.tr e e'
        clear e'
        refine tl_nil ?_
        repeat refine seq ?_
        refine ifc hf rfl (fun hc => wskip ?_) (fun hc => wexit ?_)
        rotate_left
        rotate_left
        · have hlt : k < xs.length := by have := of_decide_eq_true hc; (try dsimp only at this); omega
          clear hc
          replace hf := hf.keep [0, 8]
          dsimp only [keep, List.filterMap, look, Nat.beq, Option.map] at hf
          repeat refine seq ?_
          refine blk ?_
          have g := up_get hlt
          have hlk := hh k hlt
          repeat refine seq ?_
          refine regn0 ?_
          refine tl_as hf rfl (by decide) fun a hf => ?_
          refine tl_nil ?_
          have Ho1 : ∀ id ∈ (hs xs k).take 0, (topsR xs id).length = 1 := by simp
          replace hf := hf.keep [0, 8, 9]
          dsimp only [keep, List.filterMap, look, Nat.beq, Option.map] at hf
          repeat refine seq ?_
          refine blk (loopN (fun r0 a w => ∃ (j : Nat) , r0 = (hs xs k).length - j ∧ j ≤ (hs xs k).length ∧ Fr 92 a w [(0, Dv rtE G0 xs), (8, E (I k)), (9, E (I j))] ∧ Ext W w ∧ ∀ id ∈ (hs xs k).take j, (topsR xs id).length = 1) (hs xs k).length ⟨0, rfl, by omega, hf, e, Ho1⟩ ?_)
          clear hf e; try clear Ho1
          rintro r0 a w ⟨j, rfl, hj, hf, e, Ho1⟩
          repeat refine seq ?_
          refine regn 8 hf (by decide +kernel) ?_
          refine st (mv rfl) ?_
          refine st (mv rfl) ?_
          refine st (mv rfl) ?_
          refine st (idxD Tryz.underlying29 S103 (isR rfl) rfl (by omega) (g)) ?_
          refine st (fldD Tryz.underlying103 rfl T101 (by decide) (Fld.snd Fld.refl rfl) (isR rfl)) ?_
          refine st (ldD T101 (isR rfl)) ?_
          refine st (lenD Tryz.underlying101 (isR rfl)) ?_
          refine st (lss rfl rfl) ?_
          refine en fun a w e' hf => ?_
          replace e := Ext.tr e e'
          clear e'
          refine tl_nil ?_
          repeat refine seq ?_
          refine ifc hf rfl (fun hc => wskip ?_) (fun hc => wexit ?_)
          rotate_left
          rotate_left
          · have hltj : j < (hs xs k).length := by have := of_decide_eq_true hc; (try dsimp only at this); omega
            clear hc
            replace hf := hf.keep [0, 8, 9]
            dsimp only [keep, List.filterMap, look, Nat.beq, Option.map] at hf
            repeat refine seq ?_
            refine blk ?_
            have g2 := gi_get hltj
            repeat refine seq ?_
            refine regn 12 hf (by decide +kernel) ?_
            refine st (mv rfl) ?_
            refine st (mv rfl) ?_
            refine st (mv rfl) ?_
            refine st (idxD Tryz.underlying29 S103 (isR rfl) rfl (by omega) (g)) ?_
            refine st (fldD Tryz.underlying103 rfl T101 (by decide) (Fld.snd Fld.refl rfl) (isR rfl)) ?_
            refine st (ldD T101 (isR rfl)) ?_
            refine st (mv rfl) ?_
            refine st (idxD Tryz.underlying101 S3 (isR rfl) rfl (by omega) (g2)) ?_
            refine st (ldI T3 (isR rfl)) ?_
            refine st (call2 En107 rfl rfl (fun v u w he h h' => by cases h'; exact topsR_spec (G := G0) _ _ _ _ h (fun b hb => hb.elim) hl ⟨fun i hi => (hr i hi).2, hh⟩)) ?_
            refine st (lenD Tryz.underlying59 (isR rfl)) ?_
            refine st (neq rfl rfl) ?_
            refine en fun a w e' hf => ?_
            replace e := Ext.tr e e'
            clear e'
            refine tl_nil ?_
            repeat refine seq ?_
            refine ifc hf rfl (fun hb => ?_) (fun hb => ?_)
            · have hb' : ¬ (topsR xs (gi (hs xs k) j)).length = 1 := by
                have : ((topsR xs (gi (hs xs k) j)).length : Int) ≠ 1 := by simpa using hb
                omega
              repeat refine seq ?_
              refine regn0 ?_
              refine tl_as hf rfl (by decide) fun a hf => ?_
              refine tl_nil ?_
              refine wret ?_
              try simp only [Exit.then, Exit.inBlock]
              refine ret1 rfl hf rfl ?_
              rintro _ rfl
              exact ⟨_, rfl, e, congrArg I (by rw [chkR, if_neg (by omega), if_neg c1, if_neg c2, if_neg c3, if_pos (fun h => hb' (h k hlt _ (List.mem_of_getElem? g2)))])⟩
            · have hb' : (topsR xs (gi (hs xs k) j)).length = 1 := by
                have : ((topsR xs (gi (hs xs k) j)).length : Int) = 1 := by simpa using hb
                omega
              refine wskip ?_
              try simp only [Exit.then, Exit.inBlock, ↓reduceIte]
              try simp only [Exit.then, Exit.inBlock, ↓reduceIte]
              repeat refine seq ?_
              refine regn 2 hf (by decide +kernel) ?_
              refine st (mv rfl) ?_
              refine st ((add rfl rfl (by omega)).eq (congrArg (Value.int .i64) (show (j : Int) + 1 = ((j + 1 : Nat) : Int) from rfl))) ?_
              refine en fun a w e' hf => ?_
              replace e := Ext.tr e e'
              clear e'
              refine tl_as hf rfl (by decide) fun a hf => ?_
              refine tl_nil ?_
              replace hf := hf.keep [0, 8, 9]
              dsimp only [keep, List.filterMap, look, Nat.beq, Option.map] at hf
              refine ⟨_, ?_, j + 1, rfl, by omega, hf, e, ?_⟩
              · omega
              rw [gi_take hltj]
              intro id hid
              rcases List.mem_append.1 hid with hid | hid
              · exact Ho1 id hid
              · rw [List.mem_singleton.1 hid]; exact hb'
          · obtain rfl : j = (hs xs k).length := by have := of_decide_eq_false hc; (try dsimp only at this); omega
            clear hc
            simp only [Exit.then, Exit.inBlock, ↓reduceIte]
            rw [List.take_length] at Ho1
            try simp only [Exit.then, Exit.inBlock, ↓reduceIte]
            repeat refine seq ?_
            refine regn 2 hf (by decide +kernel) ?_
            refine st (mv rfl) ?_
            refine st ((add rfl rfl (by omega)).eq (congrArg (Value.int .i64) (show (k : Int) + 1 = ((k + 1 : Nat) : Int) from rfl))) ?_
            refine en fun a w e' hf => ?_
            replace e := Ext.tr e e'
            clear e'
            refine tl_as hf rfl (by decide) fun a hf => ?_
            refine tl_nil ?_
            replace hf := hf.keep [0, 8]
            dsimp only [keep, List.filterMap, look, Nat.beq, Option.map] at hf
            refine ⟨_, ?_, k + 1, rfl, by omega, hf, e, ?_⟩
            · omega
            intro i hi
            by_cases hk : i = k
            · subst hk; exact Ho1
            · exact Ho i (by omega)
        · obtain rfl : k = xs.length := by have := of_decide_eq_false hc; (try dsimp only at this); omega
          clear hc
          simp only [Exit.then, Exit.inBlock, ↓reduceIte]
          repeat refine seq ?_
          refine regn0 ?_
          refine tl_as hf rfl (by decide) fun a hf => ?_
          refine tl_nil ?_
          refine wret ?_
          try simp only [Exit.then, Exit.inBlock]
          refine ret1 rfl hf rfl ?_
          rintro _ rfl
          exact ⟨_, rfl, e, congrArg I (by rw [chkR, if_neg (by omega), if_neg c1, if_neg c2, if_neg c3, if_neg (Classical.not_not.2 Ho)])⟩
end Go.Mono

set_option linter.unusedVariables false
set_option linter.unusedSimpArgs false
namespace Go.Mono

theorem abv_mono {xs : List RB} : ∀ {f : Nat} {a : Int} {l : List Int}, abv xs f a = some l → abv xs (f + 1) a = some l
  | 0, a, l, h => by
    by_cases ha : a < 0
    · rw [abv, if_pos ha] at h; rw [abv, if_pos ha]; exact h
    · rw [abv, if_neg ha] at h; cases h
  | f + 1, a, l, h => by
    by_cases ha : a < 0
    · rw [abv, if_pos ha] at h; rw [abv, if_pos ha]; exact h
    · rw [abv, if_neg ha] at h
      rw [abv, if_neg ha]
      cases hr : abv xs f (up xs a.toNat) with
      | none => rw [hr] at h; cases h
      | some l' => rw [abv_mono hr]; rw [hr] at h; exact h
theorem abv_len {xs : List RB} : ∀ {f : Nat} {a : Int} {l : List Int}, abv xs f a = some l → l.length ≤ f
  | 0, a, l, h => by
    by_cases ha : a < 0
    · rw [abv, if_pos ha] at h; cases h; simp
    · rw [abv, if_neg ha] at h; cases h
  | f + 1, a, l, h => by
    by_cases ha : a < 0
    · rw [abv, if_pos ha] at h; cases h; simp
    · rw [abv, if_neg ha] at h
      cases hr : abv xs f (up xs a.toNat) with
      | none => rw [hr] at h; cases h
      | some l' =>
        rw [hr] at h
        simp at h
        subst h
        have := abv_len hr
        simp; exact this

/-- the bags above -/
def ab (xs : List RB) (i : Nat) : List Int := (above xs i).getD []
theorem ab_root {xs : List RB} {i : Nat} (h : up xs i < 0) : ab xs i = [] := by
  rw [ab, above, abv, if_pos h]; rfl
theorem ab_step {xs : List RB} (V : Vals xs) {i j : Nat} (hi : i < xs.length) (h : up xs i = (j : Int)) : ab xs i = (j : Int) :: ab xs j ∧ j < xs.length := by
  have hr := V.range i hi
  have hl := V.loop i hi
  refine ⟨?_, by omega⟩
  unfold ab
  rw [above, abv, if_neg (by omega)] at hl ⊢
  rw [h, Int.toNat_natCast] at hl ⊢
  cases hx : abv xs xs.length (up xs j) with
  | none => rw [hx] at hl; cases hl
  | some l => rw [above, abv_mono hx]; rfl
theorem depthR_eq (xs : List RB) (i : Nat) : depthR xs i = (ab xs i).length := rfl
theorem depth_step {xs : List RB} (V : Vals xs) {i j : Nat} (hi : i < xs.length) (h : up xs i = (j : Int)) : depthR xs i = depthR xs j + 1 := by
  rw [depthR_eq, depthR_eq, (ab_step V hi h).1]; rfl
theorem depth_le {xs : List RB} (V : Vals xs) {i : Nat} (hi : i < xs.length) : depthR xs i ≤ xs.length + 1 := by
  have := V.loop i hi
  rw [depthR_eq, ab]
  cases hx : above xs i with
  | none => rw [hx] at this; cases this
  | some l => exact abv_len hx
/-- each bag is the root or has a bag above it -/
theorem up_cases {xs : List RB} (V : Vals xs) {i : Nat} (hi : i < xs.length) : up xs i = -1 ∨ ∃ j : Nat, j < xs.length ∧ up xs i = (j : Int) := by
  have := V.range i hi
  by_cases h : up xs i < 0
  · exact .inl (by omega)
  · exact .inr ⟨(up xs i).toNat, by omega, by omega⟩
/-- induction from the root down -/
theorem tree_ind {xs : List RB} (V : Vals xs) {p : Nat → Prop} (root : ∀ i, i < xs.length → up xs i = -1 → p i) (step : ∀ i j, i < xs.length → j < xs.length → up xs i = (j : Int) → p j → p i) : ∀ i, i < xs.length → p i := by
  have : ∀ d i, i < xs.length → depthR xs i = d → p i := by
    intro d
    induction d using Nat.strongRecOn with
    | _ d ih =>
      intro i hi hd
      rcases up_cases V hi with h | ⟨j, hj, h⟩
      · exact root i hi h
      · have := depth_step V hi h
        exact step i j hi hj h (ih (depthR xs j) (by omega) j hj rfl)
  exact fun i hi => this _ i hi rfl
/-- induction from the leaves up -/
theorem tree_up {xs : List RB} (V : Vals xs) {p : Nat → Prop} (step : ∀ j, j < xs.length → (∀ i, i < xs.length → up xs i = (j : Int) → p i) → p j) : ∀ i, i < xs.length → p i := by
  have : ∀ d i, i < xs.length → xs.length + 1 - depthR xs i = d → p i := by
    intro d
    induction d using Nat.strongRecOn with
    | _ d ih =>
      intro j hj hd
      refine step j hj fun i hi h => ?_
      have h1 := depth_step V hi h
      have h2 := depth_le V hi
      exact ih (xs.length + 1 - depthR xs i) (by omega) i hi rfl
  exact fun i hi => this _ i hi rfl

theorem mem_selN {p : Nat → Bool} {n : Nat} {k : Int} : k ∈ selN p n ↔ ∃ i : Nat, i < n ∧ p i = true ∧ k = (i : Int) := by
  unfold selN
  simp only [List.mem_map, List.mem_filter, List.mem_range]
  exact ⟨fun ⟨i, ⟨h1, h2⟩, h3⟩ => ⟨i, h1, h2, h3.symm⟩, fun ⟨i, h1, h2, h3⟩ => ⟨i, ⟨h1, h2⟩, h3.symm⟩⟩
theorem mem_kids {xs : List RB} {b k : Int} : k ∈ kids xs b ↔ ∃ i : Nat, i < xs.length ∧ up xs i = b ∧ k = (i : Int) := by
  rw [kids, mem_selN]
  simp only [decide_eq_true_eq]

/-- the size of the part below a bag; f: how deep -/
def szF (xs : List RB) : Nat → Int → Int
  | 0, _ => 1
  | f + 1, b => (kids xs b).foldl (fun n k => n + szF xs f k) 1
def sizeR (xs : List RB) (b : Int) : Int := szF xs (xs.length + 2) b
theorem foldl_congr {α β : Type} {f g : β → α → β} : ∀ {l : List α} {b : β}, (∀ b, ∀ x ∈ l, f b x = g b x) → l.foldl f b = l.foldl g b
  | [], b, _ => rfl
  | x :: l, b, h => by
    rw [List.foldl_cons, List.foldl_cons, h b x (by simp)]
    exact foldl_congr fun b y hy => h b y (by simp [hy])
theorem szF_stable {xs : List RB} (V : Vals xs) : ∀ (d j : Nat), j < xs.length → xs.length + 1 - depthR xs j = d → ∀ f g, d ≤ f → d ≤ g → szF xs f (j : Nat) = szF xs g (j : Nat) := by
  intro d
  induction d using Nat.strongRecOn with
  | _ d ih =>
    intro j hj hd f g hf hg
    have kid : ∀ k ∈ kids xs (j : Nat), ∃ i : Nat, i < xs.length ∧ k = (i : Int) ∧ xs.length + 1 - depthR xs i < d ∧ xs.length + 1 - depthR xs i + 1 = d := by
      intro k hk
      obtain ⟨i, h1, h2, h3⟩ := mem_kids.1 hk
      have h4 := depth_step V h1 h2
      have h5 := depth_le V h1
      exact ⟨i, h1, h3, by omega, by omega⟩
    have z : ∀ f, d ≤ f → szF xs f (j : Nat) = (kids xs (j : Nat)).foldl (fun n k => n + szF xs (f - 1) k) 1 := by
      intro f hf
      cases f with
      | zero =>
        have : kids xs (j : Nat) = [] := by
          cases hk : kids xs (j : Nat) with
          | nil => rfl
          | cons k l =>
            obtain ⟨i, _, _, h3, _⟩ := kid k (by rw [hk]; simp)
            omega
        rw [this]; rfl
      | succ f => rfl
    rw [z f hf, z g hg]
    refine foldl_congr fun n k hk => ?_
    obtain ⟨i, h1, h2, h3, h4⟩ := kid k hk
    subst h2
    rw [ih _ h3 i h1 rfl (f - 1) (g - 1) (by omega) (by omega)]
theorem sizeR_eq {xs : List RB} (V : Vals xs) {j : Nat} (hj : j < xs.length) : sizeR xs (j : Nat) = (kids xs (j : Nat)).foldl (fun n k => n + sizeR xs k) 1 := by
  have h := depth_le V hj
  rw [sizeR, show szF xs (xs.length + 2) (j : Nat) = szF xs (xs.length + 3) (j : Nat) from szF_stable V _ j hj rfl _ _ (by omega) (by omega)]
  rfl

/-- i lies below b, or is b -/
def dsc (xs : List RB) (b i : Nat) : Bool := decide (i = b) || decide ((b : Int) ∈ ab xs i)
theorem dsc_root {xs : List RB} {b i : Nat} (h : up xs i < 0) : dsc xs b i = decide (i = b) := by
  rw [dsc, ab_root h]; simp
theorem dsc_step {xs : List RB} (V : Vals xs) {b i j : Nat} (hi : i < xs.length) (h : up xs i = (j : Int)) : dsc xs b i = (decide (i = b) || dsc xs b j) := by
  rw [dsc, (ab_step V hi h).1, dsc]
  congr 1
  have e : decide (((b : Nat) : Int) = (j : Nat)) = decide (j = b) := by
    by_cases hb : j = b
    · subst hb; simp
    · simp [hb]; omega
  simp only [List.mem_cons, Bool.decide_or, e]
theorem dsc_depth {xs : List RB} (V : Vals xs) {b : Nat} : ∀ i, i < xs.length → dsc xs b i = true → depthR xs b ≤ depthR xs i := by
  refine tree_ind V (fun i hi h hd => ?_) (fun i j hi hj h ih hd => ?_)
  · rw [dsc_root (by omega)] at hd
    rw [of_decide_eq_true hd]; exact Nat.le_refl _
  · rw [dsc_step V hi h, Bool.or_eq_true] at hd
    have := depth_step V hi h
    rcases hd with hd | hd
    · rw [of_decide_eq_true hd]; exact Nat.le_refl _
    · have := ih hd; omega
def ind (b : Bool) : Nat := if b then 1 else 0
/-- kids as numbers -/
def kidN (xs : List RB) (b : Nat) : List Nat := (List.range xs.length).filter fun i => decide (up xs i = (b : Int))
theorem kids_eq (xs : List RB) (b : Nat) : kids xs (b : Nat) = (kidN xs b).map fun i : Nat => (i : Int) := rfl
theorem mem_kidN {xs : List RB} {b k : Nat} : k ∈ kidN xs b ↔ k < xs.length ∧ up xs k = (b : Int) := by simp [kidN]
theorem kidN_nodup (xs : List RB) (b : Nat) : (kidN xs b).Nodup := List.Nodup.sublist List.filter_sublist List.nodup_range
theorem sum_ind_eq {l : List Nat} (h : l.Nodup) (i : Nat) : (l.map fun k => ind (decide (i = k))).sum = ind (decide (i ∈ l)) := by
  induction l with
  | nil => rfl
  | cons k l ih =>
    have hn := List.nodup_cons.1 h
    rw [List.map_cons, List.sum_cons, ih hn.2]
    by_cases hk : i = k
    · subst hk; simp [ind, hn.1]
    · simp [ind, hk]
theorem sum_add {α : Type} (f g : α → Nat) : ∀ l : List α, (l.map fun k => f k + g k).sum = (l.map f).sum + (l.map g).sum
  | [] => rfl
  | x :: l => by simp [sum_add f g l]; omega
theorem sum_congr {α : Type} {f g : α → Nat} : ∀ {l : List α}, (∀ x ∈ l, f x = g x) → (l.map f).sum = (l.map g).sum
  | [], _ => rfl
  | x :: l, h => by
    rw [List.map_cons, List.map_cons, List.sum_cons, List.sum_cons, h x (by simp), sum_congr fun y hy => h y (by simp [hy])]
theorem ind_or {a b : Bool} (h : a = true → b = true → False) : ind (a || b) = ind a + ind b := by
  cases a <;> cases b <;> simp [ind] at h ⊢
theorem dsc_split {xs : List RB} (V : Vals xs) {b : Nat} : ∀ i, i < xs.length → ind (dsc xs b i) = ind (decide (i = b)) + ((kidN xs b).map fun k => ind (dsc xs k i)).sum := by
  refine tree_ind V (fun i hi h => ?_) (fun i j hi hj h ih => ?_)
  · rw [dsc_root (by omega)]
    have : ((kidN xs b).map fun k => ind (dsc xs k i)).sum = ((kidN xs b).map fun k => ind (decide (i = k))).sum := sum_congr fun k _ => by rw [dsc_root (by omega)]
    rw [this, sum_ind_eq (kidN_nodup xs b)]
    have hm : ¬ i ∈ kidN xs b := fun hm => by have := (mem_kidN.1 hm).2; omega
    simp [ind, hm]
  · have d1 := depth_step V hi h
    rw [dsc_step V hi h, ind_or (fun h1 h2 => by
      have := dsc_depth V j hj h2
      rw [← of_decide_eq_true h1] at this
      omega), ih]
    have : ((kidN xs b).map fun k => ind (dsc xs k i)).sum = ((kidN xs b).map fun k => ind (decide (i = k)) + ind (dsc xs k j)).sum := sum_congr fun k hk => by
      rw [dsc_step V hi h, ind_or (fun h1 h2 => by
        have := dsc_depth V j hj h2
        rw [← of_decide_eq_true h1] at this
        omega)]
    rw [this, sum_add, sum_ind_eq (kidN_nodup xs b)]
    congr 1
    congr 1
    have : decide (i ∈ kidN xs b) = decide (j = b) := by
      by_cases hb : j = b
      · subst hb; simp [mem_kidN, hi, h]
      · simp [mem_kidN, hi, h, hb]; omega
    rw [this]
/-- how many lie below b, b among them -/
def cnt (xs : List RB) (b : Nat) : Nat := ((List.range xs.length).map fun i => ind (dsc xs b i)).sum
theorem sum_swap {α β : Type} (f : α → β → Nat) (m : List β) : ∀ l : List α, (l.map fun i => (m.map fun k => f i k).sum).sum = (m.map fun k => (l.map fun i => f i k).sum).sum
  | [] => by
    simp only [List.map_nil, List.sum_nil]
    induction m with
    | nil => rfl
    | cons y m ih => simpa using ih
  | x :: l => by
    rw [List.map_cons, List.sum_cons, sum_swap f m l, ← sum_add]
    simp
theorem cnt_eq {xs : List RB} (V : Vals xs) {b : Nat} (hb : b < xs.length) : cnt xs b = 1 + ((kidN xs b).map fun k => cnt xs k).sum := by
  unfold cnt
  rw [show ((List.range xs.length).map fun i => ind (dsc xs b i)).sum = ((List.range xs.length).map fun i => ind (decide (i = b)) + ((kidN xs b).map fun k => ind (dsc xs k i)).sum).sum from
    sum_congr fun i hi => dsc_split V i (List.mem_range.1 hi), sum_add, sum_swap (fun i k => ind (dsc xs k i))]
  congr 1
  have := sum_ind_eq (l := List.range xs.length) List.nodup_range b
  have e : ((List.range xs.length).map fun i => ind (decide (i = b))).sum = ((List.range xs.length).map fun k => ind (decide (b = k))).sum := sum_congr fun i _ => by
    congr 1
    by_cases h : i = b
    · subst h; rfl
    · rw [decide_eq_false h, decide_eq_false (Ne.symm h)]
  rw [e, this]
  simp [ind, hb]
theorem foldl_sum {f : Int → Int} {g : Nat → Nat} : ∀ {l : List Nat} {s : Int}, (∀ k ∈ l, f (k : Int) = (g k : Nat)) → (l.map fun i : Nat => (i : Int)).foldl (fun n k => n + f k) s = s + ((l.map g).sum : Nat)
  | [], s, _ => by simp
  | k :: l, s, h => by
    rw [List.map_cons, List.foldl_cons, foldl_sum (fun j hj => h j (by simp [hj])), h k (by simp), List.map_cons, List.sum_cons]
    omega
theorem sizeR_cnt {xs : List RB} (V : Vals xs) : ∀ b, b < xs.length → sizeR xs (b : Nat) = (cnt xs b : Nat) := by
  refine tree_up V fun j hj ih => ?_
  rw [sizeR_eq V hj, cnt_eq V hj, kids_eq, foldl_sum (g := cnt xs) fun k hk => ih k (mem_kidN.1 hk).1 (mem_kidN.1 hk).2]
  show 1 + (((kidN xs j).map fun k => cnt xs k).sum : Int) = _
  omega
theorem cnt_le (xs : List RB) (b : Nat) : cnt xs b ≤ xs.length := by
  have : ∀ l : List Nat, (l.map fun i => ind (dsc xs b i)).sum ≤ l.length := by
    intro l
    induction l with
    | nil => simp
    | cons x l ih =>
      have : ind (dsc xs b x) ≤ 1 := by unfold ind; split <;> omega
      simp; omega
  have := this (List.range xs.length)
  simpa [cnt] using this
theorem cnt_pos {xs : List RB} (V : Vals xs) {b : Nat} (hb : b < xs.length) : 1 ≤ cnt xs b := by rw [cnt_eq V hb]; omega
end Go.Mono

set_option linter.unusedVariables false
set_option linter.unusedSimpArgs false
namespace Go.Mono

theorem toT_len (t : List (Int × BS)) : (toT t).length = t.length := by simp [toT]
theorem toT_up {t : List (Int × BS)} {i : Nat} (h : i < t.length) : up (toT t) i = (bg t i).1 := by
  simp [up, toT, bg, h, toB]
theorem toT_hs {t : List (Int × BS)} {i : Nat} (h : i < t.length) : hs (toT t) i = toL (bg t i).2 := by
  simp [hs, toT, bg, h, toB]
theorem hasL_toL (S : BS) (n : Int) : hasL (toL S) n = has S n := by
  rw [hasL, has, Bool.eq_iff_iff, decide_eq_true_eq, toL, mem_selN, Bool.and_eq_true, fitsB_iff]
  constructor
  · rintro ⟨i, h1, h2, rfl⟩
    exact ⟨⟨by omega, by omega⟩, by simpa using h2⟩
  · rintro ⟨⟨h1, h2⟩, h3⟩
    exact ⟨n.toNat, by omega, h3, by omega⟩
theorem hs_le (t : List (Int × BS)) (i : Nat) : (hs (toT t) i).length ≤ 1024 := by
  by_cases h : i < t.length
  · rw [toT_hs h]; exact toL_len _
  · have : (toT t)[i]? = none := by rw [List.getElem?_eq_none_iff, toT_len]; omega
    simp [hs, this]

/-! ### what the walk down from a bag visits -/
def pre (ks : Nat → List Nat) : Nat → Nat → List Nat
  | 0, b => [b]
  | f + 1, b => b :: (ks b).flatMap (pre ks f)
theorem dnF_cnt (ks : Nat → List Nat) : ∀ f b deep s, (dnF ks f b deep s).2 = s.2 + ((pre ks f b).length : Nat)
  | 0, b, deep, s => by simp [dnF, pre]
  | f + 1, b, deep, s => by
    rw [dnF, pre]
    have : ∀ (l : List Nat) (s : List Int × Int), (l.foldl (fun s k => dnF ks f k (deep + 1) s) s).2 = s.2 + ((l.flatMap (pre ks f)).length : Nat) := by
      intro l
      induction l with
      | nil => intro s; simp
      | cons k l ih =>
        intro s
        rw [List.foldl_cons, ih, dnF_cnt ks f, List.flatMap_cons, List.length_append]
        omega
    rw [this, List.length_cons]
    show s.2 + 1 + _ = _
    omega

def upN (t : List (Int × BS)) (i : Nat) : Option Nat := if (bg t i).1 < 0 then none else some (bg t i).1.toNat
/-- d bags up -/
def it (t : List (Int × BS)) : Nat → Nat → Option Nat
  | 0, i => some i
  | d + 1, i => (it t d i).bind (upN t)
theorem it_succ (t : List (Int × BS)) : ∀ d i, it t (d + 1) i = (upN t i).bind (it t d)
  | 0, i => by
    show (some i).bind (upN t) = _
    cases h : upN t i <;> simp [h, it]
  | d + 1, i => by
    rw [it, it_succ t d i]
    cases h : upN t i <;> simp [it]
theorem upN_lt {t : List (Int × BS)} (hr : Rng t) {i j : Nat} (hi : i < t.length) (h : upN t i = some j) : j < t.length ∧ (bg t i).1 = (j : Int) := by
  have := hr i hi
  unfold upN at h
  split at h
  · cases h
  · cases h; omega
theorem it_lt {t : List (Int × BS)} (hr : Rng t) {i : Nat} (hi : i < t.length) : ∀ d j, it t d i = some j → j < t.length
  | 0, j, h => by cases h; exact hi
  | d + 1, j, h => by
    rw [it] at h
    cases hx : it t d i with
    | none => rw [hx] at h; cases h
    | some k =>
      rw [hx] at h
      exact (upN_lt hr (it_lt hr hi d k hx) h).1
theorem kN_nodup (t : List (Int × BS)) (b : Nat) : (kN t b).Nodup := List.Nodup.sublist List.filter_sublist List.nodup_range
theorem kN_upN {t : List (Int × BS)} (hr : Rng t) {j b : Nat} (hj : j < t.length) : decide (j ∈ kN t b) = decide (upN t j = some b) := by
  have := hr j hj
  rw [decide_eq_decide, mem_kN]
  constructor
  · rintro ⟨_, h⟩
    rw [upN, if_neg (by omega), h]; rfl
  · intro h
    exact ⟨hj, (upN_lt hr hj h).2⟩
theorem sum_kN {t : List (Int × BS)} (hr : Rng t) (b : Nat) (x : Option Nat) (hx : ∀ j, x = some j → j < t.length) : ((kN t b).map fun k => ind (decide (x = some k))).sum = ind (decide (x.bind (upN t) = some b)) := by
  cases x with
  | none =>
    have : ∀ l : List Nat, (l.map fun k => ind (decide ((none : Option Nat) = some k))).sum = 0 := by
      intro l
      induction l with
      | nil => rfl
      | cons k l ih => rw [List.map_cons, List.sum_cons, ih]; rfl
    rw [this]; rfl
  | some j =>
    rw [show (some j).bind (upN t) = upN t j from rfl, ← kN_upN hr (hx j rfl), ← sum_ind_eq (kN_nodup t b)]
    refine sum_congr fun k _ => ?_
    congr 1
    rw [decide_eq_decide]
    exact Option.some_inj
theorem count_flatMap (g : Nat → List Nat) (i : Nat) : ∀ l : List Nat, (l.flatMap g).count i = (l.map fun k => (g k).count i).sum
  | [] => rfl
  | k :: l => by rw [List.flatMap_cons, List.count_append, count_flatMap g i l, List.map_cons, List.sum_cons]
theorem count_cons_ind (i b : Nat) (l : List Nat) : (b :: l).count i = ind (decide (i = b)) + l.count i := by
  rw [List.count_cons]
  by_cases h : b = i
  · subst h; simp [ind]; omega
  · have : ¬ i = b := Ne.symm h
    simp [ind, h, this]
theorem pre_count {t : List (Int × BS)} (hr : Rng t) {i : Nat} (hi : i < t.length) : ∀ f b, (pre (kN t) f b).count i = ((List.range (f + 1)).map fun d => ind (decide (it t d i = some b))).sum
  | 0, b => by
    rw [pre, count_cons_ind]
    simp [it]
  | f + 1, b => by
    rw [pre, count_cons_ind, count_flatMap]
    have h1 : ((kN t b).map fun k => (pre (kN t) f k).count i).sum = ((kN t b).map fun k => ((List.range (f + 1)).map fun d => ind (decide (it t d i = some k))).sum).sum := sum_congr fun k _ => pre_count hr hi f k
    rw [h1, sum_swap (fun k d => ind (decide (it t d i = some k)))]
    rw [List.range_succ_eq_map (n := f + 1), List.map_cons, List.sum_cons, List.map_map]
    congr 1
    · simp [it]
    · refine sum_congr fun d _ => ?_
      rw [sum_kN hr b (it t d i) (fun j hj => it_lt hr hi d j hj)]
      rfl
/-- the one root -/
theorem root_one {t : List (Int × BS)} (h : (rootN t).length = 1) : ∃ r, rootN t = [r] ∧ r < t.length ∧ (bg t r).1 = -1 ∧ ∀ j, j < t.length → (bg t j).1 = -1 → j = r := by
  match hx : rootN t, h with
  | [r], _ =>
    have hm : ∀ j, j ∈ rootN t ↔ j < t.length ∧ (bg t j).1 = -1 := by intro j; simp [rootN]
    have h1 := (hm r).1 (by rw [hx]; simp)
    refine ⟨r, rfl, h1.1, h1.2, fun j hj h => ?_⟩
    have := (hm j).2 ⟨hj, h⟩
    rw [hx] at this
    simpa using this
theorem sum_root {t : List (Int × BS)} {r : Nat} (hu : (bg t r).1 = -1) (i : Nat) : ∀ F, ((List.range F).map fun d => ind (decide (it t d i = some r))).sum ≤ 1 ∧ (1 ≤ ((List.range F).map fun d => ind (decide (it t d i = some r))).sum → it t F i = none)
  | 0 => ⟨by simp, by simp⟩
  | F + 1 => by
    obtain ⟨h1, h2⟩ := sum_root hu i F
    rw [List.range_succ, List.map_append, List.sum_append]
    simp only [List.map_cons, List.map_nil, List.sum_cons, List.sum_nil, Nat.add_zero]
    by_cases h : it t F i = some r
    · have h0 : ¬ 1 ≤ ((List.range F).map fun d => ind (decide (it t d i = some r))).sum := fun h' => by rw [h2 h'] at h; cases h
      rw [show decide (it t F i = some r) = true from decide_eq_true h]
      refine ⟨by rw [show ind true = 1 from rfl]; omega, fun _ => ?_⟩
      rw [it, h]
      show upN t r = none
      rw [upN, hu]; rfl
    · rw [show decide (it t F i = some r) = false from decide_eq_false h]
      rw [show ind false = 0 from rfl, Nat.add_zero]
      refine ⟨h1, fun h' => ?_⟩
      have := h2 h'
      rw [it, this]; rfl
theorem len_count {n : Nat} : ∀ {l : List Nat}, (∀ x ∈ l, x < n) → l.length = ((List.range n).map fun i => l.count i).sum
  | [], _ => by
    have : ∀ m : List Nat, (m.map fun i => ([] : List Nat).count i).sum = 0 := by
      intro m
      induction m with
      | nil => rfl
      | cons x m ih => rw [List.map_cons, List.sum_cons, ih]; rfl
    rw [this]; rfl
  | x :: l, h => by
    have e : ((List.range n).map fun i => (x :: l).count i).sum = ((List.range n).map fun i => ind (decide (i = x)) + l.count i).sum := sum_congr fun i _ => count_cons_ind i x l
    rw [e, sum_add, ← len_count (l := l) fun y hy => h y (by simp [hy])]
    have e2 : ((List.range n).map fun i => ind (decide (i = x))).sum = ((List.range n).map fun k => ind (decide (x = k))).sum := sum_congr fun i _ => by
      congr 1
      rw [decide_eq_decide]; exact eq_comm
    rw [e2, sum_ind_eq List.nodup_range]
    have hx := h x (by simp)
    simp [ind, hx]; omega
theorem pre_lt {t : List (Int × BS)} : ∀ f b, b < t.length → ∀ x ∈ pre (kN t) f b, x < t.length
  | 0, b, hb, x, hx => by rw [pre, List.mem_singleton] at hx; omega
  | f + 1, b, hb, x, hx => by
    rw [pre, List.mem_cons, List.mem_flatMap] at hx
    rcases hx with rfl | ⟨k, hk, hx⟩
    · exact hb
    · exact pre_lt f k (mem_kN.1 hk).1 x hx
theorem sum_le_len {f : Nat → Nat} : ∀ {l : List Nat}, (∀ x ∈ l, f x ≤ 1) → (l.map f).sum ≤ l.length
  | [], _ => by simp
  | x :: l, h => by
    have := sum_le_len (l := l) fun y hy => h y (by simp [hy])
    have := h x (by simp)
    simp; omega
theorem sum_eq_len {f : Nat → Nat} : ∀ {l : List Nat}, (∀ x ∈ l, f x ≤ 1) → ((l.map f).sum = l.length ↔ ∀ x ∈ l, f x = 1)
  | [], _ => by simp
  | x :: l, h => by
    have h1 := sum_le_len (l := l) fun y hy => h y (by simp [hy])
    have h2 := sum_eq_len (l := l) fun y hy => h y (by simp [hy])
    have h3 := h x (by simp)
    rw [List.map_cons, List.sum_cons, List.length_cons]
    constructor
    · intro h4
      have h5 : (l.map f).sum = l.length := by omega
      have h6 := h2.1 h5
      intro y hy
      rcases List.mem_cons.1 hy with rfl | hy
      · omega
      · exact h6 y hy
    · intro h4
      have := h2.2 fun y hy => h4 y (by simp [hy])
      have := h4 x (by simp)
      omega
theorem pre_count_le {t : List (Int × BS)} (hr : Rng t) {r : Nat} (hu : (bg t r).1 = -1) (f : Nat) {i : Nat} (hi : i < t.length) : (pre (kN t) f r).count i ≤ 1 := by
  rw [pre_count hr hi]; exact (sum_root hu i _).1
theorem pre_le {t : List (Int × BS)} (hr : Rng t) {r : Nat} (hrl : r < t.length) (hu : (bg t r).1 = -1) (f : Nat) : (pre (kN t) f r).length ≤ t.length := by
  rw [len_count (pre_lt f r hrl)]
  have := sum_le_len (f := fun i => (pre (kN t) f r).count i) (l := List.range t.length) fun i hi => pre_count_le hr hu f (List.mem_range.1 hi)
  simpa using this
theorem flat_len {g : Nat → List Nat} {k : Nat} : ∀ {l : List Nat}, k ∈ l → (g k).length ≤ (l.flatMap g).length
  | [], h => by cases h
  | x :: l, h => by
    rw [List.flatMap_cons, List.length_append]
    rcases List.mem_cons.1 h with rfl | h
    · omega
    · have := flat_len (g := g) h; omega
theorem pre_deep {ks : Nat → List Nat} : ∀ f b, ¬hgt ks f b → f + 2 ≤ (pre ks (f + 1) b).length
  | 0, b, h => by
    rw [pre]
    cases hk : ks b with
    | nil => exact absurd hk h
    | cons k l => simp [pre]
  | f + 1, b, h => by
    rw [hgt] at h
    obtain ⟨k, hk, hn⟩ : ∃ k, k ∈ ks b ∧ ¬hgt ks f k := by
      apply Classical.byContradiction
      intro hne
      exact h fun k hk => Classical.byContradiction fun hn => hne ⟨k, hk, hn⟩
    have := pre_deep f k hn
    rw [pre, List.length_cons]
    have := flat_len (g := pre ks (f + 1)) hk
    omega
theorem it_len {t : List (Int × BS)} (hr : Rng t) {i : Nat} (hi : i < t.length) : ∀ d b, it t d i = some b → d + 1 ≤ (pre (kN t) d b).length
  | 0, b, _ => by simp [pre]
  | d + 1, b, h => by
    rw [it] at h
    cases hx : it t d i with
    | none => rw [hx] at h; cases h
    | some j =>
      rw [hx] at h
      have hj := it_lt hr hi d j hx
      have hm : j ∈ kN t b := by
        have := kN_upN (b := b) hr hj
        rw [show decide (upN t j = some b) = true from decide_eq_true h] at this
        exact of_decide_eq_true this
      have := it_len hr hi d j hx
      have := flat_len (g := pre (kN t) d) hm
      rw [pre, List.length_cons]
      omega
theorem depthsF_cnt {t : List (Int × BS)} {r : Nat} (h : rootN t = [r]) (f : Nat) : (depthsF t f (rootN t)).2 = ((pre (kN t) f r).length : Nat) := by
  rw [h, depthsF, List.foldl_cons, List.foldl_nil, dnF_cnt]
  show (0 : Int) + _ = _
  omega
/-- what the walk of Check leans on holds -/
theorem Dp.mk' {t : List (Int × BS)} (hl : t.length ≤ 4096) (hr : Rng t) (h1 : (rootN t).length = 1) : Dp t t.length := by
  obtain ⟨r, h2, h3, h4, h5⟩ := root_one h1
  refine ⟨by omega, fun b hb => ?_, ?_⟩
  · rw [h2, List.mem_singleton] at hb
    subst hb
    apply Classical.byContradiction
    intro hn
    have := pre_deep _ _ hn
    have := pre_le hr h3 h4 (t.length + 1)
    omega
  · rw [depthsF_cnt h2]
    have := pre_le hr h3 h4 t.length
    omega
theorem abv_it {t : List (Int × BS)} (hr : Rng t) : ∀ f j, j < t.length → ((abv (toT t) f (up (toT t) j)).isSome = true ↔ ∃ d, d ≤ f ∧ it t (d + 1) j = none)
  | 0, j, hj => by
    rw [toT_up hj, abv]
    constructor
    · intro h
      refine ⟨0, Nat.le_refl _, ?_⟩
      rw [it_succ, upN]
      split at h
      · rename_i h'; rw [if_pos h']; rfl
      · cases h
    · rintro ⟨d, hd, h⟩
      obtain rfl : d = 0 := by omega
      rw [it_succ, upN] at h
      split at h
      · rename_i h'; rw [if_pos h']; rfl
      · cases h
  | f + 1, j, hj => by
    rw [toT_up hj, abv]
    by_cases h' : (bg t j).1 < 0
    · rw [if_pos h']
      refine ⟨fun _ => ⟨0, Nat.zero_le _, ?_⟩, fun _ => rfl⟩
      rw [it_succ, upN, if_pos h']; rfl
    · have hu : upN t j = some (bg t j).1.toNat := by rw [upN, if_neg h']
      have hk := (upN_lt hr hj hu).1
      rw [if_neg h', Option.isSome_map, abv_it hr f _ hk]
      constructor
      · rintro ⟨d, h1, h2⟩
        exact ⟨d + 1, by omega, by rw [it_succ, hu]; exact h2⟩
      · rintro ⟨d, h1, h2⟩
        rw [it_succ, hu] at h2
        cases d with
        | zero => cases h2
        | succ d => exact ⟨d, by omega, h2⟩
theorem above_it {t : List (Int × BS)} (hr : Rng t) {r : Nat} (hrl : r < t.length) (hu : (bg t r).1 = -1) (h1 : ∀ j, j < t.length → (bg t j).1 = -1 → j = r) {i : Nat} (hi : i < t.length) :
    (above (toT t) i).isSome = true ↔ (pre (kN t) t.length r).count i = 1 := by
  rw [above, abv_it hr _ _ hi, toT_len]
  have hle := pre_count_le hr hu t.length hi
  constructor
  · intro h
    obtain ⟨d, ⟨hd, hn⟩, hmin⟩ := least h
    have hs : ∃ j, it t d i = some j := by
      cases d with
      | zero => exact ⟨i, rfl⟩
      | succ d =>
        cases hx : it t (d + 1) i with
        | some j => exact ⟨j, rfl⟩
        | none => exact absurd ⟨by omega, hx⟩ (hmin d (by omega))
    obtain ⟨j, hj⟩ := hs
    have hjl := it_lt hr hi d j hj
    have hjr : j = r := h1 j hjl (by
      rw [it, hj] at hn
      have hrj := hr j hjl
      change upN t j = none at hn
      unfold upN at hn
      split at hn
      · omega
      · cases hn)
    subst hjr
    have hdl := it_len hr hi d j hj
    have := pre_le hr hrl hu d
    have hc := pre_count hr hi t.length j
    have h2 : 1 ≤ ((List.range (t.length + 1)).map fun d => ind (decide (it t d i = some j))).sum := by
      have : ∀ l : List Nat, d ∈ l → 1 ≤ (l.map fun d => ind (decide (it t d i = some j))).sum := by
        intro l
        induction l with
        | nil => intro h; cases h
        | cons x l ih =>
          intro h
          rw [List.map_cons, List.sum_cons]
          rcases List.mem_cons.1 h with rfl | h
          · rw [decide_eq_true hj]; simp [ind]
          · have := ih h; omega
      exact this _ (List.mem_range.2 (by omega))
    omega
  · intro h
    rw [pre_count hr hi] at h
    have : ∃ d, d ∈ List.range (t.length + 1) ∧ it t d i = some r := by
      apply Classical.byContradiction
      intro hne
      have : ∀ l : List Nat, (∀ d ∈ l, d ∈ List.range (t.length + 1)) → (l.map fun d => ind (decide (it t d i = some r))).sum = 0 := by
        intro l
        induction l with
        | nil => intro _; rfl
        | cons x l ih =>
          intro h
          rw [List.map_cons, List.sum_cons, ih fun d hd => h d (by simp [hd]), decide_eq_false fun he => hne ⟨x, h x (by simp), he⟩]
          rfl
      rw [this _ fun d hd => hd] at h
      cases h
    obtain ⟨d, hd, h2⟩ := this
    have := List.mem_range.1 hd
    refine ⟨d, by omega, ?_⟩
    rw [it, h2]
    show upN t r = none
    rw [upN, hu]; rfl

/-! ### tops -/
theorem topsS_bit {t : List (Int × BS)} (hr : Rng t) {i : Nat} (hi : i < t.length) {k : Nat} (hk : k < 1024) : (topsS t i).getLsbD k = topB (toT t) (k : Nat) i := by
  have hri := hr i hi
  have fit : fitsB (k : Nat) = true := fitsB_iff.2 ⟨by omega, by omega⟩
  have hh : ∀ S : BS, has S (k : Nat) = S.getLsbD k := fun S => by rw [has, fit, Int.toNat_natCast]; rfl
  rw [topB, toT_hs hi, hasL_toL, hh, toT_up hi, topsS]
  by_cases h : (bg t i).1 = -1
  · rw [if_pos h, h]; simp
  · rw [if_neg h, toT_hs (by omega), hasL_toL, hh]
    have : ¬ (bg t i).1 < 0 := by omega
    simp [this, hk]
theorem seenTo_bit {t : List (Int × BS)} (k : Nat) : ∀ i, (seenTo t i).getLsbD k = true ↔ ∃ j, j < i ∧ (topsS t j).getLsbD k = true
  | 0 => by simp [seenTo]
  | i + 1 => by
    rw [seenTo, BitVec.getLsbD_or, Bool.or_eq_true, seenTo_bit k i]
    constructor
    · rintro (⟨j, h1, h2⟩ | h)
      · exact ⟨j, by omega, h2⟩
      · exact ⟨i, by omega, h⟩
    · rintro ⟨j, h1, h2⟩
      by_cases hj : j = i
      · subst hj; exact .inr h2
      · exact .inl ⟨j, by omega, h2⟩
theorem and_zero {S T : BS} : S &&& T = 0 ↔ ∀ k, k < 1024 → ¬(S.getLsbD k = true ∧ T.getLsbD k = true) := by
  constructor
  · intro h k hk ⟨h1, h2⟩
    have := congrArg (fun S => S.getLsbD k) h
    simp [h1, h2] at this
  · intro h
    refine BitVec.eq_of_getLsbD_eq fun k hk => ?_
    have := h k hk
    rw [BitVec.getLsbD_and]
    cases h1 : S.getLsbD k <;> cases h2 : T.getLsbD k <;> simp [h1, h2] at this ⊢
/-- no two bags have a vertex at their top -/
def Uni (xs : List RB) : Prop := ∀ (id : Int) (j i : Nat), j < i → i < xs.length → ¬(topB xs id i = true ∧ topB xs id j = true)
theorem selN_two {p : Nat → Bool} : ∀ {n : Nat}, (selN p n).length ≤ 1 ↔ ∀ j i, j < i → i < n → ¬(p i = true ∧ p j = true)
  | 0 => ⟨fun _ j i _ h => by omega, fun _ => by simp [selN]⟩
  | n + 1 => by
    rw [selN_succ]
    constructor
    · intro h j i hji hi ⟨h1, h2⟩
      have hl : (selN p n).length ≤ 1 := by
        split at h
        · rw [List.length_append, List.length_singleton] at h; omega
        · exact h
      by_cases hin : i = n
      · subst hin
        rw [if_pos h1] at h
        have : (j : Int) ∈ selN p i := mem_selN.2 ⟨j, hji, h2, rfl⟩
        cases hs : selN p i with
        | nil => rw [hs] at this; cases this
        | cons x l => rw [hs] at h; simp at h
      · exact selN_two.1 hl j i hji (by omega) ⟨h1, h2⟩
    · intro h
      have hl : (selN p n).length ≤ 1 := selN_two.2 fun j i hji hi => h j i hji (by omega)
      split
      · rename_i hp
        have : selN p n = [] := by
          cases hs : selN p n with
          | nil => rfl
          | cons x l =>
            have : x ∈ selN p n := by rw [hs]; simp
            obtain ⟨j, h1, h2, _⟩ := mem_selN.1 this
            exact absurd ⟨hp, h2⟩ (h j n h1 (by omega))
        rw [this]; simp
      · exact hl
theorem topB_fits {t : List (Int × BS)} {id : Int} {i : Nat} (hi : i < t.length) (h : topB (toT t) id i = true) : ∃ k : Nat, k < 1024 ∧ id = (k : Int) := by
  rw [topB, toT_hs hi, hasL_toL, has, Bool.and_eq_true, Bool.and_eq_true, fitsB_iff] at h
  exact ⟨id.toNat, by omega, by omega⟩
theorem uni_S {t : List (Int × BS)} (hr : Rng t) : (∀ i, i < t.length → topsS t i &&& seenTo t i = 0) ↔ Uni (toT t) := by
  constructor
  · intro h id j i hji hi ⟨h1, h2⟩
    rw [toT_len] at hi
    obtain ⟨k, hk, rfl⟩ := topB_fits hi h1
    have := and_zero.1 (h i hi) k hk
    exact this ⟨by rw [topsS_bit hr hi hk]; exact h1, (seenTo_bit k i).2 ⟨j, hji, by rw [topsS_bit hr (by omega) hk]; exact h2⟩⟩
  · intro h i hi
    refine and_zero.2 fun k hk ⟨h1, h2⟩ => ?_
    obtain ⟨j, hj, h3⟩ := (seenTo_bit k i).1 h2
    rw [topsS_bit hr hi hk] at h1
    rw [topsS_bit hr (by omega) hk] at h3
    exact h k j i hj (by rw [toT_len]; exact hi) ⟨h1, h3⟩
/-- the tree alone -/
def bare (xs : List RB) : List RB := xs.map fun b => (b.1, [])
theorem bare_len (xs : List RB) : (bare xs).length = xs.length := by simp [bare]
theorem bare_up (xs : List RB) (i : Nat) : up (bare xs) i = up xs i := by
  unfold up bare
  rw [List.getElem?_map]
  cases xs[i]? <;> rfl
theorem bare_hs (xs : List RB) (i : Nat) : hs (bare xs) i = [] := by
  unfold hs bare
  rw [List.getElem?_map]
  cases xs[i]? <;> rfl
theorem bare_abv (xs : List RB) : ∀ f a, abv (bare xs) f a = abv xs f a
  | 0, a => rfl
  | f + 1, a => by rw [abv, abv, bare_up, bare_abv xs f]
theorem bare_vals {xs : List RB} (h1 : ∀ i, i < xs.length → -1 ≤ up xs i ∧ up xs i < xs.length) (h2 : (selN (fun i => decide (up xs i < 0)) xs.length).length = 1) (h3 : ∀ i, i < xs.length → (above xs i).isSome = true) : Vals (bare xs) := by
  refine ⟨fun i hi => ?_, ?_, fun i hi => ?_, fun i hi id hid => ?_⟩
  · rw [bare_len] at hi ⊢
    rw [bare_up]; exact h1 i hi
  · rw [bare_len]
    simp only [bare_up]
    exact h2
  · rw [bare_len] at hi
    rw [above, bare_abv, bare_up, bare_len]
    exact h3 i hi
  · rw [bare_hs] at hid; cases hid
theorem top_ex {xs : List RB} (V : Vals (bare xs)) (id : Int) : ∀ i, i < xs.length → id ∈ hs xs i → ∃ j, j < xs.length ∧ topB xs id j = true := by
  intro i hi
  refine tree_ind V (p := fun i => id ∈ hs xs i → ∃ j, j < xs.length ∧ topB xs id j = true) (fun i hi hu h => ⟨i, ?_, ?_⟩) (fun i j hi hj hu ih h => ?_) i (by rw [bare_len]; exact hi)
  · rwa [bare_len] at hi
  · rw [bare_up] at hu
    rw [topB, hasL, decide_eq_true h, hu]; rfl
  · rw [bare_len] at hi
    rw [bare_up] at hu
    by_cases hj2 : id ∈ hs xs j
    · exact ih hj2
    · refine ⟨i, hi, ?_⟩
      rw [topB, hasL, hasL, decide_eq_true h, hu, Int.toNat_natCast, decide_eq_false hj2]
      simp
theorem uni_R {xs : List RB} (V : Vals (bare xs)) : (∀ i, i < xs.length → ∀ id ∈ hs xs i, (topsR xs id).length = 1) ↔ Uni xs := by
  constructor
  · intro h id j i hji hi ⟨h1, h2⟩
    have hm : id ∈ hs xs i := by
      rw [topB, Bool.and_eq_true] at h1
      exact of_decide_eq_true h1.1
    have := h i hi id hm
    exact selN_two.1 (Nat.le_of_eq this) j i hji hi ⟨h1, h2⟩
  · intro h i hi id hid
    have h1 : (topsR xs id).length ≤ 1 := selN_two.2 fun j i hji hi => h id j i hji hi
    obtain ⟨j, hj, ht⟩ := top_ex V id i hi hid
    have : (j : Int) ∈ topsR xs id := mem_selN.2 ⟨j, hj, ht, rfl⟩
    have := List.length_pos_of_mem this
    omega
theorem ite2 {α : Type} {p q : Prop} {_ : Decidable p} {_ : Decidable q} {a b c d : α} (h : p ↔ q) (h1 : p → a = c) (h2 : ¬p → b = d) : (if p then a else b) = (if q then c else d) := by
  by_cases hp : p
  · rw [if_pos hp, if_pos (h.1 hp)]; exact h1 hp
  · rw [if_neg hp, if_neg (fun hq => hp (h.2 hq))]; exact h2 hp
/-- the program's check and the reference's agree -/
theorem chkT_eq {t : List (Int × BS)} : chkT t t.length = chkR (toT t) := by
  unfold chkT chkR
  rw [toT_len]
  refine ite2 (by omega) (fun _ => rfl) fun h0 => ?_
  have e1 : Rng t ↔ ∀ i, i < t.length → -1 ≤ up (toT t) i ∧ up (toT t) i < t.length := by
    constructor
    · intro h i hi; rw [toT_up hi]; exact h i hi
    · intro h i hi; have := h i hi; rwa [toT_up hi] at this
  refine ite2 (not_congr e1) (fun _ => rfl) fun hr => ?_
  replace hr := Classical.not_not.1 hr
  have e2 : (selN (fun i => decide (up (toT t) i < 0)) t.length).length = (rootN t).length := by
    rw [selN, List.length_map, rootN]
    congr 1
    refine List.filter_congr fun i hi => ?_
    have hi := List.mem_range.1 hi
    have := hr i hi
    rw [toT_up hi, decide_eq_decide]
    omega
  rw [e2]
  refine ite2 Iff.rfl (fun _ => rfl) fun h1 => ?_
  replace h1 := Classical.not_not.1 h1
  obtain ⟨r, r1, r2, r3, r4⟩ := root_one h1
  have e3 : (depthsF t t.length (rootN t)).2 = (t.length : Nat) ↔ ∀ i, i < t.length → (above (toT t) i).isSome = true := by
    rw [depthsF_cnt r1, len_count (pre_lt _ r r2)]
    have := sum_eq_len (f := fun i => (pre (kN t) t.length r).count i) (l := List.range t.length) fun i hi => pre_count_le hr r3 t.length (List.mem_range.1 hi)
    rw [List.length_range] at this
    rw [Int.ofNat_inj, this]
    constructor
    · intro h i hi
      exact (above_it hr r2 r3 r4 hi).2 (h i (List.mem_range.2 hi))
    · intro h i hi
      exact (above_it hr r2 r3 r4 (List.mem_range.1 hi)).1 (h i (List.mem_range.1 hi))
  refine ite2 (not_congr e3) (fun _ => rfl) fun h2 => ?_
  replace h2 := Classical.not_not.1 h2
  have V := bare_vals (xs := toT t) (by rw [toT_len]; exact e1.1 hr) (by rw [toT_len, e2]; exact h1) (by rw [toT_len]; exact e3.1 h2)
  have e4 := uni_R V
  rw [toT_len] at e4
  exact ite2 (not_congr ((uni_S hr).trans e4.symm)) (fun _ => rfl) fun _ => rfl
end Go.Mono

set_option linter.unusedVariables false
namespace Go.Mono
open Go Go.Proofs Go.RowKit

theorem Vals.hi {xs : List RB} (V : Vals xs) : ∀ i, i < xs.length → up xs i < xs.length := fun i hi => (V.range i hi).2

/-- how large the parts below the first k kids are, b itself with them -/
def szTo (xs : List RB) (b : Nat) (k : Nat) : Int := ((kids xs (b : Nat)).take k).foldl (fun n k => n + sizeR xs k) 1
theorem szTo_le {xs : List RB} (V : Vals xs) {b : Nat} (hb : b < xs.length) (k : Nat) : 1 ≤ szTo xs b k ∧ szTo xs b k ≤ xs.length := by
  have hs : ∀ k ∈ kidN xs b, sizeR xs (k : Nat) = (cnt xs k : Nat) := fun k hk => sizeR_cnt V k (mem_kidN.1 hk).1
  have e : szTo xs b k = 1 + ((((kidN xs b).take k).map (cnt xs)).sum : Nat) := by
    rw [szTo, kids_eq, ← List.map_take, foldl_sum (g := cnt xs) fun j hj => hs j (List.mem_of_mem_take hj)]
  have h2 : (((kidN xs b).take k).map (cnt xs)).sum ≤ ((kidN xs b).map (cnt xs)).sum := by
    conv => rhs; rw [← List.take_append_drop k (kidN xs b), List.map_append, List.sum_append]
    omega
  have h3 : cnt xs b = 1 + ((kidN xs b).map (cnt xs)).sum := cnt_eq V hb
  have h4 := cnt_le xs b
  omega
theorem szTo_succ {xs : List RB} {b k : Nat} (h : k < (kids xs (b : Nat)).length) : szTo xs b (k + 1) = szTo xs b k + sizeR xs (gi (kids xs (b : Nat)) k) := by
  rw [szTo, szTo, gi_take h, List.foldl_append]; rfl
theorem kid_at {xs : List RB} {b : Int} {k : Nat} (h : k < (kids xs b).length) : ∃ i : Nat, i < xs.length ∧ up xs i = b ∧ gi (kids xs b) k = (i : Int) := by
  have := List.mem_of_getElem? (gi_get h)
  obtain ⟨i, h1, h2, h3⟩ := mem_kids.1 this
  exact ⟨i, h1, h2, h3⟩
theorem kids_len (xs : List RB) (b : Int) : (kids xs b).length ≤ xs.length := selN_len _ _

def heavyStep (xs : List RB) (best k : Int) : Int := if best < 0 ∨ sizeR xs best < sizeR xs k then k else best
def heavyR (xs : List RB) (b : Int) : Int := (kids xs b).foldl (heavyStep xs) (-1)
def hvTo (xs : List RB) (b : Int) (k : Nat) : Int := ((kids xs b).take k).foldl (heavyStep xs) (-1)
theorem hvTo_succ {xs : List RB} {b : Int} {k : Nat} (h : k < (kids xs b).length) : hvTo xs b (k + 1) = heavyStep xs (hvTo xs b k) (gi (kids xs b) k) := by
  rw [hvTo, hvTo, gi_take h, List.foldl_append]; rfl
theorem hvTo_ok {xs : List RB} {b : Int} : ∀ k, k ≤ (kids xs b).length → hvTo xs b k = -1 ∨ ∃ i : Nat, i < xs.length ∧ up xs i = b ∧ hvTo xs b k = (i : Int)
  | 0, _ => .inl rfl
  | k + 1, h => by
    rw [hvTo_succ (by omega), heavyStep]
    obtain ⟨i, h1, h2, h3⟩ := kid_at (xs := xs) (b := b) (k := k) (by omega)
    split
    · exact .inr ⟨i, h1, h2, h3⟩
    · exact hvTo_ok k (by omega)

def lightR (xs : List RB) (b : Int) : List Int := (kids xs b).filter fun k => k != heavyR xs b
def wayF (xs : List RB) : Nat → Int → List Int
  | 0, _ => []
  | f + 1, b => if b < 0 then [] else b :: wayF xs f (heavyR xs b)
def wayR (xs : List RB) (b : Int) : List Int := wayF xs (xs.length + 2) b
theorem heavyR_ok (xs : List RB) (b : Int) : heavyR xs b = -1 ∨ ∃ i : Nat, i < xs.length ∧ up xs i = b ∧ heavyR xs b = (i : Int) := by
  have := hvTo_ok (xs := xs) (b := b) _ (Nat.le_refl _)
  rwa [hvTo, List.take_length] at this

end Go.Mono

set_option linter.unusedVariables false
namespace Go.Mono
open Go Go.Proofs Go.RowKit

open Classical in
noncomputable def newR (xs : List RB) : Int := if chkR xs ≠ 0 then chkR xs else if ∀ i, i < xs.length → (hs xs i).length ≤ 4 then 0 else 14
theorem newR_spec {G : Nat → Prop} (xs : List RB) (v : Value) (W : World) (h : (Dv rtE G xs).p v W) (hl : xs.length ≤ 1024) (hh : ∀ i, i < xs.length → (hs xs i).length ≤ 4096) :
    Calls Tryz.prog 22 #[v] W (Post (E (I (newR xs))) W) := by
  refine enter (args := [v]) (As := [Dv rtE G xs]) Tryz.func22 rfl Tryz.ntmps22 (Nat.le_of_ble_eq_true rfl) ?_ (fun a hf => ?_) (Nat.le_of_ble_eq_true rfl)
  rotate_left
  dsimp only [params, Nat.reduceAdd] at hf
  rotate_right
  · exact arg1 h
  have e := Ext.rfl' W
  repeat refine seq ?_
  refine regn0 ?_
  refine tl_as hf rfl (by decide) fun a hf => ?_
  refine tl_nil ?_
  repeat refine seq ?_
  refine regn 2 hf (by decide +kernel) ?_
  refine st (mv rfl) ?_
  refine st (call1 En48 rfl (fun v w he h => chkR_spec _ _ _ h (by omega) hh)) ?_
  refine en fun a w e' hf => ?_
  replace e := Ext.tr e e'
  clear e'
  refine tl_as hf rfl (by decide) fun a hf => ?_
  refine tl_nil ?_
  repeat refine seq ?_
  refine regn 2 hf (by decide +kernel) ?_
  refine st (mv rfl) ?_
  refine st (neq rfl rfl) ?_
  refine en fun a w e' hf => ?_
  replace e := Ext.tr e e'
  clear e'
  refine tl_nil ?_
  repeat refine seq ?_
  refine ifc hf rfl (fun hb => ?_) (fun hb => ?_)
  · have hb' : chkR xs ≠ 0 := by simpa using hb
    repeat refine seq ?_
    refine regn 1 hf (by decide +kernel) ?_
    refine st (mv rfl) ?_
    refine en fun a w e' hf => ?_
    replace e := Ext.tr e e'
    clear e'
    refine tl_as hf rfl (by decide) fun a hf => ?_
    refine tl_nil ?_
    refine wret ?_
    try simp only [Exit.then, Exit.inBlock]
    refine ret1 rfl hf rfl ?_
    rintro _ rfl
    exact ⟨_, rfl, e, congrArg I (by rw [newR, if_pos hb'])⟩
  · have hb' : ¬ chkR xs ≠ 0 := by simpa using hb
    refine wskip ?_
    try simp only [Exit.then, Exit.inBlock, ↓reduceIte]
    repeat refine seq ?_
    refine regn 3 hf (by decide +kernel) ?_
    refine st (mv rfl) ?_
    refine st (lenD Tryz.underlying29 (isR rfl)) ?_
    refine st ((gtr rfl rfl).eq (congrArg Value.bool (show decide ((1024 : Int) < (xs.length : Nat)) = false from decide_eq_false (by omega)))) ?_
    refine en fun a w e' hf => ?_
    replace e := Ext.tr e e'
    clear e'
    refine tl_nil ?_
    repeat refine seq ?_
    refine ifc hf rfl (fun h => by cases h) (fun _ => ?_)
    refine wskip ?_
    try simp only [Exit.then, Exit.inBlock, ↓reduceIte]
    repeat refine seq ?_
    refine regn0 ?_
    refine tl_as hf rfl (by decide) fun a hf => ?_
    refine tl_nil ?_
    replace hf := hf.keep [0, 4]
    dsimp only [keep, List.filterMap, look, Nat.beq, Option.map] at hf
    repeat refine seq ?_
    refine blk (loopN (fun r0 a w => ∃ (k : Nat) , r0 = xs.length - k ∧ k ≤ xs.length ∧ Fr 26 a w [(0, Dv rtE G xs), (4, E (I k))] ∧ Ext W w ∧ ∀ i, i < k → (hs xs i).length ≤ 4) xs.length ⟨0, rfl, by omega, hf, e, (fun i hi => by omega)⟩ ?_)
    clear hf e; try clear Ho
    rintro r0 a w ⟨k, rfl, hk, hf, e, Ho⟩
    repeat refine seq ?_
    refine regn 4 hf (by decide +kernel) ?_
    refine st (mv rfl) ?_
    refine st (mv rfl) ?_
    refine st (lenD Tryz.underlying29 (isR rfl)) ?_
    refine st (lss rfl rfl) ?_
    refine en fun a w e' hf => ?_
    replace e := Ext.tr e e'
    clear e'
    refine tl_nil ?_
    repeat refine seq ?_
    refine ifc hf rfl (fun hc => wskip ?_) (fun hc => wexit ?_)
    rotate_left
    rotate_left
    · have hlt : k < xs.length := by have := of_decide_eq_true hc; (try dsimp only at this); omega
      clear hc
      replace hf := hf.keep [0, 4]
      dsimp only [keep, List.filterMap, look, Nat.beq, Option.map] at hf
      repeat refine seq ?_
      refine blk ?_
      repeat refine seq ?_
      refine regn 7 hf (by decide +kernel) ?_
      refine st (mv rfl) ?_
      refine st (mv rfl) ?_
      refine st (idxD Tryz.underlying29 S103 (isR rfl) rfl (by omega) (up_get hlt)) ?_
      refine st (fldD Tryz.underlying103 rfl T101 (by decide) (Fld.snd Fld.refl rfl) (isR rfl)) ?_
      refine st (ldD T101 (isR rfl)) ?_
      refine st (lenD Tryz.underlying101 (isR rfl)) ?_
      refine st (gtr rfl rfl) ?_
      refine en fun a w e' hf => ?_
      replace e := Ext.tr e e'
      clear e'
      refine tl_nil ?_
      repeat refine seq ?_
      refine ifc hf rfl (fun hb => ?_) (fun hb => ?_)
      · have hb2 := of_decide_eq_true hb
        repeat refine seq ?_
        refine regn0 ?_
        refine tl_as hf rfl (by decide) fun a hf => ?_
        refine tl_nil ?_
        refine wret ?_
        try simp only [Exit.then, Exit.inBlock]
        refine ret1 rfl hf rfl ?_
        rintro _ rfl
        exact ⟨_, rfl, e, congrArg I (by rw [newR, if_neg hb', if_neg (fun h => by have := h k hlt; dsimp only at hb2; omega)])⟩
      · have hb2 := of_decide_eq_false hb
        refine wskip ?_
        try simp only [Exit.then, Exit.inBlock, ↓reduceIte]
        try simp only [Exit.then, Exit.inBlock, ↓reduceIte]
        repeat refine seq ?_
        refine regn 2 hf (by decide +kernel) ?_
        refine st (mv rfl) ?_
        refine st ((add rfl rfl (by omega)).eq (congrArg (Value.int .i64) (show (k : Int) + 1 = ((k + 1 : Nat) : Int) from rfl))) ?_
        refine en fun a w e' hf => ?_
        replace e := Ext.tr e e'
        clear e'
        refine tl_as hf rfl (by decide) fun a hf => ?_
        refine tl_nil ?_
        replace hf := hf.keep [0, 4]
        dsimp only [keep, List.filterMap, look, Nat.beq, Option.map] at hf
        refine ⟨_, ?_, k + 1, rfl, by omega, hf, e, ?_⟩
        · omega
        intro i hi
        by_cases hk : i = k
        · subst hk; dsimp only at hb2; omega
        · exact Ho i (by omega)
    · obtain rfl : k = xs.length := by have := of_decide_eq_false hc; (try dsimp only at this); omega
      clear hc
      simp only [Exit.then, Exit.inBlock, ↓reduceIte]
      repeat refine seq ?_
      refine regn0 ?_
      refine tl_as hf rfl (by decide) fun a hf => ?_
      refine tl_nil ?_
      refine wret ?_
      try simp only [Exit.then, Exit.inBlock]
      refine ret1 rfl hf rfl ?_
      rintro _ rfl
      exact ⟨_, rfl, e, congrArg I (by rw [newR, if_neg hb', if_pos Ho])⟩

def isR45 (xs : List RB) (b : Int) : Bool := decide (0 ≤ b ∧ b < xs.length)
theorem isR_spec {G : Nat → Prop} (xs : List RB) (b : Int) (v : Value) (W : World) (h : (Dv rtE G xs).p v W) :
    Calls Tryz.prog 56 #[v, I b] W (Post (E (B (isR45 xs b))) W) := by
  refine enter (args := [v, I b]) (As := [Dv rtE G xs, E (I b)]) Tryz.func56 rfl Tryz.ntmps56 (Nat.le_of_ble_eq_true rfl) ?_ (fun a hf => ?_) (Nat.le_of_ble_eq_true rfl)
  rotate_left
  dsimp only [params, Nat.reduceAdd] at hf
  rotate_right
  · exact arg2 h rfl
  have e := Ext.rfl' W
  repeat refine seq ?_
  refine regn0 ?_
  refine tl_as hf rfl (by decide) fun a hf => ?_
  refine tl_nil ?_
  cases h1 : decide (0 ≤ b)
  · repeat refine seq ?_
    refine regn 8 hf (by decide +kernel) ?_
    refine st (mv rfl) ?_
    refine st ((geq rfl rfl).eq (congrArg Value.bool (h1))) ?_
    refine st (mv rfl) ?_
    first | refine sn rfl rfl rfl ?_ | refine su rfl rfl ?_ | refine sy rfl rfl (mv rfl) ?_
    first | refine sn rfl rfl rfl ?_ | refine su rfl rfl ?_ | refine sy rfl rfl (mv rfl) ?_
    first | refine sn rfl rfl rfl ?_ | refine su rfl rfl ?_ | refine sy rfl rfl (lenD Tryz.underlying29 (isR rfl)) ?_
    first | refine sn rfl rfl rfl ?_ | refine su rfl rfl ?_ | refine sy rfl rfl (lss rfl rfl) ?_
    first | refine st (pkT rfl rfl) ?_ | refine st (pkF rfl rfl) ?_ | refine st (pk rfl rfl rfl) ?_
    refine en fun a w e' hf => ?_
    replace e := Ext.tr e e'
    clear e'
    refine tl_as hf rfl (by decide) fun a hf => ?_
    refine tl_nil ?_
    have h1' := of_decide_eq_false h1
    refine wret ?_
    try simp only [Exit.then, Exit.inBlock]
    refine ret1 rfl hf rfl ?_
    rintro _ rfl
    exact ⟨_, rfl, e, congrArg B (decide_eq_false fun h => h1' h.1).symm⟩
  · repeat refine seq ?_
    refine regn 8 hf (by decide +kernel) ?_
    refine st (mv rfl) ?_
    refine st ((geq rfl rfl).eq (congrArg Value.bool (h1))) ?_
    refine st (mv rfl) ?_
    first | refine sn rfl rfl rfl ?_ | refine su rfl rfl ?_ | refine sy rfl rfl (mv rfl) ?_
    first | refine sn rfl rfl rfl ?_ | refine su rfl rfl ?_ | refine sy rfl rfl (mv rfl) ?_
    first | refine sn rfl rfl rfl ?_ | refine su rfl rfl ?_ | refine sy rfl rfl (lenD Tryz.underlying29 (isR rfl)) ?_
    first | refine sn rfl rfl rfl ?_ | refine su rfl rfl ?_ | refine sy rfl rfl (lss rfl rfl) ?_
    first | refine st (pkT rfl rfl) ?_ | refine st (pkF rfl rfl) ?_ | refine st (pk rfl rfl rfl) ?_
    refine en fun a w e' hf => ?_
    replace e := Ext.tr e e'
    clear e'
    refine tl_as hf rfl (by decide) fun a hf => ?_
    refine tl_nil ?_
    have h1' := of_decide_eq_true h1
    refine wret ?_
    try simp only [Exit.then, Exit.inBlock]
    refine ret1 rfl hf rfl ?_
    rintro _ rfl
    exact ⟨_, rfl, e, congrArg B (by unfold isR45; simp only [h1', true_and])⟩

def sharedR (xs : List RB) (i : Nat) : List Int := if up xs i < 0 then [] else (hs xs i).filter (hasL (hs xs (up xs i).toNat))
def homeR (xs : List RB) (id : Int) : Int := fstN (topB xs id) xs.length
def bothB (xs : List RB) (u v : Int) (i : Nat) : Bool := hasL (hs xs i) u && hasL (hs xs i) v
/-- a vertex of some bag has a home -/
theorem homeR_ok {xs : List RB} (V : Vals xs) (id : Int) {i : Nat} (hi : i < xs.length) (h : hasL (hs xs i) id = true) : ∃ j : Nat, j < xs.length ∧ homeR xs id = (j : Int) := by
  have : ∃ j, j < xs.length ∧ topB xs id j = true := by
    revert h
    refine tree_ind V (p := fun i => hasL (hs xs i) id = true → ∃ j, j < xs.length ∧ topB xs id j = true) (fun i hi hu h => ⟨i, hi, ?_⟩) (fun i j hi hj hu ih h => ?_) i hi
    · rw [topB, h, hu]; rfl
    · cases hj2 : hasL (hs xs j) id
      · refine ⟨i, hi, ?_⟩
        rw [topB, h, hu, Int.toNat_natCast, hj2]; simp
      · exact ih hj2
  obtain ⟨m, hm, hmin⟩ := least (p := fun j => j < xs.length ∧ topB xs id j = true) this
  refine ⟨m, hm.1, fstN_hit hm.1 (fun i hi => ?_) hm.2⟩
  cases ht : topB xs id i
  · rfl
  · exact absurd ⟨by omega, ht⟩ (hmin i hi)
noncomputable def homeEdgeR (xs : List RB) (u v : Int) : Int := if u = v then -1 else if fstN (bothB xs u v) xs.length = -1 then -1 else
  if depthR xs (homeR xs v).toNat < depthR xs (homeR xs u).toNat then homeR xs u else homeR xs v

def idsR (xs : List RB) : List Int := xs.foldl (fun out b => b.2.foldl withL out) []
theorem foldl_withL_len : ∀ (t r : List Int), (t.foldl withL r).length ≤ r.length + t.length
  | [], r => by simp
  | x :: t, r => by
    have := foldl_withL_len t (withL r x)
    have := withL_len r x
    simp only [List.foldl_cons, List.length_cons]
    omega
theorem idsTo_len {xs : List RB} (h : ∀ i, i < xs.length → (hs xs i).length ≤ 4) : ∀ k, k ≤ xs.length → ((xs.take k).foldl (fun out b => b.2.foldl withL out) []).length ≤ 4 * k
  | 0, _ => by simp
  | k + 1, hk => by
    rw [take_succ_get (up_get (by omega)), List.foldl_append]
    have h1 := idsTo_len h k (by omega)
    have h2 := foldl_withL_len (hs xs k) ((xs.take k).foldl (fun out b => b.2.foldl withL out) [])
    have h3 := h k (by omega)
    simp only [List.foldl_cons, List.foldl_nil]
    omega
end Go.Mono

set_option linter.unusedVariables false
set_option linter.unusedSimpArgs false
namespace Go.Mono

theorem fstN_cases (p : Nat → Bool) (n : Nat) : (fstN p n = -1 ∧ ∀ i, i < n → p i = false) ∨ ∃ k : Nat, k < n ∧ fstN p n = (k : Int) ∧ p k = true ∧ ∀ i, i < k → p i = false := by
  by_cases h : ∃ k, k < n ∧ p k = true
  · obtain ⟨k, ⟨h1, h2⟩, h3⟩ := least h
    have h4 : ∀ i, i < k → p i = false := fun i hi => by
      cases hp : p i
      · rfl
      · exact absurd ⟨by omega, hp⟩ (h3 i hi)
    exact .inr ⟨k, h1, fstN_hit h1 h4 h2, h2, h4⟩
  · have h4 : ∀ i, i < n → p i = false := fun i hi => by
      cases hp : p i
      · rfl
      · exact absurd ⟨i, hi, hp⟩ h
    exact .inl ⟨fstN_none h4, h4⟩
theorem Vals.uni {xs : List RB} (V : Vals xs) : Uni xs := (uni_R (bare_vals V.range V.root V.loop)).1 V.dup
theorem homeR_top {xs : List RB} (U : Uni xs) {id : Int} {i : Nat} (hi : i < xs.length) (h : topB xs id i = true) : homeR xs id = (i : Int) := by
  refine fstN_hit hi (fun j hj => ?_) h
  cases ht : topB xs id j
  · rfl
  · exact absurd ⟨h, ht⟩ (U id j i hj hi)
theorem homeR_cases (xs : List RB) (id : Int) : (homeR xs id = -1 ∧ ∀ i, i < xs.length → topB xs id i = false) ∨ ∃ k : Nat, k < xs.length ∧ homeR xs id = (k : Int) ∧ topB xs id k = true := by
  rcases fstN_cases (topB xs id) xs.length with h | ⟨k, h1, h2, h3, _⟩
  · exact .inl h
  · exact .inr ⟨k, h1, h2, h3⟩
theorem dsc_self (xs : List RB) (i : Nat) : dsc xs i i = true := by simp [dsc]
/-- a vertex's bags lie below its home, and all between have it -/
theorem home_path {xs : List RB} (V : Vals xs) (id : Int) : ∀ i, i < xs.length → hasL (hs xs i) id = true →
    ∃ a, a < xs.length ∧ homeR xs id = (a : Int) ∧ dsc xs a i = true ∧ ∀ j, j < xs.length → dsc xs a j = true → dsc xs j i = true → hasL (hs xs j) id = true := by
  have U := V.uni
  refine tree_ind V (fun i hi hu h => ?_) (fun i p hi hp hu ih h => ?_)
  · refine ⟨i, hi, homeR_top U hi (by rw [topB, h, hu]; rfl), dsc_self _ _, fun j hj h1 h2 => ?_⟩
    rw [dsc_root (by omega)] at h2
    rw [← of_decide_eq_true h2]; exact h
  · have hd := depth_step V hi hu
    cases hp2 : hasL (hs xs p) id
    · refine ⟨i, hi, homeR_top U hi (by rw [topB, h, hu, Int.toNat_natCast, hp2]; simp), dsc_self _ _, fun j hj h1 h2 => ?_⟩
      rw [dsc_step V hi hu, Bool.or_eq_true] at h2
      rcases h2 with h2 | h2
      · rw [← of_decide_eq_true h2]; exact h
      · have := dsc_depth V j hj h1
        have := dsc_depth V p hp h2
        omega
    · obtain ⟨a, a1, a2, a3, a4⟩ := ih hp2
      refine ⟨a, a1, a2, by rw [dsc_step V hi hu, a3, Bool.or_true], fun j hj h1 h2 => ?_⟩
      rw [dsc_step V hi hu, Bool.or_eq_true] at h2
      rcases h2 with h2 | h2
      · rw [← of_decide_eq_true h2]; exact h
      · exact a4 j hj h1 h2
theorem dsc_chain {xs : List RB} (V : Vals xs) {a c : Nat} : ∀ i, i < xs.length → dsc xs a i = true → dsc xs c i = true → depthR xs c ≤ depthR xs a → dsc xs c a = true := by
  refine tree_ind V (fun i hi hu h1 h2 h3 => ?_) (fun i p hi hp hu ih h1 h2 h3 => ?_)
  · rw [dsc_root (by omega)] at h1 h2
    rw [← of_decide_eq_true h1, ← of_decide_eq_true h2]; exact dsc_self _ _
  · have hd := depth_step V hi hu
    have h2' := h2
    rw [dsc_step V hi hu, Bool.or_eq_true] at h1 h2
    rcases h1 with h1 | h1
    · rw [← of_decide_eq_true h1]; exact h2'
    · rcases h2 with h2 | h2
      · have := dsc_depth V p hp h1
        rw [← of_decide_eq_true h2] at h3
        omega
      · exact ih h1 h2 h3
/-- the home of an edge -/
theorem edge_home {xs : List RB} (V : Vals xs) {x y : Int} (h : 0 ≤ homeEdgeR xs x y) : ∃ b a c : Nat, b < xs.length ∧ a < xs.length ∧ c < xs.length ∧ homeEdgeR xs x y = (b : Int) ∧ homeR xs x = (a : Int) ∧ homeR xs y = (c : Int) ∧
    hasL (hs xs b) x = true ∧ hasL (hs xs b) y = true ∧ (b = a ∨ b = c) ∧ depthR xs a ≤ depthR xs b ∧ depthR xs c ≤ depthR xs b := by
  unfold homeEdgeR at h ⊢
  by_cases hxy : x = y
  · rw [if_pos hxy] at h; omega
  rw [if_neg hxy] at h ⊢
  rcases fstN_cases (bothB xs x y) xs.length with ⟨h1, _⟩ | ⟨i, hi, h1, h2, _⟩
  · rw [if_pos h1] at h; omega
  have hne : ¬ fstN (bothB xs x y) xs.length = -1 := by omega
  rw [if_neg hne] at h ⊢
  rw [bothB, Bool.and_eq_true] at h2
  obtain ⟨a, a1, a2, a3, a4⟩ := home_path V x i hi h2.1
  obtain ⟨c, c1, c2, c3, c4⟩ := home_path V y i hi h2.2
  have tx := a4 a a1 (dsc_self _ _) a3
  have ty := c4 c c1 (dsc_self _ _) c3
  rw [a2, c2, Int.toNat_natCast, Int.toNat_natCast]
  by_cases hd : depthR xs c < depthR xs a
  · rw [if_pos hd]
    have hca := dsc_chain V i hi a3 c3 (by omega)
    exact ⟨a, a, c, a1, a1, c1, rfl, rfl, rfl, tx, c4 a a1 hca a3, .inl rfl, Nat.le_refl _, by omega⟩
  · rw [if_neg hd]
    have hac := dsc_chain V i hi c3 a3 (by omega)
    exact ⟨c, a, c, c1, a1, c1, rfl, rfl, rfl, a4 c c1 hac c3, ty, .inr rfl, by omega, Nat.le_refl _⟩
end Go.Mono

set_option linter.unusedVariables false
set_option linter.unusedSimpArgs false
namespace Go.Mono

theorem wayF_neg (xs : List RB) (f : Nat) {b : Int} (h : b < 0) : wayF xs f b = [] := by
  cases f with
  | zero => rfl
  | succ f => rw [wayF, if_pos h]
theorem wayF_stable {xs : List RB} (V : Vals xs) : ∀ (d j : Nat), j < xs.length → xs.length + 1 - depthR xs j = d → ∀ f g, d < f → d < g → wayF xs f (j : Nat) = wayF xs g (j : Nat) := by
  intro d
  induction d using Nat.strongRecOn with
  | _ d ih =>
    intro j hj hd f g hf hg
    obtain ⟨f, rfl⟩ : ∃ k, f = k + 1 := ⟨f - 1, by omega⟩
    obtain ⟨g, rfl⟩ : ∃ k, g = k + 1 := ⟨g - 1, by omega⟩
    rw [wayF, wayF, if_neg (by omega), if_neg (by omega)]
    congr 1
    rcases heavyR_ok xs (j : Nat) with h | ⟨i, i1, i2, i3⟩
    · rw [h, wayF_neg _ _ (by omega), wayF_neg _ _ (by omega)]
    · rw [i3]
      have h1 := depth_step V i1 i2
      have h2 := depth_le V i1
      exact ih (xs.length + 1 - depthR xs i) (by omega) i i1 rfl f g (by omega) (by omega)
theorem wayR_neg {xs : List RB} {b : Int} (h : b < 0) : wayR xs b = [] := wayF_neg _ _ h
theorem wayR_eq {xs : List RB} (V : Vals xs) {j : Nat} (hj : j < xs.length) : wayR xs (j : Nat) = (j : Int) :: wayR xs (heavyR xs (j : Nat)) := by
  show wayF xs (xs.length + 1 + 1) _ = _
  rw [wayF, if_neg (by omega)]
  congr 1
  rcases heavyR_ok xs (j : Nat) with h | ⟨i, i1, i2, i3⟩
  · rw [h, wayF_neg _ _ (by omega), wayR_neg (by omega)]
  · rw [i3]
    have h1 := depth_step V i1 i2
    have h2 := depth_le V i1
    exact wayF_stable V _ i i1 rfl _ _ (by omega) (by omega)
theorem count_consI (b x : Int) (l : List Int) : (x :: l).count b = ind (decide (x = b)) + l.count b := by
  rw [List.count_cons]
  by_cases h : x = b
  · subst h; simp [ind]; omega
  · simp [ind, h]
/-- how often a bag lies on the way down from s -/
theorem way_root {xs : List RB} (V : Vals xs) {b : Nat} (hb : up xs b < 0) : ∀ s, s < xs.length → (wayR xs (s : Nat)).count (b : Int) = ind (decide (s = b)) := by
  refine tree_up V fun s hs ih => ?_
  rw [wayR_eq V hs, count_consI]
  have e : decide (((s : Nat) : Int) = (b : Nat)) = decide (s = b) := by rw [decide_eq_decide]; omega
  rw [e]
  rcases heavyR_ok xs (s : Nat) with h | ⟨i, i1, i2, i3⟩
  · rw [wayR_neg (by omega)]; rfl
  · rw [i3, ih i i1 i2, decide_eq_false (fun h : i = b => by subst h; omega)]; rfl
theorem way_step {xs : List RB} (V : Vals xs) {b p : Nat} (hb : up xs b = (p : Int)) : ∀ s, s < xs.length → (wayR xs (s : Nat)).count (b : Int) = ind (decide (s = b)) + (if heavyR xs (p : Nat) = (b : Int) then (wayR xs (s : Nat)).count (p : Int) else 0) := by
  refine tree_up V fun s hs ih => ?_
  rw [wayR_eq V hs, count_consI, count_consI]
  have e : ∀ c : Nat, decide (((s : Nat) : Int) = (c : Nat)) = decide (s = c) := fun c => by rw [decide_eq_decide]; omega
  rw [e, e]
  rcases heavyR_ok xs (s : Nat) with h | ⟨i, i1, i2, i3⟩
  · rw [h, wayR_neg (by omega)]
    by_cases hp : heavyR xs (p : Nat) = (b : Int)
    · rw [if_pos hp]
      have : ¬ s = p := fun hsp => by subst hsp; omega
      simp [ind, this]
    · rw [if_neg hp]; simp
  · rw [i3, ih i i1 i2]
    by_cases hp : heavyR xs (p : Nat) = (b : Int)
    · rw [if_pos hp, if_pos hp]
      have : decide (i = b) = decide (s = p) := by
        rw [decide_eq_decide]
        constructor
        · rintro rfl; rw [hb] at i2; omega
        · rintro rfl; rw [i3] at hp; omega
      rw [this]
    · rw [if_neg hp, if_neg hp]
      have : ¬ i = b := fun h => by
        subst h
        have : p = s := by rw [hb] at i2; omega
        subst this
        exact hp i3
      simp [ind, this]

def lightN (xs : List RB) (b : Nat) : List Nat := (kidN xs b).filter fun k => decide (heavyR xs (b : Nat) ≠ (k : Int))
theorem lightR_eq (xs : List RB) (b : Nat) : lightR xs (b : Nat) = (lightN xs b).map fun i : Nat => (i : Int) := by
  rw [lightR, kids_eq, lightN, List.filter_map]
  congr 1
  refine List.filter_congr fun k _ => ?_
  simp only [Function.comp, bne, Bool.not_eq_eq_eq_not]
  by_cases h : (k : Int) = heavyR xs (b : Nat)
  · simp [h]
  · have : ¬ heavyR xs (b : Nat) = (k : Int) := Ne.symm h
    simp [h, this]
theorem mem_lightN {xs : List RB} {b k : Nat} : k ∈ lightN xs b ↔ k < xs.length ∧ up xs k = (b : Int) ∧ heavyR xs (b : Nat) ≠ (k : Int) := by
  simp [lightN, mem_kidN, and_assoc]
/-- where the paths start; of the first k bags' light children -/
def stTo (xs : List RB) (r k : Nat) : List Nat := r :: (List.range k).flatMap (lightN xs)
theorem count_light {xs : List RB} (b p : Nat) : (lightN xs p).count b = ind (decide (b ∈ lightN xs p)) := by
  have hn : (lightN xs p).Nodup := List.Nodup.sublist List.filter_sublist (kidN_nodup xs p)
  by_cases h : b ∈ lightN xs p
  · rw [decide_eq_true h]
    have := List.nodup_iff_count.1 hn b
    have := List.count_pos_iff.2 h
    simp [ind]; omega
  · rw [decide_eq_false h, List.count_eq_zero_of_not_mem h]; rfl
theorem count_lights {xs : List RB} (b : Nat) : ∀ k, ((List.range k).flatMap (lightN xs)).count b = ind (decide (∃ p, p < k ∧ b ∈ lightN xs p))
  | 0 => by simp [ind]
  | k + 1 => by
    rw [List.range_succ, List.flatMap_append, List.count_append, count_lights b k]
    simp only [List.flatMap_cons, List.flatMap_nil, List.append_nil]
    rw [count_light]
    by_cases h1 : ∃ p, p < k ∧ b ∈ lightN xs p
    · obtain ⟨p, h2, h3⟩ := h1
      have h4 : ¬ b ∈ lightN xs k := fun h => by
        have := (mem_lightN.1 h).2.1
        have := (mem_lightN.1 h3).2.1
        omega
      rw [decide_eq_true ⟨p, h2, h3⟩, decide_eq_false h4, decide_eq_true ⟨p, by omega, h3⟩]; rfl
    · rw [decide_eq_false h1]
      by_cases h4 : b ∈ lightN xs k
      · rw [decide_eq_true h4, decide_eq_true ⟨k, by omega, h4⟩]; rfl
      · rw [decide_eq_false h4, decide_eq_false]; · rfl
        rintro ⟨p, h5, h6⟩
        by_cases hp : p = k
        · subst hp; exact h4 h6
        · exact h1 ⟨p, by omega, h6⟩
theorem sum_count {g : Nat → Nat} (b : Nat) : ∀ l : List Nat, (l.map fun s => ind (decide (s = b))).sum = l.count b
  | [] => rfl
  | x :: l => by
    rw [List.map_cons, List.sum_cons, sum_count (g := g) b l, count_cons_ind]
    congr 2
    rw [decide_eq_decide]; exact eq_comm
theorem sum_if {α : Type} (c : Prop) [Decidable c] (f : α → Nat) (l : List α) : (l.map fun s => if c then f s else 0).sum = if c then (l.map f).sum else 0 := by
  split
  · rfl
  · induction l with
    | nil => rfl
    | cons x l ih => simpa using ih
/-- each bag lies on one of the paths, once -/
theorem ways_once {xs : List RB} (V : Vals xs) {r : Nat} (hr : r < xs.length) (hu : up xs r < 0) (h1 : ∀ j, j < xs.length → up xs j < 0 → j = r) :
    ∀ b, b < xs.length → ((stTo xs r xs.length).map fun s => (wayR xs (s : Nat)).count (b : Int)).sum = 1 := by
  have hst : ∀ s ∈ stTo xs r xs.length, s < xs.length := by
    intro s hs
    rw [stTo, List.mem_cons, List.mem_flatMap] at hs
    rcases hs with rfl | ⟨p, _, hs⟩
    · exact hr
    · exact (mem_lightN.1 hs).1
  have hc : ∀ b, (stTo xs r xs.length).count b = ind (decide (b = r)) + ind (decide (∃ p, p < xs.length ∧ b ∈ lightN xs p)) := fun b => by
    rw [stTo, count_cons_ind, count_lights]
  refine tree_ind V (fun b hb hub => ?_) (fun b p hb hp hub ih => ?_)
  · have : ((stTo xs r xs.length).map fun s => (wayR xs (s : Nat)).count (b : Int)).sum = ((stTo xs r xs.length).map fun s => ind (decide (s = b))).sum := sum_congr fun s hs => way_root V (by omega) s (hst s hs)
    have hbr := h1 b hb (by omega)
    have hno : ¬∃ p, p < xs.length ∧ b ∈ lightN xs p := by
      rintro ⟨p, _, h⟩
      have := (mem_lightN.1 h).2.1
      omega
    rw [this, sum_count (g := fun _ => 0), hc, decide_eq_false hno, decide_eq_true hbr]; rfl
  · have : ((stTo xs r xs.length).map fun s => (wayR xs (s : Nat)).count (b : Int)).sum = ((stTo xs r xs.length).map fun s => ind (decide (s = b)) + (if heavyR xs (p : Nat) = (b : Int) then (wayR xs (s : Nat)).count (p : Int) else 0)).sum := sum_congr fun s hs => way_step V hub s (hst s hs)
    rw [this, sum_add, sum_count (g := fun _ => 0), hc, sum_if, ih]
    have hbr : ¬ b = r := fun h => by subst h; omega
    rw [decide_eq_false hbr]
    have e : decide (∃ p, p < xs.length ∧ b ∈ lightN xs p) = decide (heavyR xs (p : Nat) ≠ (b : Int)) := by
      rw [decide_eq_decide]
      constructor
      · rintro ⟨q, _, h⟩
        have h2 := mem_lightN.1 h
        have : q = p := by have := h2.2.1; omega
        subst this
        exact h2.2.2
      · intro h
        exact ⟨p, hp, mem_lightN.2 ⟨hb, hub, h⟩⟩
    rw [e]
    by_cases h : heavyR xs (p : Nat) = (b : Int) <;> simp [ind, h]

/-- the heavy child is a largest -/
theorem hvTo_max {xs : List RB} {b : Int} : ∀ k, k ≤ (kids xs b).length → (0 < k → 0 ≤ hvTo xs b k) ∧ ∀ j, j < k → sizeR xs (gi (kids xs b) j) ≤ sizeR xs (hvTo xs b k)
  | 0, _ => ⟨fun h => by omega, fun j h => by omega⟩
  | k + 1, h => by
    obtain ⟨h1, h2⟩ := hvTo_max (xs := xs) (b := b) k (by omega)
    obtain ⟨i, i1, i2, i3⟩ := kid_at (xs := xs) (b := b) (k := k) (by omega)
    rw [hvTo_succ (xs := xs) (b := b) (k := k) (by omega), heavyStep]
    split
    · rename_i hc
      refine ⟨fun _ => by omega, fun j hj => ?_⟩
      by_cases hjk : j = k
      · subst hjk; omega
      · have := h2 j (by omega)
        have := h1 (by omega)
        rcases hc with hc | hc <;> omega
    · rename_i hc
      rw [not_or] at hc
      refine ⟨fun _ => by omega, fun j hj => ?_⟩
      by_cases hjk : j = k
      · subst hjk; omega
      · exact h2 j (by omega)
theorem heavy_max {xs : List RB} {b : Int} {k : Int} (hk : k ∈ kids xs b) : 0 ≤ heavyR xs b ∧ sizeR xs k ≤ sizeR xs (heavyR xs b) := by
  obtain ⟨j, hj⟩ := List.mem_iff_getElem?.1 hk
  have hjl := (List.getElem?_eq_some_iff.1 hj).1
  have e : gi (kids xs b) j = k := by simp [gi, hj]
  have h0 := hvTo_max (xs := xs) (b := b) _ (Nat.le_refl _)
  rw [hvTo, List.take_length] at h0
  exact ⟨h0.1 (by omega), by have := h0.2 j hjl; rwa [e] at this⟩
/-- a light child's part is at most half -/
theorem light_half {xs : List RB} (V : Vals xs) {p b : Nat} (hp : p < xs.length) (h : b ∈ lightN xs p) : 2 * cnt xs b ≤ cnt xs p := by
  obtain ⟨h1, h2, h3⟩ := mem_lightN.1 h
  have hk : (b : Int) ∈ kids xs (p : Nat) := mem_kids.2 ⟨b, h1, h2, rfl⟩
  obtain ⟨m1, m2⟩ := heavy_max hk
  rcases heavyR_ok xs (p : Nat) with hh | ⟨i, i1, i2, i3⟩
  · omega
  rw [i3, sizeR_cnt V i i1, sizeR_cnt V b h1] at m2
  rw [cnt_eq V hp]
  have hib : i ≠ b := fun he => by subst he; exact h3 i3
  have : cnt xs i + cnt xs b ≤ ((kidN xs p).map fun k => cnt xs k).sum := by
    have m1 : i ∈ kidN xs p := mem_kidN.2 ⟨i1, i2⟩
    have m2 : b ∈ kidN xs p := mem_kidN.2 ⟨h1, h2⟩
    revert m1 m2
    generalize kidN xs p = l
    have one : ∀ (l : List Nat) (x : Nat), x ∈ l → cnt xs x ≤ (l.map fun k => cnt xs k).sum := by
      intro l x
      induction l with
      | nil => intro h; cases h
      | cons y l ih =>
        intro h
        rw [List.map_cons, List.sum_cons]
        rcases List.mem_cons.1 h with rfl | h
        · omega
        · have := ih h; omega
    induction l with
    | nil => intro h; cases h
    | cons y l ih =>
      intro m1 m2
      rw [List.map_cons, List.sum_cons]
      have m1' := m1
      rcases List.mem_cons.1 m1 with rfl | m1
      · rcases List.mem_cons.1 m2 with h | m2
        · exact absurd h.symm hib
        · have := one l b m2; omega
      · rcases List.mem_cons.1 m2 with rfl | m2
        · rcases List.mem_cons.1 m1' with h | m1''
          · exact absurd h hib
          · have := one l i m1''; omega
        · have := ih m1 m2; omega
  omega
theorem heavy_le {xs : List RB} (V : Vals xs) {p b : Nat} (hp : p < xs.length) (hb : b < xs.length) (h : up xs b = (p : Int)) : cnt xs b ≤ cnt xs p := by
  rw [cnt_eq V hp]
  have m : b ∈ kidN xs p := mem_kidN.2 ⟨hb, h⟩
  revert m
  generalize kidN xs p = l
  intro m
  have : cnt xs b ≤ (l.map fun k => cnt xs k).sum := by
    induction l with
    | nil => cases m
    | cons y l ih =>
      rw [List.map_cons, List.sum_cons]
      rcases List.mem_cons.1 m with rfl | m
      · omega
      · have := ih m; omega
  omega
/-- b is a light child -/
def isLt (xs : List RB) (b : Int) : Bool := (List.range xs.length).any fun p => (lightN xs p).any fun k => decide (b = (k : Int))
theorem isLt_iff {xs : List RB} {b : Nat} : isLt xs (b : Nat) = true ↔ ∃ p, p < xs.length ∧ b ∈ lightN xs p := by
  simp only [isLt, List.any_eq_true, List.mem_range, decide_eq_true_eq]
  constructor
  · rintro ⟨p, h1, k, h2, h3⟩
    obtain rfl : b = k := by omega
    exact ⟨p, h1, h2⟩
  · rintro ⟨p, h1, h2⟩
    exact ⟨p, h1, b, h2, rfl⟩
theorem isLt_false {xs : List RB} {b : Nat} (h : ¬∃ p, p < xs.length ∧ b ∈ lightN xs p) : isLt xs (b : Nat) = false := by
  cases hb : isLt xs (b : Nat)
  · rfl
  · exact absurd (isLt_iff.1 hb) h
/-- how many light ones among b and the bags above it -/
def lcnt (xs : List RB) (b : Nat) : Nat := (((b : Int) :: ab xs b).map fun k => ind (isLt xs k)).sum
theorem lcnt_le {xs : List RB} (V : Vals xs) : ∀ b, b < xs.length → 2 ^ lcnt xs b * cnt xs b ≤ xs.length := by
  refine tree_ind V (fun b hb hu => ?_) (fun b p hb hp hu ih => ?_)
  · have : lcnt xs b = 0 := by
      rw [lcnt, ab_root (by omega), List.map_cons, isLt_false]; · rfl
      rintro ⟨p, _, h⟩
      have := (mem_lightN.1 h).2.1
      omega
    rw [this]
    have := cnt_le xs b
    omega
  · have e : lcnt xs b = ind (isLt xs (b : Nat)) + lcnt xs p := by
      rw [lcnt, (ab_step V hb hu).1, List.map_cons, List.sum_cons]; rfl
    rw [e]
    by_cases h : b ∈ lightN xs p
    · have h2 : isLt xs (b : Nat) = true := isLt_iff.2 ⟨p, hp, h⟩
      rw [h2]
      have := light_half V hp h
      calc 2 ^ (1 + lcnt xs p) * cnt xs b = 2 ^ lcnt xs p * (2 * cnt xs b) := by rw [Nat.pow_add, Nat.pow_one, Nat.mul_comm 2, Nat.mul_assoc]
        _ ≤ 2 ^ lcnt xs p * cnt xs p := Nat.mul_le_mul_left _ this
        _ ≤ _ := ih
    · have h2 : isLt xs (b : Nat) = false := isLt_false (by
        rintro ⟨q, _, h'⟩
        have := (mem_lightN.1 h').2.1
        obtain rfl : q = p := by omega
        exact h h')
      rw [h2]
      have := heavy_le V hp hb hu
      calc 2 ^ (0 + lcnt xs p) * cnt xs b ≤ 2 ^ (0 + lcnt xs p) * cnt xs p := Nat.mul_le_mul_left _ this
        _ = 2 ^ lcnt xs p * cnt xs p := by rw [Nat.zero_add]
        _ ≤ _ := ih
/-- the number of binary digits -/
def digits : Nat → Nat
  | 0 => 0
  | n + 1 => digits ((n + 1) / 2) + 1
theorem digits_lt : ∀ n, n < 2 ^ digits n
  | 0 => by rw [digits]; decide
  | n + 1 => by
    rw [digits, Nat.pow_succ]
    have := digits_lt ((n + 1) / 2)
    omega
theorem lcnt_digits {xs : List RB} (V : Vals xs) {b : Nat} (hb : b < xs.length) : lcnt xs b ≤ digits xs.length := by
  have h1 := lcnt_le V b hb
  have h2 := cnt_pos V hb
  have h3 := digits_lt xs.length
  have h4 : 2 ^ lcnt xs b < 2 ^ digits xs.length := by
    have : 2 ^ lcnt xs b * 1 ≤ 2 ^ lcnt xs b * cnt xs b := Nat.mul_le_mul_left _ h2
    omega
  exact Nat.le_of_lt ((Nat.pow_lt_pow_iff_right (by decide)).1 h4)
end Go.Mono

set_option linter.unusedVariables false
namespace Go.Mono
open Go Go.Proofs Go.RowKit

/-- the index of the first number for which p holds, or -1 -/
def fstI (p : Int → Bool) (l : List Int) : Int := fstN (fun i => p (gi l i)) l.length

theorem indexFuncI_spec {G : Nat → Prop} (l : List Int) (v : Value) (id : FuncId) (caps : Array Value) (p : Int → Bool) (W : World) (hen : Proofs.Enters Tryz.prog id) (h : (Dv (slE intE) G l).p v W)
    (hp : ∀ w x, Ext W w → Calls Tryz.prog id (#[I x] ++ caps) w (Post (E (B (p x))) w)) (hl : l.length ≤ 4096) :
    Calls Tryz.prog 135 #[v, .func (.func id) #[] caps] W (Post (E (I (fstI p l))) W) := by
  refine enter (args := [v, .func (.func id) #[] caps]) (As := [Dv (slE intE) G l, E (.func (.func id) #[] caps)]) Tryz.func135 rfl Tryz.ntmps135 (Nat.le_of_ble_eq_true rfl) ?_ (fun a hf => ?_) (Nat.le_of_ble_eq_true rfl)
  rotate_left
  dsimp only [params, Nat.reduceAdd] at hf
  rotate_right
  · exact arg2 h rfl
  have e := Ext.rfl' W
  repeat refine seq ?_
  refine regn0 ?_
  refine tl_as hf rfl (by decide) fun a hf => ?_
  refine tl_nil ?_
  repeat refine seq ?_
  refine regn 3 hf (by decide +kernel) ?_
  refine st (mv rfl) ?_
  refine st (lenD Tryz.underlying59 (isR rfl)) ?_
  refine st (mv rfl) ?_
  refine en fun a w e' hf => ?_
  replace e := Ext.tr e e'
  clear e'
  refine tl_nil ?_
  replace hf := hf.keep [0, 1, 7, 8]
  dsimp only [keep, List.filterMap, look, Nat.beq, Option.map] at hf
  repeat refine seq ?_
  refine blk (loopN (fun r0 a w => ∃ (k : Nat) , r0 = l.length - k ∧ k ≤ l.length ∧ Fr 19 a w [(0, Dv (slE intE) G l), (1, E (.func (.func id) #[] caps)), (7, E (I (l.length : Nat))), (8, E (I k))] ∧ Ext W w ∧ ∀ i, i < k → p (gi l i) = false) l.length ⟨0, rfl, by omega, hf, e, (fun i hi => by omega)⟩ ?_)
  clear hf e; try clear Ho
  rintro r0 a w ⟨k, rfl, hk, hf, e, Ho⟩
  repeat refine seq ?_
  refine regn 1 hf (by decide +kernel) ?_
  refine st (lss rfl rfl) ?_
  refine en fun a w e' hf => ?_
  replace e := Ext.tr e e'
  clear e'
  refine tl_nil ?_
  repeat refine seq ?_
  refine ifc hf rfl (fun hc => wskip ?_) (fun hc => wexit ?_)
  rotate_left
  rotate_left
  · have hlt : k < l.length := by have := of_decide_eq_true hc; (try dsimp only at this); omega
    clear hc
    replace hf := hf.keep [0, 1, 7, 8]
    dsimp only [keep, List.filterMap, look, Nat.beq, Option.map] at hf
    repeat refine seq ?_
    refine blk ?_
    repeat refine seq ?_
    refine regn 1 hf (by decide +kernel) ?_
    refine st (mv rfl) ?_
    refine en fun a w e' hf => ?_
    replace e := Ext.tr e e'
    clear e'
    refine tl_as hf rfl (by decide) fun a hf => ?_
    refine tl_nil ?_
    repeat refine seq ?_
    refine regn 6 hf (by decide +kernel) ?_
    refine st (mv rfl) ?_
    refine st (mv rfl) ?_
    refine st (mv rfl) ?_
    refine st (idxD Tryz.underlying59 S3 (isR rfl) rfl (by omega) (gi_get hlt)) ?_
    refine st (ldI T3 (isR rfl)) ?_
    refine st (callV1 hen rfl rfl (fun v w he h => by cases h; exact hp w _ (Ext.tr e he))) ?_
    refine en fun a w e' hf => ?_
    replace e := Ext.tr e e'
    clear e'
    refine tl_nil ?_
    repeat refine seq ?_
    refine ifc hf rfl (fun hb => ?_) (fun hb => ?_)
    · repeat refine seq ?_
      refine regn 1 hf (by decide +kernel) ?_
      refine st (mv rfl) ?_
      refine en fun a w e' hf => ?_
      replace e := Ext.tr e e'
      clear e'
      refine tl_as hf rfl (by decide) fun a hf => ?_
      refine tl_nil ?_
      refine wret ?_
      try simp only [Exit.then, Exit.inBlock]
      refine ret1 rfl hf rfl ?_
      rintro _ rfl
      exact ⟨_, rfl, e, congrArg I (fstN_hit hlt Ho hb).symm⟩
    · refine wskip ?_
      try simp only [Exit.then, Exit.inBlock, ↓reduceIte]
      try simp only [Exit.then, Exit.inBlock, ↓reduceIte]
      repeat refine seq ?_
      refine regn 1 hf (by decide +kernel) ?_
      refine st ((add rfl rfl (by omega)).eq (congrArg (Value.int .i64) (show (k : Int) + 1 = ((k + 1 : Nat) : Int) from rfl))) ?_
      refine en fun a w e' hf => ?_
      replace e := Ext.tr e e'
      clear e'
      refine tl_op hf (by decide) (mv rfl) fun a w e' hf => ?_
      replace e := Ext.tr e e'
      clear e'
      refine tl_nil ?_
      replace hf := hf.keep [0, 1, 7, 8]
      dsimp only [keep, List.filterMap, look, Nat.beq, Option.map] at hf
      refine ⟨_, ?_, k + 1, rfl, by omega, hf, e, ?_⟩
      · omega
      intro i hi
      by_cases hk : i = k
      · subst hk; exact hb
      · exact Ho i (by omega)
  · obtain rfl : k = l.length := by have := of_decide_eq_false hc; (try dsimp only at this); omega
    clear hc
    simp only [Exit.then, Exit.inBlock, ↓reduceIte]
    repeat refine seq ?_
    refine regn0 ?_
    refine tl_as hf rfl (by decide) fun a hf => ?_
    refine tl_nil ?_
    refine wret ?_
    try simp only [Exit.then, Exit.inBlock]
    refine ret1 rfl hf rfl ?_
    rintro _ rfl
    exact ⟨_, rfl, e, congrArg I (fstN_none Ho).symm⟩
end Go.Mono

set_option linter.unusedVariables false
set_option linter.unusedSimpArgs false
namespace Go.Mono
open Go Go.RowKit

/-- the operation that changes blocks of S: it runs once, ahead of it the world has but grown -/
structure XOpZ (P : Program) (w0 : World) (S : Nat → Prop) (F : World → Prop) (L : Env) (o : Oper) (A : VA) : Prop where
  out : ∀ ρ w, Ext w0 w → (∀ x ∈ o.op.operands, ∀ B, opd L x = some B → B.p (ρ x) w) → OpR P o ρ w (fun v w' => Chg S w w' ∧ A.p v w' ∧ F w')
/-- the operations in the order of the text; fr: which are free; L: for the operations, L2: for what stands behind -/
def RegZ (P : Program) (ops : Array Oper) (w0 : World) (S : Nat → Prop) (F : World → Prop) : List Bool → List Oper → (Env → Prop) → Env → Env → Prop
  | [], [o], K, L, L2 => o.guard = none ∧ ∃ A, XOpZ P w0 S F L o A ∧ K (push o.dst A L2)
  | true :: fr, o :: rest, K, L, L2 => ∃ A, (∀ w1, Chg S w0 w1 → GOp P ops w1 L o A) ∧ AvS S A ∧ RegZ P ops w0 S F fr rest K (push o.dst A L) (push o.dst A L2)
  | false :: fr, o :: rest, K, L, L2 => ∃ A, GOp P ops w0 L o A ∧ RegZ P ops w0 S F fr rest K (push o.dst A L) (push o.dst Any L2)
  | _, _, _, _, _ => False

section
variable {P : Program} {ops : Array Oper} {Q : Exit → Act → World → Prop} {w0 : World} {n : Nat} {ds : List Deferred} {r : Option Nat}

def frF (fr : List Bool) (j : Nat) : Bool := fr.getD j false
theorem RegZ_As {S : Nat → Prop} {F : World → Prop} {K : Env → Prop} : ∀ (M : List Oper) (fr : List Bool) (k : Nat) (L L2 : Env), (∀ j, j < M.length → ops[k + j]? = M[j]?) → RegZ P ops w0 S F fr M K L L2 →
    ∃ As : Nat → VA, M.length = fr.length + 1 ∧ (∀ j o, j < fr.length → ops[k + j]? = some o → (frF fr j = false → GOp P ops w0 (envF ops L As k j) o (As j)) ∧ (frF fr j = true → (∀ w1, Chg S w0 w1 → GOp P ops w1 (envF ops L As k j) o (As j)) ∧ AvS S (As j))) ∧
      (∀ o, ops[k + fr.length]? = some o → o.guard = none ∧ XOpZ P w0 S F (envF ops L As k fr.length) o (As fr.length)) ∧ K (envF ops L2 (fun j => if frF fr j = true ∨ j = fr.length then As j else Any) k M.length)
  | [], [], _, _, _, _, h => h.elim
  | [], _ :: _, _, _, _, _, h => by
    rename_i f fr _ _ _ _
    cases f <;> exact h.elim
  | [o], [], k, L, L2, hM, ⟨hg, A, h1, h2⟩ => by
    have h0 : ops[k]? = some o := by simpa using hM 0 (by simp)
    have hd : dstOf ops k = o.dst := by simp [dstOf, h0]
    refine ⟨fun _ => A, rfl, fun j o hj => by simp at hj, fun o' ho' => ?_, ?_⟩
    · rw [List.length_nil, Nat.add_zero, h0] at ho'
      obtain rfl := Option.some.inj ho'
      exact ⟨hg, h1⟩
    · have : envF ops L2 (fun j => if frF [] j = true ∨ j = ([] : List Bool).length then A else Any) k 1 = push o.dst A L2 := by
        have := envFY_cons (ops := ops) L2 A (fun _ => Any) k 0
        rw [hd] at this
        show _ = envF ops (push o.dst A L2) (fun _ => Any) (k + 1) 0
        rw [← this]
        rfl
      rw [List.length_singleton, this]
      exact h2
  | o :: o2 :: M, [], _, _, _, _, h => h.elim
  | o :: M, f :: fr, k, L, L2, hM, h => by
    have h0 : ops[k]? = some o := by simpa using hM 0 (by simp)
    have hd : dstOf ops k = o.dst := by simp [dstOf, h0]
    obtain ⟨A, hA, hr⟩ : ∃ A, ((f = false → GOp P ops w0 L o A) ∧ (f = true → (∀ w1, Chg S w0 w1 → GOp P ops w1 L o A) ∧ AvS S A)) ∧ RegZ P ops w0 S F fr M K (push o.dst A L) (push o.dst (if f = true then A else Any) L2) := by
      cases f with
      | true =>
        obtain ⟨A, h1, h2, h3⟩ := h
        exact ⟨A, ⟨(fun h => by cases h), (fun _ => ⟨h1, h2⟩)⟩, h3⟩
      | false =>
        obtain ⟨A, h1, h3⟩ := h
        exact ⟨A, ⟨(fun _ => h1), (fun h => by cases h)⟩, h3⟩
    obtain ⟨As, h1, h2, h3, h4⟩ := RegZ_As M fr (k + 1) _ _ (fun j hj => by
      have := hM (j + 1) (by simpa using hj)
      rw [show k + 1 + j = k + (j + 1) by omega]
      simpa using this) hr
    refine ⟨consFY A As, by simp [h1], ?_, ?_, ?_⟩
    · intro j o' hj ho'
      cases j with
      | zero =>
        rw [Nat.add_zero, h0] at ho'
        obtain rfl := Option.some.inj ho'
        exact hA
      | succ j =>
        rw [envFY_cons, hd]
        exact h2 j o' (by simpa using hj) (by rw [show k + 1 + j = k + (j + 1) by omega]; exact ho')
    · intro o' ho'
      rw [List.length_cons, envFY_cons, hd]
      exact h3 o' (by rw [show k + 1 + fr.length = k + (fr.length + 1) by omega]; exact ho')
    · have e : (fun j => if frF (f :: fr) j = true ∨ j = fr.length + 1 then consFY A As j else Any) = consFY (if f = true then A else Any) (fun j => if frF fr j = true ∨ j = fr.length then As j else Any) := by
        funext j
        cases j with
        | zero =>
          show (if f = true ∨ 0 = fr.length + 1 then A else Any) = (if f = true then A else Any)
          have : ¬ 0 = fr.length + 1 := by omega
          simp [this]
        | succ j =>
          show (if frF fr j = true ∨ j + 1 = fr.length + 1 then As j else Any) = _
          simp [consFY]
      rw [List.length_cons, List.length_cons, e, envFY_cons, hd]
      exact h4

structure InvZ (ops : Array Oper) (m x : Nat) (fr : Nat → Bool) (S : Nat → Prop) (F : World → Prop) (n : Nat) (ds : List Deferred) (w0 : World) (L : Env) (As : Nat → VA) (listed : Array Bool) (a : Act) (w : World) : Prop where
  ext : Chg S w0 w
  pre : listed.getD x true = false → Ext w0 w
  post : listed.getD x false = true → F w
  size : a.tmps.size = n
  defers : a.defers = ds
  hL : ∀ t A, look L t = some A → (∀ j, j < m → dstOf ops j ≠ some t) → A.p (a.eval (.tmp t)) w
  hA : ∀ i, i < m → listed.getD i false = true → (listed.getD x true = false ∨ fr i = true ∨ i = x) → ∀ d, dstOf ops i = some d → (As i).p (a.eval (.tmp d)) w

theorem wpAny_mainZ {m x : Nat} {fr : Nat → Bool} {S : Nat → Prop} {F : World → Prop} (hx0 : x < m) (hFst : ∀ w w', Ext w w' → F w → F w') {L : Env} {As : Nat → VA} (hm : m ≤ ops.size) (hchk : ∀ i, i < m → chkOp ops m n i = true) (hchk2 : ∀ i, m ≤ i → i < ops.size → chkTail ops i = true)
    (hanc : ∀ j, j < m → j ≠ x → fr j = false → covers ops 12 x j = true)
    (hfree : ∀ i o, i < m → i ≠ x → fr i = true → ops[i]? = some o → ∀ t, (t ∈ tmpsOf o ∨ gdst ops o = some t) → ∀ j, j < m → dstOf ops j = some t → fr j = true ∧ j ≠ x)
    (hops : ∀ j o, j < m → j ≠ x → ops[j]? = some o → (fr j = false → GOp P ops w0 (envF ops L As 0 j) o (As j)) ∧ (fr j = true → (∀ w1, Chg S w0 w1 → GOp P ops w1 (envF ops L As 0 j) o (As j)) ∧ AvS S (As j)))
    (hX : ∀ o, ops[x]? = some o → o.guard = none ∧ XOpZ P w0 S F (envF ops L As 0 x) o (As x)) (hLav : AvSL S L)
    (hend : ∀ a w, Chg S w0 w → F w → FrD n ds a w (envF ops L (fun j => if fr j = true ∨ j = x then As j else Any) 0 m) → wpListIn (FW r) 0 P ops Q (ops.toList.drop m) a w) :
    ∀ (c : Nat) (listed : Array Bool) (a : Act) (w : World), (List.range m).countP (fun i => !listed.getD i true) = c → listed.size = ops.size →
      (∀ j, m ≤ j → j < ops.size → listed.getD j true = false) → LD ops listed → InvZ ops m x fr S F n ds w0 L As listed a w → wpAnyIn (FW r) 0 P .any ops Q (c + (ops.size - m)) listed a w
  | 0, listed, a, w, hc, hsz, hun, hld, hi => by
    have hall : ∀ j, j < m → listed.getD j false = true := by
      intro j hj
      have := (List.countP_eq_zero.1 hc) j (List.mem_range.2 hj)
      have hjl : j < listed.size := by omega
      simpa [hjl] using this
    rw [Nat.zero_add]
    refine wpAny_tail m hchk2 (ops.size - m) m (by omega) (Nat.le_refl _) listed a w hall hun hsz hld (hend a w hi.ext (hi.post (hall x hx0)) ⟨hi.size, hi.defers, fun t A ht => ?_⟩)
    rcases look_envF L _ t A m ht with ⟨j, hj, hd, rfl⟩ | ⟨hn, hl⟩
    · by_cases hk : fr j = true ∨ j = x
      · rw [if_pos hk]
        exact hi.hA j hj (hall j hj) (.inr hk) t hd
      · rw [if_neg hk]; trivial
    · exact hi.hL t A hl hn
  | c + 1, listed, a, w, hc, hsz, hun, hld, hi => by
    have facts : ∀ i o, i < m → ops[i]? = some o → (∀ e ∈ o.after, Region.binds .any e = true → e.on < i) ∧ (∀ d, o.dst = some d → d < n) ∧
        (∀ t, t ∈ tmpsOf o ∨ gdst ops o = some t → ∀ j, j < m → dstOf ops j = some t → bnd ops i j = true) ∧ (∀ j, j < m → j ≠ i → ∀ d, o.dst = some d → dstOf ops j ≠ some d) := by
      intro i o hlt ho
      have := hchk i hlt
      simp only [chkOp, ho, Bool.and_eq_true, Array.all_eq_true_iff_forall_mem, Bool.or_eq_true, Bool.not_eq_true', List.all_eq_true, List.mem_range, List.mem_append, Option.mem_toList] at this
      obtain ⟨⟨⟨h1, h2⟩, h3⟩, h4⟩ := this
      refine ⟨fun e he hb => ?_, fun d hd => ?_, fun t ht j hj hd => ?_, fun j hj hne d hd hd' => ?_⟩
      · rcases h1 e he with h | h
        · rw [hb] at h; cases h
        · simpa [Nat.blt_eq] using h
      · simpa [hd, Nat.blt_eq] using h2
      · have := h3 t ht j hj
        rcases this with h | h
        · rw [hd] at h; simp at h
        · exact h
      · have := h4 j hj
        rcases this with h | h
        · exact hne (Nat.eq_of_beq_eq_true h)
        · rw [hd, hd'] at h; simp at h
    have prog : ∃ i, i < m ∧ listed.getD i true = false ∧ ∀ j, j < i → listed.getD j true = true := by
      have hex : ∃ i, i < m ∧ listed.getD i true = false := by
        have hpos : 0 < (List.range m).countP (fun i => !listed.getD i true) := by omega
        obtain ⟨i, hi, hb⟩ := List.countP_pos_iff.1 hpos
        exact ⟨i, List.mem_range.1 hi, by simpa using hb⟩
      obtain ⟨i, hlt, hb⟩ := hex
      induction i using Nat.strongRecOn with
      | _ i ih =>
        by_cases h : ∃ j, j < i ∧ listed.getD j true = false
        · obtain ⟨j, hj, hjb⟩ := h
          exact ih j hj (by omega) hjb
        · refine ⟨i, hlt, hb, fun j hj => ?_⟩
          cases hjb : listed.getD j true with
          | true => rfl
          | false => exact absurd ⟨j, hj, hjb⟩ h
    obtain ⟨i0, hi0, hu0, hbelow⟩ := prog
    have hready : i0 ∈ Region.ready .any ops listed := by
      have ho : ops[i0]? = some (ops[i0]'(by omega)) := by simp
      refine mem_ready.2 ⟨hu0, _, ho, fun e he hb => ?_⟩
      have hlt := (facts i0 _ hi0 ho).1 e he hb
      have := hbelow _ hlt
      have hjl : e.on < listed.size := by omega
      simpa [hjl] using this
    rw [show c + 1 + (ops.size - m) = (c + (ops.size - m)) + 1 by omega]
    refine ⟨fun h0 => (by rw [h0] at hready; cases hready), fun i hir => ?_⟩
    obtain ⟨hu, o, ho, hall⟩ := mem_ready.1 hir
    have hilt : i < ops.size := (Array.getElem?_eq_some_iff.1 ho).1
    have listed_of_bnd : ∀ j, bnd ops i j = true → listed.getD j false = true := by
      intro j hb
      simp only [bnd, ho] at hb
      obtain ⟨e, he, hb⟩ := Array.any_eq_true'.1 hb
      simp only [Bool.and_eq_true] at hb
      have := hall e he hb.1
      rwa [Nat.eq_of_beq_eq_true hb.2] at this
    have him : i < m := by
      rcases Nat.lt_or_ge i m with h | h
      · exact h
      · have hc := hchk2 i h hilt
        simp only [chkTail, ho, Bool.and_eq_true, List.all_eq_true, List.mem_range] at hc
        have := cov hld 12 i i0 (hc.2 i0 (by omega)) (fun o' ho' e he hb => by
          rw [ho] at ho'
          obtain rfl := Option.some.inj ho'
          exact hall e he hb)
        rw [not_listed hu0] at this
        cases this
    obtain ⟨f1, f2, f3, f4⟩ := facts i o him ho
    have hxun : i ≠ x → fr i = false → listed.getD x true = false := by
      intro hix hfr
      cases hlx : listed.getD x true with
      | false => rfl
      | true =>
        have hxl : x < listed.size := by omega
        have hlx' : listed.getD x false = true := by simpa [hxl] using hlx
        have := cov hld 12 x i (hanc i him hix hfr) (fun o' ho' e he hb => hld x o' hlx' ho' e he hb)
        rw [not_listed hu] at this
        cases this
    have hcond : ∀ j, j < m → (∃ t, (t ∈ tmpsOf o ∨ gdst ops o = some t) ∧ dstOf ops j = some t) → (listed.getD x true = false ∨ fr j = true ∨ j = x) := by
      rintro j hj ⟨t, ht, hd⟩
      by_cases hix : i = x
      · exact .inl (hix ▸ hu)
      · cases hfr : fr i with
        | true => exact .inr (.inl (hfree i o him hix hfr ho t ht j hj hd).1)
        | false => exact .inl (hxun hix hfr)
    have byLook : ∀ t, (t ∈ tmpsOf o ∨ gdst ops o = some t) → ∀ B, look (envF ops L As 0 i) t = some B → B.p (a.eval (.tmp t)) w := by
      intro t ht B hB
      rcases look_envF L As t B i hB with ⟨j, hj, hd, rfl⟩ | ⟨hn, hl⟩
      · exact hi.hA j (by omega) (listed_of_bnd j (f3 t ht j (by omega) hd)) (hcond j (by omega) ⟨t, ht, hd⟩) t hd
      · refine hi.hL t B hl fun j hj hd => ?_
        have hb := f3 t ht j hj hd
        simp only [bnd, ho] at hb
        obtain ⟨e, he, hb⟩ := Array.any_eq_true'.1 hb
        simp only [Bool.and_eq_true] at hb
        have hlt := f1 e he hb.1
        rw [Nat.eq_of_beq_eq_true hb.2] at hlt
        exact hn j hlt hd
    have ops1 : ∀ x ∈ o.op.operands, ∀ B, opd (envF ops L As 0 i) x = some B → B.p (a.eval x) w := fun x hx B hB => by
      cases x with
      | tmp t => exact byLook t (.inl (List.mem_filterMap.2 ⟨.tmp t, by simpa using hx, rfl⟩)) B hB
      | const v => simp [opd] at hB; subst hB; rfl
      | global g => simp [opd] at hB; subst hB; rfl
      | func f => simp [opd] at hB; subst hB; rfl
    have hdst : dstOf ops i = o.dst := by simp [dstOf, ho]
    have step : ∀ v w', Chg S w w' → (i ≠ x → Ext w w') → (i = x → ∀ j, j < m → j ≠ x → fr j = true → AvS S (As j)) → (As i).p v w' → (i = x → F w') → wpAnyIn (FW r) 0 P .any ops Q (c + (ops.size - m)) (listed.setIfInBounds i true) (a.put o.dst v) w' := by
      intro v w' hx hxe hxa hv hvF
      have stab : ∀ (A : VA) u, AvS S A → A.p u w → A.p u w' := fun A u hA h => hA.av _ _ _ hx h
      refine wpAny_mainZ hx0 hFst hm hchk hchk2 hanc hfree hops hX hLav hend c _ _ _ ?_ (by simpa using hsz) ?_ ?_ ?_
      · have := countP_upd m (fun j => !listed.getD j true) (fun j => !(listed.setIfInBounds i true).getD j true) i him (by simp only [hu, Bool.not_false])
          (by have hjl : i < listed.size := by omega
              simp [hjl]) (fun j hj => by simp only [getD_set_ne true (Ne.symm hj)])
        omega
      · intro j hj hj'
        rw [getD_set_ne true (by omega)]
        exact hun j hj hj'
      · exact hld.set fun o' ho' e he hb => by
          rw [ho] at ho'
          obtain rfl := Option.some.inj ho'
          exact hall e he hb
      · refine ⟨Chg.tr hi.ext hx, fun hl => ?_, fun hl => ?_, by simp [hi.size], by simp [hi.defers], fun t A ht hn => ?_, fun j hj hl hcj d hd => ?_⟩
        · have hix : i ≠ x := by
            rintro rfl
            have hjl : i < listed.size := by omega
            simp [hjl] at hl
          rw [getD_set_ne true hix] at hl
          exact Ext.tr (hi.pre hl) (hxe hix)
        · by_cases hix : i = x
          · exact hvF hix
          · rw [getD_set_ne false hix] at hl
            exact hFst _ _ (hxe hix) (hi.post hl)
        · have h0 := stab A _ ⟨hLav.av t A ht⟩ (hi.hL t A ht hn)
          cases hod : o.dst with
          | none => exact h0
          | some d =>
            have : d ≠ t := fun e => hn i him (by rw [hdst, hod, e])
            rw [eval_put_ne this]
            exact h0
        · by_cases hji : j = i
          · subst hji
            rw [hdst] at hd
            rw [hd, eval_put_same (by rw [hi.size]; exact f2 d hd)]
            exact hv
          · have hl' : listed.getD j false = true := by rwa [getD_set_ne false (Ne.symm hji)] at hl
            have hcj' : listed.getD x true = false ∨ fr j = true ∨ j = x := by
              by_cases hix : i = x
              · exact .inl (hix ▸ hu)
              · rw [getD_set_ne true hix] at hcj
                exact hcj
            have h1 := hi.hA j hj hl' hcj' d hd
            have h0 : (As j).p (a.eval (.tmp d)) w' := by
              by_cases hix : i = x
              · refine stab _ _ (hxa hix j hj (fun h => hji (h.trans hix.symm)) ?_) h1
                rcases hcj with h | h | h
                · have hxl : x < listed.size := by omega
                  subst hix
                  simp [hxl] at h
                · exact h
                · exact absurd (h.trans hix.symm) hji
              · exact (As j).st _ _ _ (hxe hix) h1
            cases hod : o.dst with
            | none => exact h0
            | some d' =>
              have : d' ≠ d := fun e => f4 j hj hji d' hod (by rw [hd, e])
              rw [eval_put_ne this]
              exact h0
    unfold wpOpIn
    simp only [ho]
    by_cases hix : i = x
    · obtain ⟨hgd, hxo⟩ := hX o (hix ▸ ho)
      have hw : Region.wanted o (yielded ops a.tmps) = true := by unfold Region.wanted; rw [hgd]
      rw [if_pos hw]
      have hpre : Ext w0 w := hi.pre (hix ▸ hu)
      exact (hxo.out a.eval w hpre (hix ▸ ops1)).wp fun v w' hv => step v w' hv.1 (fun h => absurd hix h) (fun _ j hj hjx => by
        have hoj : ops[j]? = some (ops[j]'(by omega)) := by simp
        exact fun hfj => ((hops j _ hj hjx hoj).2 hfj).2) (hix ▸ hv.2.1) (fun _ => hv.2.2)
    · have hg : if Region.wanted o (yielded ops a.tmps) then OpR P o a.eval w (fun v w' => Ext w w' ∧ (As i).p v w') else (As i).p undef w := by
        cases hfr : fr i with
        | true => exact ((hops i o him hix ho).2 hfr).1 w hi.ext a w (Ext.rfl' w) ops1 (fun d B hd hB => byLook d (.inr hd) B hB)
        | false => exact (hops i o him hix ho).1 hfr a w (hi.pre (hxun hix hfr)) ops1 (fun d B hd hB => byLook d (.inr hd) B hB)
      split
      · rename_i hw
        rw [if_pos hw] at hg
        exact (hg.wp fun v w' hv => step v w' (Ext.chg hv.1 S) (fun _ => hv.1) (fun h => absurd h hix) hv.2 (fun h => absurd h hix))
      · rename_i hw
        rw [if_neg hw] at hg
        exact ⟨fun _ _ => trivial, step undef w (Chg.rfl' S w) (fun _ => Ext.rfl' _) (fun h => absurd h hix) hg (fun h => absurd h hix)⟩

def chkZ (ops : Array Oper) (m : Nat) (fr : List Bool) : Bool :=
  ((List.range (m - 1)).all fun j => frF fr j || covers ops 12 (m - 1) j) &&
  ((List.range (m - 1)).all fun i => !frF fr i || match ops[i]? with
    | none => false
    | some o => (tmpsOf o ++ (gdst ops o).toList).all fun t => (List.range m).all fun j => (match dstOf ops j with | some d => !Nat.beq d t | none => true) || (frF fr j && Nat.blt j (m - 1)))
/-- THE RULE: m operations first, the last of them changes blocks of S -/
theorem regZ {id : Nat} {ops : Array Oper} {L : Env} {a : Act} {w : World} (m : Nat) (fr : List Bool) (S : Nat → Prop) (F : World → Prop) (hFst : ∀ w w', Ext w w' → F w → F w') (hmix : P.follows .mixedOrders = true) (hf : FrD n ds a w L) [hL : AvSL S L] (hchk : chk ops m n = true) (hchkZ : chkZ ops m fr = true)
    (h : RegZ P ops w S F fr (ops.toList.take m) (fun L' => ∀ a' w', Chg S w w' → F w' → FrD n ds a' w' L' → wpListIn (FW r) 0 P ops Q (ops.toList.drop m) a' w') L L) : (Code.region id ops true).wpIn (FW r) 0 P Q a w := by
  simp only [chk, Bool.and_eq_true, List.all_eq_true, List.mem_range, Bool.or_eq_true, Nat.ble_eq] at hchk
  obtain ⟨⟨hm, h1⟩, h2⟩ := hchk
  refine wpIn_region_any hmix ?_
  have hlen : (ops.toList.take m).length = m := by simp; omega
  obtain ⟨As, hfl, hAs, hX, hK⟩ := RegZ_As (ops := ops) (ops.toList.take m) fr 0 L L (fun j hj => by
    rw [hlen] at hj
    rw [Nat.zero_add, List.getElem?_take, if_pos hj]; simp) h
  rw [hlen] at hK hfl
  have hxm : fr.length = m - 1 := by omega
  have hx : m - 1 < m := by omega
  rw [hxm] at hK hX hAs
  simp only [chkZ, Bool.and_eq_true, List.all_eq_true, List.mem_range, Bool.or_eq_true] at hchkZ
  obtain ⟨z1, z2⟩ := hchkZ
  have hext : Ext w { w with drawn := w.drawn + 1 } := Ext.drew w
  have := wpAny_mainZ (P := P) (ops := ops) (Q := Q) (w0 := w) (n := n) (ds := ds) (m := m) (x := m - 1) (fr := frF fr) (S := S) (r := r) (L := L) (As := As) hx hFst hm h1 (fun i hi hi' => by
      rcases h2 i hi' with h | h
      · simp only [Nat.blt_eq] at h; omega
      · exact h) (fun j hj hjx hfj => by
      rcases z1 j (by omega) with h | h
      · rw [hfj] at h; cases h
      · exact h) (fun i o hi hix hfi ho t ht j hj hd => by
      have := z2 i (by omega)
      rw [hfi, ho] at this
      simp only [Bool.not_true, Bool.false_eq_true, false_or, List.all_eq_true, List.mem_append, Option.mem_toList, List.mem_range, Bool.or_eq_true] at this
      rcases this t ht j hj with h | h
      · rw [hd] at h; simp at h
      · rw [Bool.and_eq_true, Nat.blt_eq] at h
        exact ⟨h.1, by omega⟩) (fun j o hj hjx ho => hAs j o (by omega) (by simpa using ho)) (fun o ho => hX o (by simpa using ho)) hL (fun a w hx hF hf => hK a w hx hF hf) m
    (Array.replicate ops.size false) a { w with drawn := w.drawn + 1 } ?_ (by simp) ?_ ?_ ⟨hext.chg S, fun _ => hext, fun hl => ?_, hf.size, hf.defers, fun t A ht _ => A.st _ _ _ hext (hf.val t A ht), fun i hi hl => ?_⟩
  · rwa [show m + (ops.size - m) = ops.size by omega] at this
  · have : (List.range m).countP (fun i => !(Array.replicate ops.size false).getD i true) = (List.range m).length := by
      refine List.countP_eq_length.2 fun i hi => ?_
      have := List.mem_range.1 hi
      have hlt : i < ops.size := by omega
      simp [hlt]
    simpa using this
  · intro j _ hj
    simp [hj]
  · intro i o hl
    have : (Array.replicate ops.size false).getD i false = false := by
      by_cases hlt : i < ops.size <;> simp [hlt]
    rw [this] at hl; cases hl
  · have : (Array.replicate ops.size false).getD (m - 1) false = false := by
      by_cases hlt : m - 1 < ops.size <;> simp [hlt]
    rw [this] at hl; cases hl
  · have : (Array.replicate ops.size false).getD i false = false := by
      by_cases hlt : i < ops.size <;> simp [hlt]
    rw [this] at hl; cases hl
end
section
variable {P : Program} {w0 : World} {L L2 : Env} {ty : TypeId} {pos : String} {aft : Array Edge}
variable {ops : Array Oper} {rest : List Oper} {K : Env → Prop} {A : VA} {op : Op} {dd : Nat} {S : Nat → Prop} {F : World → Prop} {fr : List Bool}
theorem zf (h : ∀ w1, Chg S w0 w1 → OpC P w1 L ⟨some dd, op, ty, pos, aft, none⟩ A) [hA : AvS S A] (k : RegZ P ops w0 S F fr rest K ((dd, A) :: L) ((dd, A) :: L2)) : RegZ P ops w0 S F (true :: fr) (⟨some dd, op, ty, pos, aft, none⟩ :: rest) K L L2 :=
  ⟨A, fun w1 h1 a w he hv _ => by simp only [Region.wanted, if_true]; exact (h w1 h1).out _ w he hv, hA, k⟩
theorem za (h : OpC P w0 L ⟨some dd, op, ty, pos, aft, none⟩ A) (k : RegZ P ops w0 S F fr rest K ((dd, A) :: L) ((dd, Any) :: L2)) : RegZ P ops w0 S F (false :: fr) (⟨some dd, op, ty, pos, aft, none⟩ :: rest) K L L2 :=
  ⟨A, fun a w he hv _ => by simp only [Region.wanted, if_true]; exact h.out _ w he hv, k⟩
theorem zx {d : Option Nat} (h : XOpZ P w0 S F L ⟨d, op, ty, pos, aft, none⟩ A) (k : K (push d A L2)) : RegZ P ops w0 S F [] [⟨d, op, ty, pos, aft, none⟩] K L L2 := ⟨rfl, A, h, k⟩
end
end Go.Mono
namespace Go.Mono
open Go Go.RowKit
section
variable {P : Program} {w0 : World} {L : Env} {dst : Option Tmp} {ty : TypeId} {pos : String} {aft : Array Edge} {S : Nat → Prop} {F : World → Prop}
theorem xcall2Z {f : FuncId} {x y : Operand} {tys : Array TypeId} {A B C : VA} (hf : Proofs.Enters P f) (hx : opd L x = some B) (hy : opd L y = some C)
    (h : ∀ v u w, Ext w0 w → B.p v w → C.p u w → Calls P f #[v, u] w (fun e w' => ∃ r, e = .returned r ∧ Chg S w w' ∧ A.p r w' ∧ F w')) :
    XOpZ P w0 S F L ⟨dst, .call ⟨.value (.func f), #[x, y], tys⟩, ty, pos, aft, none⟩ A := by
  refine ⟨fun ρ w he hv => ?_⟩
  have hfv : ρ (.func f) = .func (.func f) #[] #[] := hv (.func f) (by simp [Op.operands, Call.operands]) _ rfl
  have hrun : (execOp ρ ⟨dst, .call ⟨.value (.func f), #[x, y], tys⟩, ty, pos, aft, none⟩).run P w = .ok (.enter f (#[x, y].map ρ)) w := by
    simp [execOp, resolve, hfv, Deferred.ofValue, invoke, hf #[ρ x, ρ y] w]
  simp only [OpR, hrun]
  have := h (ρ x) (ρ y) w he (hv x (by simp [Op.operands, Call.operands]) _ hx) (hv y (by simp [Op.operands, Call.operands]) _ hy)
  simpa using this
/-- an own slice as an assertion -/
def OwA {α : Type} (e : Enc α) (ty : TypeId) (B : Nat) (G : Nat → Prop) (xs : List α) : VA := ⟨fun v w => OwR e ty B G w xs v, fun v w w' k h => h.ext k⟩
end
end Go.Mono

set_option linter.unusedVariables false
namespace Go.Mono
open Go Go.Proofs Go.RowKit

theorem cloneO_spec {G : Nat → Prop} (t : List Int) (v : Value) (W : World) (h : (Dv (slE intE) G t).p v W) (hl : t.length ≤ 4096) :
    Calls Tryz.prog 83 #[v] W (Post (OwA intE 3 W.heap.size Go.Mono.G0 t) W) := by
  have hG : ∀ b, Go.Mono.G0 b → b < W.heap.size := fun b hb => hb.elim
  have HV : (Dv (slE intE) (GB W Go.Mono.G0) t).p v W := Dv.toB (Dv.weak h fun b _ hb => hb.elim)
  have hv : ∃ ao n c, v = .slice ao n c ∧ (ao = none → t = [] ∧ v = .slice none 0 0) := by
    rcases Dv.sl.1 h with ⟨rfl, rfl⟩ | ⟨ad, cap, cs, rfl, _⟩
    · exact ⟨none, 0, 0, rfl, fun _ => ⟨rfl, rfl⟩⟩
    · exact ⟨_, _, _, rfl, fun h => by cases h⟩
  obtain ⟨ao, n, c, hv1, hv2⟩ := hv
  refine enter (args := [v]) (As := [E v]) Tryz.func83 rfl Tryz.ntmps83 (Nat.le_of_ble_eq_true rfl) ?_ (fun a hf => ?_) (Nat.le_of_ble_eq_true rfl)
  rotate_left
  dsimp only [params, Nat.reduceAdd] at hf
  rotate_right
  · exact arg1 rfl
  have e := Ext.rfl' W
  rw [hv1] at hf
  repeat refine seq ?_
  refine regn0 ?_
  refine tl_as hf rfl (by decide) fun a hf => ?_
  refine tl_nil ?_
  repeat refine seq ?_
  refine regn 2 hf (by decide +kernel) ?_
  refine st (mv rfl) ?_
  refine st (eqlNil Tryz.underlying59 rfl) ?_
  refine en fun a w e' hf => ?_
  replace HV := Dv.ex HV e'
  replace e := Ext.tr e e'
  clear e'
  refine tl_nil ?_
  repeat refine seq ?_
  refine ifc hf rfl (fun hb => ?_) (fun hb => ?_)
  · have hn : ao = none := by cases ao <;> simp at hb ⊢
    obtain ⟨h1, _⟩ := hv2 hn
    subst h1
    repeat refine seq ?_
    refine regn0 ?_
    refine tl_as hf rfl (by decide) fun a hf => ?_
    refine tl_nil ?_
    refine wret ?_
    try simp only [Exit.then, Exit.inBlock]
    refine ret1 rfl hf rfl ?_
    rintro _ rfl
    exact ⟨_, rfl, e, (OwR.nil intE _ e.size hG)⟩
  · refine wskip ?_
    try simp only [Exit.then, Exit.inBlock, ↓reduceIte]
    repeat refine seq ?_
    refine regn0 ?_
    refine tl_bsl0 W.heap.size Go.Mono.G0 intE Tryz.underlying59 S3 hf (by decide) e.size hG fun a v w e' hov Ho hf => ?_
    replace HV := Dv.ex HV e'
    replace e := Ext.tr e e'
    clear e'
    refine tl_op hf (by decide) (mv rfl) fun a w e' hf => ?_
    replace HV := Dv.ex HV e'
    replace e := Ext.tr e e'
    replace Ho := Ho.ext e'
    clear e'
    haveI hin : ∀ G0, InR (GB W G0) _ := OwR.inGB Ho (Nat.le_refl _)
    refine tl_app Tryz.underlying59 I3 rfl rfl hf (by decide) rfl Ho (isE rfl (by rw [← hv1]; exact Dv.weak HV fun b _ hb => hb.elim (fun h => h.elim) (fun h => .inr (Ho.row (Nat.le_refl _) b h)))) (by simp only [List.length_nil]; omega) (by simp only [List.length_nil, maxLen]; omega) fun a v w hg hat Hn hf => ?_
    replace e := e.gro hg (Ho.row (Nat.le_refl _))
    replace Ho := Hn; clear Hn hg hat hin
    refine tl_as hf rfl (by decide) fun a hf => ?_
    refine tl_nil ?_
    refine wret ?_
    try simp only [Exit.then, Exit.inBlock]
    refine ret1 rfl hf rfl ?_
    rintro _ rfl
    exact ⟨_, rfl, e, (by have := Ho; rw [List.nil_append] at this; exact this)⟩

theorem gi_mem {l : List Int} {x : Int} (h : x ∈ l) : ∃ i, i < l.length ∧ gi l i = x := by
  obtain ⟨i, hi⟩ := List.mem_iff_getElem?.1 h
  exact ⟨i, (List.getElem?_eq_some_iff.1 hi).1, by simp [gi, hi]⟩
/-- what the row holds while DeleteFunc runs: of the first j numbers those that stay, then the rest as it was -/
structure Del (q : Int → Bool) (l : List Int) (cap j i : Nat) (cur : Array Value) : Prop where
  size : cur.size = cap
  ni : ((l.take j).filter q).length = i
  low : cur.toList.take i = ((l.take j).filter q).map (Value.int .i64)
  high : ∀ k, j ≤ k → k < l.length → cur[k]? = some (I (gi l k))
  lt : i < j
theorem Del.keep {q : Int → Bool} {l : List Int} {cap j i : Nat} {cur : Array Value} (h : Del q l cap j i cur) (hj : j < l.length) (hc : l.length ≤ cap) (hq : q (gi l j) = true) : Del q l cap (j + 1) (i + 1) (cur.setIfInBounds i (I (gi l j))) := by
  have hlt := h.lt
  refine ⟨by simp [h.size], ?_, ?_, fun k h1 h2 => ?_, by omega⟩
  · rw [filter_take q hj, if_pos hq, List.length_append, h.ni]; rfl
  · have hil : i < cur.toList.length := by rw [Array.length_toList, h.size]; omega
    rw [filter_take q hj, if_pos hq, List.map_append, ← h.low, Array.toList_setIfInBounds, List.take_succ_eq_append_getElem (by simpa using hil), List.take_set_of_le (Nat.le_refl _)]
    simp
  · rw [Array.getElem?_setIfInBounds_ne (by omega)]
    exact h.high k (by omega) h2
theorem Del.drop {q : Int → Bool} {l : List Int} {cap j i : Nat} {cur : Array Value} (h : Del q l cap j i cur) (hj : j < l.length) (hq : q (gi l j) = false) : Del q l cap (j + 1) i cur :=
  ⟨h.size, by rw [filter_take q hj, if_neg (by rw [hq]; decide), h.ni], by rw [filter_take q hj, if_neg (by rw [hq]; decide), h.low], fun k h1 h2 => h.high k (by omega) h2, by have := h.lt; omega⟩
theorem intC_eq {G : Nat → Prop} {w : World} : ∀ {l : List Int} {cs : List Value}, Cells intE G w l cs → cs = l.map (Value.int .i64)
  | [], cs, h => h
  | x :: l, cs, ⟨c, d, h, h1, h2⟩ => by
    have : c = [I x] := h1
    subst this
    rw [h, intC_eq h2]; rfl

theorem deleteFuncI_spec (l : List Int) (Bz : Nat) (v : Value) (id : FuncId) (caps : Array Value) (p : Int → Bool) (W : World) (hen : Proofs.Enters Tryz.prog id) (ho : OwR intE 3 Bz Go.Mono.G0 W l v)
    (hp : ∀ w x, Chg (fun b => Bz ≤ b) W w → Calls Tryz.prog id (#[I x] ++ caps) w (Post (E (B (p x))) w)) (hl : l.length ≤ 4096) :
    Calls Tryz.prog 98 #[v, .func (.func id) #[] caps] W (fun e w' => ∃ u, e = .returned u ∧ Chg (fun b => Bz ≤ b) W w' ∧ (Dv (slE intE) (fun b => b < Bz) (l.filter fun x => !p x)).p u w' ∧ True) := by
  obtain ⟨q, hq⟩ : ∃ q : Int → Bool, q = fun x => !p x := ⟨_, rfl⟩
  refine enter (args := [v, .func (.func id) #[] caps]) (As := [E v, E (.func (.func id) #[] caps)]) Tryz.func98 rfl Tryz.ntmps98 (Nat.le_of_ble_eq_true rfl) ?_ (fun a hf => ?_) (Nat.le_of_ble_eq_true rfl)
  rotate_left
  dsimp only [params, Nat.reduceAdd] at hf
  rotate_right
  · exact arg2 rfl rfl
  have e := Ext.rfl' W
  repeat refine seq ?_
  refine regn0 ?_
  refine tl_as hf rfl (by decide) fun a hf => ?_
  refine tl_nil ?_
  repeat refine seq ?_
  refine regn 3 hf (by decide +kernel) ?_
  refine st (mv rfl) ?_
  refine st (mv rfl) ?_
  refine st (call2 En135 rfl rfl (fun v u w he h h' => by cases h; cases h'; exact indexFuncI_spec l _ id caps p w hen (ho.ext he).sl (fun w' x he' => hp w' x ((Ext.tr e (Ext.tr he he')).chg _)) hl)) ?_
  refine en fun a w e' hf => ?_
  replace ho := ho.ext e'
  replace e := Ext.tr e e'
  clear e'
  refine tl_as hf rfl (by decide) fun a hf => ?_
  refine tl_nil ?_
  rcases fstN_cases (fun i => p (gi l i)) l.length with ⟨hi, hall⟩ | ⟨i0, hi0, hi, hit, hall⟩
  · repeat refine seq ?_
    refine regn 2 hf (by decide +kernel) ?_
    refine st (mv rfl) ?_
    refine st ((eql rfl rfl).eq (congrArg Value.bool (show (fstI p l == -1) = true from by rw [fstI, hi]; rfl))) ?_
    refine en fun a w e' hf => ?_
    replace ho := ho.ext e'
    replace e := Ext.tr e e'
    clear e'
    refine tl_nil ?_
    repeat refine seq ?_
    refine ifc hf rfl (fun _ => ?_) (fun h => by cases h)
    have hfl : (l.filter fun x => !p x) = l := List.filter_eq_self.2 fun x hx => by
      obtain ⟨i, h1, h2⟩ := gi_mem hx
      have := hall i h1
      simp only [h2] at this
      rw [this]; rfl
    repeat refine seq ?_
    refine regn 1 hf (by decide +kernel) ?_
    refine st (mv rfl) ?_
    refine en fun a w e' hf => ?_
    replace ho := ho.ext e'
    replace e := Ext.tr e e'
    clear e'
    refine tl_as hf rfl (by decide) fun a hf => ?_
    refine tl_nil ?_
    refine wret ?_
    try simp only [Exit.then, Exit.inBlock]
    refine ret1 rfl hf rfl ?_
    rintro _ rfl
    exact ⟨_, rfl, e.chg _, by rw [hfl]; exact (OwR.reG ho fun b hb => hb).sl, trivial⟩
  · repeat refine seq ?_
    refine regn 2 hf (by decide +kernel) ?_
    refine st (mv rfl) ?_
    refine st ((eql rfl rfl).eq (congrArg Value.bool (show (fstI p l == -1) = false from by rw [fstI, hi]; simp))) ?_
    refine en fun a w e' hf => ?_
    replace ho := ho.ext e'
    replace e := Ext.tr e e'
    clear e'
    refine tl_nil ?_
    repeat refine seq ?_
    refine ifc hf rfl (fun h => by cases h) (fun _ => ?_)
    refine wskip ?_
    try simp only [Exit.then, Exit.inBlock, ↓reduceIte]
    obtain ⟨cs, ⟨_, hrow⟩, hcs⟩ := ho.own
    rcases hrow with ⟨_, hn⟩ | ⟨g, cap, cur, rfl, hB, hg0, hn, hm, hs, ht⟩
    · omega
    have hcs' := intC_eq hcs
    subst hcs'
    simp only [show (intE).k = 1 from rfl, Nat.mul_one] at hs ht
    have BG : Blk w g cur 3 := hg0
    have D : Del q l cap (i0 + 1) i0 cur := by
      have hcu : ∀ k, k < l.length → cur[k]? = some (I (gi l k)) := fun k hk => by
        have : (cur.toList.take l.length)[k]? = (l.map (Value.int .i64))[k]? := by rw [ht]
        rw [List.getElem?_take, if_pos hk, List.getElem?_map, gi_get hk] at this
        simpa using this
      have hft : ∀ k, k ≤ i0 → (l.take k).filter q = l.take k := fun k hk => List.filter_eq_self.2 fun x hx => by
        obtain ⟨i, hx'⟩ := List.mem_iff_getElem?.1 hx
        rw [List.getElem?_take] at hx'
        split at hx'
        · have := hall i (by omega)
          rw [hq]
          simp only [gi, hx'] at this
          simp [this]
        · cases hx'
      have hf1 : (l.take (i0 + 1)).filter q = l.take i0 := by
        rw [filter_take q hi0, if_neg (by rw [hq]; simp [hit]), hft i0 (Nat.le_refl _)]
      refine ⟨hs, by rw [hf1, List.length_take]; omega, ?_, fun k _ hk => hcu k hk, Nat.lt_succ_self _⟩
      rw [hf1, List.map_take, ← ht, List.take_take, Nat.min_eq_left (by omega)]
    have c : Chg (fun b => Bz ≤ b) W w := e.chg _
    clear ht hs hg0 hcs
    rw [show fstI p l = (i0 : Int) from hi] at hf
    replace hf := hf.keep [0, 1, 5]
    dsimp only [keep, List.filterMap, look, Nat.beq, Option.map] at hf
    repeat refine seq ?_
    refine regn 2 hf (by decide +kernel) ?_
    refine st (mv rfl) ?_
    refine st ((add rfl rfl (by omega)).eq (congrArg (Value.int .i64) (show (i0 : Int) + 1 = ((i0 + 1 : Nat) : Int) from rfl))) ?_
    refine en fun a w e' hf => ?_
    replace c := c.ext e'
    replace BG := BG.ext e'
    clear e'
    refine tl_as hf rfl (by decide) fun a hf => ?_
    refine tl_nil ?_
    replace hf := hf.keep [0, 1, 5, 6]
    dsimp only [keep, List.filterMap, look, Nat.beq, Option.map] at hf
    clear ho e
    repeat refine seq ?_
    refine blk (loopN (fun r0 a w => ∃ (j i : Nat) (cur : Array Value), r0 = l.length - j ∧ j ≤ l.length ∧ Fr 42 a w [(0, E (.slice (some ⟨g, 0, none⟩) l.length cap)), (1, E (.func (.func id) #[] caps)), (5, E (I (i : Nat))), (6, E (I (j : Nat)))] ∧ Chg (fun b => Bz ≤ b) W w ∧ Blk w g cur 3 ∧ Del q l cap j i cur) (l.length - (i0 + 1)) ⟨i0 + 1, i0, cur, rfl, by omega, hf, c, BG, D⟩ ?_)
    clear hf c BG D
    rintro r0 a w ⟨j, i, cur, rfl, hj, hf, c, BG, D⟩
    have hij := D.lt
    repeat refine seq ?_
    refine regn 4 hf (by decide +kernel) ?_
    refine st (mv rfl) ?_
    refine st (mv rfl) ?_
    refine st (lenE Tryz.underlying59 rfl) ?_
    refine st (lss rfl rfl) ?_
    refine en fun a w e' hf => ?_
    replace c := c.ext e'
    replace BG := BG.ext e'
    clear e'
    refine tl_nil ?_
    repeat refine seq ?_
    refine ifc hf rfl (fun hb => wskip ?_) (fun hb => wexit ?_)
    · have hlt : j < l.length := by have := of_decide_eq_true hb; omega
      repeat refine seq ?_
      refine blk ?_
      replace hf := hf.keep [0, 1, 5, 6]
      dsimp only [keep, List.filterMap, look, Nat.beq, Option.map] at hf
      repeat refine seq ?_
      refine regn 4 hf (by decide +kernel) ?_
      refine st (mv rfl) ?_
      refine st (mv rfl) ?_
      refine st (idxS Tryz.underlying59 S3 rfl rfl (by omega)) ?_
      refine st (ld1 T3 rfl BG (show cur[0 + (j : Int).toNat * 1]? = some (I (gi l j)) from by rw [Nat.zero_add, Nat.mul_one]; exact D.high j (Nat.le_refl _) hlt)) ?_
      refine en fun a w e' hf => ?_
      replace c := c.ext e'
      replace BG := BG.ext e'
      clear e'
      refine tl_as hf rfl (by decide) fun a hf => ?_
      refine tl_nil ?_
      repeat refine seq ?_
      refine regn 4 hf (by decide +kernel) ?_
      refine st (mv rfl) ?_
      refine st (mv rfl) ?_
      refine st (callV1 hen rfl rfl (fun v w he h => by cases h; exact hp w _ (c.ext he))) ?_
      refine st (notp rfl) ?_
      refine en fun a w e' hf => ?_
      replace c := c.ext e'
      replace BG := BG.ext e'
      clear e'
      refine tl_nil ?_
      repeat refine seq ?_
      refine ifc hf rfl (fun hb => ?_) (fun hb => ?_)
      · have hqj : q (gi l j) = true := by rw [hq]; exact hb
        replace hf := hf.keep [0, 1, 5, 6, 7]
        dsimp only [keep, List.filterMap, look, Nat.beq, Option.map] at hf
        repeat refine seq ?_
        refine regn 4 hf (by decide +kernel) ?_
        refine st (mv rfl) ?_
        refine st (mv rfl) ?_
        refine st (mv rfl) ?_
        refine st (idxS Tryz.underlying59 S3 rfl rfl (by omega)) ?_
        refine en fun a w e' hf => ?_
        replace c := c.ext e'
        replace BG := BG.ext e'
        clear e'
        refine tl_st1 T3 hf rfl rfl rfl BG (by rw [D.size]; omega) fun w hg hsz BG hf => ?_
        replace c := c.gr hg (.inl hB)
        clear hg
        refine tl_nil ?_
        rw [show 0 + ((i : Nat) : Int).toNat * 1 = i by omega] at BG
        have D' := D.keep hlt hn hqj
        repeat refine seq ?_
        refine regn 2 hf (by decide +kernel) ?_
        refine st (mv rfl) ?_
        refine st ((add rfl rfl (by omega)).eq (congrArg (Value.int .i64) (show (i : Int) + 1 = ((i + 1 : Nat) : Int) from rfl))) ?_
        refine en fun a w e' hf => ?_
        replace c := c.ext e'
        replace BG := BG.ext e'
        clear e'
        refine tl_as hf rfl (by decide) fun a hf => ?_
        refine tl_nil ?_
        try simp only [Exit.then, Exit.inBlock, ↓reduceIte]
        replace hf := hf.keep [0, 1, 5, 6]
        dsimp only [keep, List.filterMap, look, Nat.beq, Option.map] at hf
        repeat refine seq ?_
        refine regn 2 hf (by decide +kernel) ?_
        refine st (mv rfl) ?_
        refine st ((add rfl rfl (by omega)).eq (congrArg (Value.int .i64) (show (j : Int) + 1 = ((j + 1 : Nat) : Int) from rfl))) ?_
        refine en fun a w e' hf => ?_
        replace c := c.ext e'
        replace BG := BG.ext e'
        clear e'
        refine tl_as hf rfl (by decide) fun a hf => ?_
        refine tl_nil ?_
        replace hf := hf.keep [0, 1, 5, 6]
        dsimp only [keep, List.filterMap, look, Nat.beq, Option.map] at hf
        exact ⟨l.length - (j + 1), by omega, j + 1, i + 1, _, rfl, by omega, hf, c, BG, D'⟩
      · have hqj : q (gi l j) = false := by rw [hq]; exact hb
        have D' := D.drop hlt hqj
        refine wskip ?_
        try simp only [Exit.then, Exit.inBlock, ↓reduceIte]
        replace hf := hf.keep [0, 1, 5, 6]
        dsimp only [keep, List.filterMap, look, Nat.beq, Option.map] at hf
        repeat refine seq ?_
        refine regn 2 hf (by decide +kernel) ?_
        refine st (mv rfl) ?_
        refine st ((add rfl rfl (by omega)).eq (congrArg (Value.int .i64) (show (j : Int) + 1 = ((j + 1 : Nat) : Int) from rfl))) ?_
        refine en fun a w e' hf => ?_
        replace c := c.ext e'
        replace BG := BG.ext e'
        clear e'
        refine tl_as hf rfl (by decide) fun a hf => ?_
        refine tl_nil ?_
        replace hf := hf.keep [0, 1, 5, 6]
        dsimp only [keep, List.filterMap, look, Nat.beq, Option.map] at hf
        exact ⟨l.length - (j + 1), by omega, j + 1, i, cur, rfl, by omega, hf, c, BG, D'⟩
    · obtain rfl : j = l.length := by have := of_decide_eq_false hb; omega
      simp only [Exit.then, Exit.inBlock, ↓reduceIte]
      replace hf := hf.keep [0, 1, 5, 6]
      dsimp only [keep, List.filterMap, look, Nat.beq, Option.map] at hf
      have hsz := D.size
      repeat refine seq ?_
      refine regn 3 hf (by decide +kernel) ?_
      refine st (mv rfl) ?_
      refine st (mv rfl) ?_
      refine st (slcLo Tryz.underlying59 S3 rfl rfl (by omega) (by omega)) ?_
      refine en fun a w e' hf => ?_
      replace c := c.ext e'
      replace BG := BG.ext e'
      clear e'
      refine tl_clear Tryz.underlying59 I3 rfl rfl hf rfl BG (by omega) (by omega) (fun k hk => by first | cases hk | (cases hk; decide)) fun a w hg hsz BG hf => ?_
      replace c := c.gr hg (.inl hB)
      clear hg
      refine tl_nil ?_
      replace hf := hf.keep [0, 1, 5, 6]
      dsimp only [keep, List.filterMap, look, Nat.beq, Option.map] at hf
      repeat refine seq ?_
      refine regn 3 hf (by decide +kernel) ?_
      refine st (mv rfl) ?_
      refine st (mv rfl) ?_
      refine st (slcHi Tryz.underlying59 S3 rfl rfl (by omega)) ?_
      refine en fun a w e' hf => ?_
      replace c := c.ext e'
      replace BG := BG.ext e'
      clear e'
      refine tl_as hf rfl (by decide) fun a hf => ?_
      refine tl_nil ?_
      refine wret ?_
      try simp only [Exit.then, Exit.inBlock]
      refine ret1 rfl hf rfl ?_
      rintro _ rfl
      have hlow := D.low
      have hni := D.ni
      rw [List.take_length] at hlow hni
      rw [← hq]
      refine ⟨_, rfl, c, Dv.sl.2 (.inr ⟨⟨g, 0, none⟩, cap, (l.filter q).map (Value.int .i64), ?_, by omega, by show ¬ g < Bz; omega, BG.lt, ints_cells _, fun k u hu => ?_⟩), trivial⟩
      · rw [hni]
      · rw [Addr.add_lit, Nat.zero_add, BG.cell k, List.getElem?_toArray, Nat.zero_add]
        have hk : k < i := by have := (List.getElem?_eq_some_iff.1 hu).1; rw [List.length_map, hni] at this; exact this
        rw [← hlow] at hu
        rw [List.append_assoc, List.getElem?_append_left (by rw [List.length_take, Array.length_toList]; omega)]
        exact hu
end Go.Mono
