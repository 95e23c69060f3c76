/-
  XEqNilLaw.
  No condition.
-/
import Derived.Test.YtnhbkdliljcedaaGreatDoorEqNil
import Derived.Test.YtnhbkdliljcedaaGreatDoorWE
set_option linter.unusedVariables false
set_option linter.unusedSimpArgs false
set_option linter.unusedVariables false
set_option linter.unusedSimpArgs false
namespace Go.Mono
open Go Go.Proofs Go.RowKit

theorem frameNil_spec {G G' : Nat → Prop} (t u : List (Int × BS)) (id : Int) (x y : Value) (W : World) (hT : Tab W) (h : (Dv treeE G t).p x W) (h' : (Dv treeE G' u).p y W) :
    Calls Tryz.prog 6 #[x, y, I id] W (Post (E (B true)) W) := by
  refine enter (args := [x, y, I id]) (As := [Dv treeE Go.Mono.G0 t, Dv treeE Go.Mono.G0 u, E (I id)]) Tryz.func6 rfl Tryz.ntmps6 (Nat.le_of_ble_eq_true rfl) ?_ (fun a hf => ?_) (Nat.le_of_ble_eq_true rfl)
  rotate_left
  dsimp only [params, Nat.reduceAdd] at hf
  rotate_right
  · exact arg3 (Dv.weak h fun b _ hb => hb.elim) (Dv.weak h' fun b _ hb => hb.elim) rfl
  have e := Ext.rfl' W
  have hT0 := hT.lt
  have hlt0 := cutT_len t
  have hlu0 := cutT_len u
  have hg0 : ∀ {w : World}, ∀ b, Go.Mono.G0 b → b < w.heap.size := fun b hb => hb.elim
  repeat refine seq ?_
  refine regn0 ?_
  refine tl_as hf rfl (by decide) fun a hf => ?_
  refine tl_nil ?_
  replace hf := hf.keep [0, 1, 2]
  dsimp only [keep, List.filterMap, look, Nat.beq, Option.map] at hf
  repeat refine seq ?_
  refine regn 6 hf (by decide +kernel) ?_
  refine st (mv rfl) ?_
  refine st (call1 En7 rfl (fun v w he h => framed_spec t v w (hT.ext he) h)) ?_
  refine st (mv rfl) ?_
  refine st (ext_ rfl rfl) ?_
  refine st (ext_ rfl rfl) ?_
  refine st (ext_ rfl rfl) ?_
  refine en fun a w e' hf => ?_
  replace hT := hT.ext e'
  replace e := Ext.tr e e'
  clear e'
  refine tl_as hf rfl (by decide) fun a hf => ?_
  refine tl_as hf rfl (by decide) fun a hf => ?_
  refine tl_as hf rfl (by decide) fun a hf => ?_
  refine tl_nil ?_
  replace hf := hf.keep [1, 2, 7, 8, 9]
  dsimp only [keep, List.filterMap, look, Nat.beq, Option.map] at hf
  repeat refine seq ?_
  refine regn 6 hf (by decide +kernel) ?_
  refine st (mv rfl) ?_
  refine st (call1 En7 rfl (fun v w he h => framed_spec u v w (hT.ext he) h)) ?_
  refine st (mv rfl) ?_
  refine st (ext_ rfl rfl) ?_
  refine st (ext_ rfl rfl) ?_
  refine st (ext_ rfl rfl) ?_
  refine en fun a w e' hf => ?_
  replace hT := hT.ext e'
  replace e := Ext.tr e e'
  clear e'
  refine tl_as hf rfl (by decide) fun a hf => ?_
  refine tl_as hf rfl (by decide) fun a hf => ?_
  refine tl_as hf rfl (by decide) fun a hf => ?_
  refine tl_nil ?_
  replace hf := hf.keep [2, 7, 8, 9, 10, 11, 12]
  dsimp only [keep, List.filterMap, look, Nat.beq, Option.map] at hf
  obtain ⟨tt, htt⟩ : ∃ tt, cutT t = tt := ⟨_, rfl⟩
  obtain ⟨uu, huu⟩ : ∃ uu, cutT u = uu := ⟨_, rfl⟩
  rw [htt] at hf hlt0
  rw [huu] at hf hlu0
  by_cases hn : newR (toT tt) = 0
  rotate_left
  · rw [decide_eq_false hn] at hf
    repeat refine seq ?_
    refine regn 6 hf (by decide +kernel) ?_
    refine st (mv rfl) ?_
    refine st (notp rfl) ?_
    refine st (mv rfl) ?_
    first | refine sn rfl rfl rfl ?_ | refine su rfl rfl ?_ | refine sy rfl rfl (mv rfl) ?_
    first | refine sn rfl rfl rfl ?_ | refine su rfl rfl ?_ | refine sy rfl rfl (notp rfl) ?_
    first | refine st (pkT rfl rfl) ?_ | refine st (pkF rfl rfl) ?_ | refine st (pk rfl rfl rfl) ?_
    refine en fun a w e' hf => ?_
    replace hT := hT.ext e'
    replace e := Ext.tr e e'
    clear e'
    refine tl_nil ?_
    repeat refine seq ?_
    refine ifc hf rfl (fun _ => ?_) (fun h => by cases h)
    repeat refine seq ?_
    refine regn 1 hf (by decide +kernel) ?_
    refine st (call0 En8 (fun w he => known_spec w (hT.ext he))) ?_
    refine en fun a w e' hf => ?_
    replace hT := hT.ext e'
    replace e := Ext.tr e e'
    clear e'
    refine tl_as hf rfl (by decide) fun a hf => ?_
    refine tl_nil ?_
    refine wret ?_
    try simp only [Exit.then, Exit.inBlock]
    refine ret1 rfl hf rfl ?_
    rintro _ rfl
    exact ⟨_, rfl, e, rfl⟩
  rw [decide_eq_true hn] at hf
  by_cases hn2 : newR (toT uu) = 0
  rotate_left
  · rw [decide_eq_false hn2] at hf
    repeat refine seq ?_
    refine regn 6 hf (by decide +kernel) ?_
    refine st (mv rfl) ?_
    refine st (notp rfl) ?_
    refine st (mv rfl) ?_
    first | refine sn rfl rfl rfl ?_ | refine su rfl rfl ?_ | refine sy rfl rfl (mv rfl) ?_
    first | refine sn rfl rfl rfl ?_ | refine su rfl rfl ?_ | refine sy rfl rfl (notp rfl) ?_
    first | refine st (pkT rfl rfl) ?_ | refine st (pkF rfl rfl) ?_ | refine st (pk rfl rfl rfl) ?_
    refine en fun a w e' hf => ?_
    replace hT := hT.ext e'
    replace e := Ext.tr e e'
    clear e'
    refine tl_nil ?_
    repeat refine seq ?_
    refine ifc hf rfl (fun _ => ?_) (fun h => by cases h)
    repeat refine seq ?_
    refine regn 1 hf (by decide +kernel) ?_
    refine st (call0 En8 (fun w he => known_spec w (hT.ext he))) ?_
    refine en fun a w e' hf => ?_
    replace hT := hT.ext e'
    replace e := Ext.tr e e'
    clear e'
    refine tl_as hf rfl (by decide) fun a hf => ?_
    refine tl_nil ?_
    refine wret ?_
    try simp only [Exit.then, Exit.inBlock]
    refine ret1 rfl hf rfl ?_
    rintro _ rfl
    exact ⟨_, rfl, e, rfl⟩
  rw [decide_eq_true hn2] at hf
  have V := new_vals hn
  have h4 := new_hs hn
  have h42 := new_hs hn2
  replace hf := hf.upd 7 rfl (B := Dv (ptE frE) Go.Mono.G0 (some (frM tt))) (fun v h => h.elim (·.2) (fun h => absurd hn h.1))
  replace hf := hf.upd 10 rfl (B := Dv (ptE frE) Go.Mono.G0 (some (frM uu))) (fun v h => h.elim (·.2) (fun h => absurd hn2 h.1))
  replace hf := hf.keep [2, 7, 8, 9, 10, 11, 12]
  dsimp only [keep, List.filterMap, look, Nat.beq, Option.map] at hf
  repeat refine seq ?_
  refine regn 6 hf (by decide +kernel) ?_
  refine st (mv rfl) ?_
  refine st (notp rfl) ?_
  refine st (mv rfl) ?_
  first | refine sn rfl rfl rfl ?_ | refine su rfl rfl ?_ | refine sy rfl rfl (mv rfl) ?_
  first | refine sn rfl rfl rfl ?_ | refine su rfl rfl ?_ | refine sy rfl rfl (notp rfl) ?_
  first | refine st (pkT rfl rfl) ?_ | refine st (pkF rfl rfl) ?_ | refine st (pk rfl rfl rfl) ?_
  refine en fun a w e' hf => ?_
  replace hT := hT.ext e'
  replace e := Ext.tr e e'
  clear e'
  refine tl_nil ?_
  repeat refine seq ?_
  refine ifc hf rfl (fun h => by cases h) (fun _ => ?_)
  refine wskip ?_
  try simp only [Exit.then, Exit.inBlock, ↓reduceIte]
  replace hf := hf.keep [2, 7, 8, 10, 11]
  dsimp only [keep, List.filterMap, look, Nat.beq, Option.map] at hf
  have htl := toT_len tt
  have hul := toT_len uu
  have hfl : (frM tt).1.length ≤ 4096 := by show tt.length ≤ 4096; omega
  have hf1 : (frM tt).1 = tt := rfl
  have hsl : ∀ b ∈ toT tt, b.2.length ≤ 4096 := fun b hb => by
    obtain ⟨i, hi⟩ := List.mem_iff_getElem?.1 hb
    have hlt := (List.getElem?_eq_some_iff.1 hi).1
    rw [up_get hlt] at hi
    cases hi
    have := h4 i hlt
    show (hs (toT tt) i).length ≤ 4096
    omega
  have hsl2 : ∀ b ∈ toT uu, b.2.length ≤ 4096 := fun b hb => by
    obtain ⟨i, hi⟩ := List.mem_iff_getElem?.1 hb
    have hlt := (List.getElem?_eq_some_iff.1 hi).1
    rw [up_get hlt] at hi
    cases hi
    have := h42 i hlt
    show (hs (toT uu) i).length ≤ 4096
    omega
  have hsame : decide ((toT tt).length = (toT uu).length ∧ ∀ i, i < (toT tt).length → up (toT tt) i = up (toT uu) i ∧ cmpL (hs (toT tt) i) (hs (toT uu) i) = 0) = decide ((frM tt).1 = (frM uu).1) := decide_eq_decide.2 (same_iff tt uu)
  have hne : ∀ {F : Fm} {v : Value} {w : World}, (Dv (ptE frE) Go.Mono.G0 (some F)).p v w → Calls Tryz.prog 28 #[v, .pointer none] w (Post (E (B false)) w) := fun h => by
    obtain ⟨ad, rfl, _⟩ := Dv.pt.1 h
    exact nequal_spec (some ad) none (.inr rfl) _
  repeat refine seq ?_
  refine regn 19 hf (by decide +kernel) ?_
  refine st (mv rfl) ?_
  refine st (eqlP Tryz.underlying27 (isR rfl)) ?_
  refine st (mv rfl) ?_
  first | refine sn rfl rfl rfl ?_ | refine su rfl rfl ?_ | refine sy rfl rfl (mv rfl) ?_
  first | refine sn rfl rfl rfl ?_ | refine su rfl rfl ?_ | refine sy rfl rfl (eqlP Tryz.underlying27 (isR rfl)) ?_
  first | refine st (pkT rfl rfl) ?_ | refine st (pkF rfl rfl) ?_ | refine st (pk rfl rfl rfl) ?_
  refine st (mv rfl) ?_
  first | refine sn rfl rfl rfl ?_ | refine su rfl rfl ?_ | refine sy rfl rfl (mv rfl) ?_
  first | refine sn rfl rfl rfl ?_ | refine su rfl rfl ?_ | refine sy rfl rfl (mv rfl) ?_
  first | refine sn rfl rfl rfl ?_ | refine su rfl rfl ?_ | refine sy rfl rfl (call2 En28 rfl rfl (fun v u w he h h' => fEqual_spec (frM tt) (frM uu) v u w h h' hfl)) ?_
  first | refine sn rfl rfl rfl ?_ | refine su rfl rfl ?_ | refine sy rfl rfl (mv rfl) ?_
  first | refine sn rfl rfl rfl ?_ | refine su rfl rfl ?_ | refine sy rfl rfl (mv rfl) ?_
  first | refine sn rfl rfl rfl ?_ | refine su rfl rfl ?_ | refine sy rfl rfl ((call2 En19 rfl rfl (fun v u w he h h' => sameT_spec (toT tt) (toT uu) v u w h h' (by omega) (by omega) hsl hsl2)).eq (congrArg Value.bool hsame)) ?_
  first | refine sn rfl rfl rfl ?_ | refine su rfl rfl ?_ | refine sy rfl rfl ((neqB Tryz.underlying4 rfl rfl).eq (congrArg Value.bool (bne_self_eq_false _))) ?_
  first | refine st (pkT rfl rfl) ?_ | refine st (pkF rfl rfl) ?_ | refine st (pk rfl rfl rfl) ?_
  refine st (mv rfl) ?_
  first | refine sn rfl rfl rfl ?_ | refine su rfl rfl ?_ | refine sy rfl rfl (mv rfl) ?_
  first | refine sn rfl rfl rfl ?_ | refine su rfl rfl ?_ | refine sy rfl rfl (call2 (A := E (B false)) En28 rfl rfl (fun v u w he h h' => by cases h'; exact hne h)) ?_
  first | refine st (pkT rfl rfl) ?_ | refine st (pkF rfl rfl) ?_ | refine st (pk rfl rfl rfl) ?_
  refine en fun a w e' hf => ?_
  replace hT := hT.ext e'
  replace e := Ext.tr e e'
  clear e'
  refine tl_nil ?_
  repeat refine seq ?_
  refine ifc hf rfl (fun h => by cases h) (fun _ => ?_)
  refine wskip ?_
  try simp only [Exit.then, Exit.inBlock, ↓reduceIte]
  replace hf := hf.keep [2, 7, 8]
  dsimp only [keep, List.filterMap, look, Nat.beq, Option.map] at hf
  obtain ⟨N, hN⟩ : ∃ N, N = w.heap.size := ⟨_, rfl⟩
  have hNT : 0 < N := by have := hT.lt; omega
  have hNW : W.heap.size ≤ N := by have := e.size; omega
  have hNw : N ≤ w.heap.size := by omega
  replace hf := hf.upd 7 rfl (B := Dv (ptE frE) (fun b => N ≤ b) (some (frM tt))) (fun v h => Dv.weak h fun b hb hg => absurd hb (Nat.not_lt.2 (by omega)))
  replace hf := hf.upd 8 rfl (B := Dv rtE (fun b => N ≤ b) (toT tt)) (fun v h => Dv.weak h fun b hb hg => absurd hb (Nat.not_lt.2 (by omega)))
  clear hN
  replace hf := hf.keep [2, 7, 8]
  dsimp only [keep, List.filterMap, look, Nat.beq, Option.map] at hf
  obtain ⟨r, hrl, hrE⟩ := root_lt V
  have hrng : ∀ i, i < tt.length → -1 ≤ (bg tt i).1 ∧ (bg tt i).1 < tt.length := fun i hi => by
    have := V.range i (by omega)
    rw [toT_up hi, htl] at this
    exact this
  have hnd : (ofF (frM tt) (r : Int)).1 = kids (toT tt) (r : Nat) := by rw [fm_nd hrl]; rfl
  have hkl := kids_len (toT tt) (r : Nat)
  repeat refine seq ?_
  refine regn 2 hf (by decide +kernel) ?_
  refine st (mv rfl) ?_
  refine st (call1 (A := OwA bagE 69 N Go.Mono.G0 tt) En21 rfl (fun v w he h => fbagsO_spec N (frM tt) v w h hfl (Nat.le_trans hNw he.size))) ?_
  refine en fun a w e' hf => ?_
  replace hT := hT.ext e'
  replace hNw := Nat.le_trans hNw e'.size
  replace e := Ext.tr e e'
  clear e'
  refine tl_as hf rfl (by decide) fun a hf => ?_
  refine tl_nil ?_
  obtain ⟨u, ho, hf⟩ := hf.fix 13 rfl
  have ho : OwR bagE 69 N Go.Mono.G0 w tt u := ho
  replace hf := hf.keep [2, 7, 8, 13]
  dsimp only [keep, List.filterMap, look, Nat.beq, Option.map] at hf
  obtain ⟨cs, ⟨_, hrow⟩, hcs⟩ := ho.own
  rcases hrow with ⟨_, hn0⟩ | ⟨g, cap, cur, rfl, hB, hg0, hcap, hm, hs, ht⟩
  · omega
  simp only [show (bagE).k = 17 from rfl] at hs ht
  have hbc := bag_cellsD hcs
  have B13 : Blk w g cur 69 := hg0
  have R0 : BR tt.length (bg tt) cap cur := ⟨hs, hcap, fun i hi j hj => by
    rw [← hbc i hi j hj, ← ht, List.getElem?_take, if_pos (by omega), Array.getElem?_toList]⟩
  clear ht hs hcs ho hbc hg0
  have Hr0 := R0.cong (f' := fun i => if i < 0 then ((bg tt i).1 + 1, (bg tt i).2) else bg tt i) fun i hi => by simp
  clear R0
  obtain ⟨n, hnn⟩ : ∃ n, tt.length = n := ⟨_, rfl⟩
  rw [hnn] at hf Hr0
  haveI i1 : InR (fun b => N ≤ b) (some g) := ⟨fun c hc => by cases hc; exact hB⟩
  have hgT : 0 < g := by omega
  have hgW : W.heap.size ≤ g := by omega
  repeat refine seq ?_
  refine regn0 ?_
  refine tl_as hf rfl (by decide) fun a hf => ?_
  refine tl_nil ?_
  replace hf := hf.keep [2, 7, 8, 13, 14]
  dsimp only [keep, List.filterMap, look, Nat.beq, Option.map] at hf
  repeat refine seq ?_
  refine blk (loopN (fun r0 a w => ∃ (k : Nat) (cur : Array Value), r0 = n - k ∧ k ≤ n ∧ Fr 228 a w [(2, E (I id)), (7, Dv (ptE frE) (fun b => N ≤ b) (some (frM tt))), (8, Dv rtE (fun b => N ≤ b) (toT tt)), (13, E (.slice (some ⟨g, 0, none⟩) n cap)), (14, E (I k))] ∧ Ext W w ∧ Blk w g cur 69 ∧ Tab w ∧ BR n (fun i => if i < k then ((bg tt i).1 + 1, (bg tt i).2) else bg tt i) cap cur ∧ N ≤ w.heap.size) n ⟨0, cur, rfl, by omega, hf, e, B13, hT, Hr0, hNw⟩ ?_)
  clear hf e; try clear B13; try clear hT; try clear R0; try clear hNw
  rintro r0 a w ⟨k, cur, rfl, hk, hf, e, B13, hT, R0, hNw⟩
  repeat refine seq ?_
  refine regn 4 hf (by decide +kernel) ?_
  refine st (mv rfl) ?_
  refine st (mv rfl) ?_
  refine st (lenE Tryz.underlying23 rfl) ?_
  refine st (lss rfl rfl) ?_
  refine en fun a w e' hf => ?_
  replace hT := hT.ext e'
  replace hNw := Nat.le_trans hNw e'.size
  replace e := Ext.tr e e'
  replace B13 := B13.ext e'
  clear e'
  refine tl_nil ?_
  repeat refine seq ?_
  refine ifc hf rfl (fun hc => wskip ?_) (fun hc => wexit ?_)
  rotate_left
  rotate_left
  · have hlt : k < n := by have := of_decide_eq_true hc; (try dsimp only at this); omega
    clear hc
    replace hf := hf.keep [2, 7, 8, 13, 14]
    dsimp only [keep, List.filterMap, look, Nat.beq, Option.map] at hf
    repeat refine seq ?_
    refine blk ?_
    have hup := R0.up hlt
    rw [if_neg (Nat.lt_irrefl k)] at hup
    have hr := hrng k (by omega)
    repeat refine seq ?_
    refine regn 10 hf (by decide +kernel) ?_
    refine st (mv rfl) ?_
    refine st (mv rfl) ?_
    refine st (mv rfl) ?_
    refine st (mv rfl) ?_
    refine st (idxS Tryz.underlying23 S69 rfl rfl (by omega)) ?_
    refine st (fldA Tryz.underlying69 rfl T3 (by decide) rfl) ?_
    refine st (ld1 T3 rfl B13 hup) ?_
    refine st (add rfl rfl (by omega)) ?_
    refine st (idxS Tryz.underlying23 S69 rfl rfl (by omega)) ?_
    refine st (fldA Tryz.underlying69 rfl T3 (by decide) rfl) ?_
    refine en fun a w e' hf => ?_
    replace hT := hT.ext e'
    replace hNw := Nat.le_trans hNw e'.size
    replace e := Ext.tr e e'
    replace B13 := B13.ext e'
    clear e'
    refine tl_st1 T3 hf rfl rfl rfl B13 (by have := R0.size; have := R0.le; show 0 + ((k : Nat) : Int).toNat * 17 + 0 < _; omega) fun w hg hsz B13 hf => ?_
    replace hT := hT.gr hg hgT
    replace hNw := Nat.le_trans hNw (Nat.le_of_eq hsz.symm)
    replace e := e.gr hg (by omega)
    clear hg
    refine tl_nil ?_
    replace R0 := (R0.setUp hlt ((bg tt k).1 + 1)).cong (f' := fun i => if i < k + 1 then ((bg tt i).1 + 1, (bg tt i).2) else bg tt i) fun i hi => by
      by_cases h1 : i = k
      · subst h1
        rw [if_pos rfl, if_pos (Nat.lt_succ_self _), if_neg (Nat.lt_irrefl _)]
      · rw [if_neg h1]
        by_cases h2 : i < k
        · rw [if_pos h2, if_pos (by omega)]
        · rw [if_neg h2, if_neg (by omega)]
    obtain ⟨cur2, B13, R0⟩ : ∃ c, Blk w g c 69 ∧ BR n (fun i => if i < k + 1 then ((bg tt i).1 + 1, (bg tt i).2) else bg tt i) cap c := ⟨_, B13, R0⟩
    try simp only [Exit.then, Exit.inBlock, ↓reduceIte]
    repeat refine seq ?_
    refine regn 2 hf (by decide +kernel) ?_
    refine st (mv rfl) ?_
    refine st ((add rfl rfl (by omega)).eq (congrArg (Value.int .i64) (show (k : Int) + 1 = ((k + 1 : Nat) : Int) from rfl))) ?_
    refine en fun a w e' hf => ?_
    replace hT := hT.ext e'
    replace hNw := Nat.le_trans hNw e'.size
    replace e := Ext.tr e e'
    replace B13 := B13.ext e'
    clear e'
    refine tl_as hf rfl (by decide) fun a hf => ?_
    refine tl_nil ?_
    replace hf := hf.keep [2, 7, 8, 13, 14]
    dsimp only [keep, List.filterMap, look, Nat.beq, Option.map] at hf
    refine ⟨_, ?_, k + 1, cur2, rfl, by omega, hf, e, ?_⟩
    · omega
    exact ⟨B13, hT, R0, hNw⟩
  · obtain rfl : k = n := by have := of_decide_eq_false hc; (try dsimp only at this); omega
    clear hc
    simp only [Exit.then, Exit.inBlock, ↓reduceIte]
    clear R0 B13 i1
    replace hf := hf.keep [2, 7, 8]
    dsimp only [keep, List.filterMap, look, Nat.beq, Option.map] at hf
    repeat refine seq ?_
    refine regn 4 hf (by decide +kernel) ?_
    refine st (mv rfl) ?_
    refine st (mv rfl) ?_
    refine st ((call1 En30 rfl (fun v w he h => froot_spec (frM tt) v w h hfl)).eq (congrArg (Value.int .i64) hrE)) ?_
    refine st (call2 (A := OwA intE 3 N Go.Mono.G0 (kids (toT tt) (r : Nat))) En29 rfl rfl (fun v u w he h h' => by cases h'; rw [← hnd]; exact fchildrenO_spec N (frM tt) (r : Int) v w h (frM_len tt) (by rw [hnd]; omega) (Nat.le_trans hNw he.size))) ?_
    refine en fun a w e' hf => ?_
    replace hT := hT.ext e'
    replace hNw := Nat.le_trans hNw e'.size
    replace e := Ext.tr e e'
    clear e'
    refine tl_as hf rfl (by decide) fun a hf => ?_
    refine tl_nil ?_
    obtain ⟨u, ho, hf⟩ := hf.fix 15 rfl
    have ho : OwR intE 3 N Go.Mono.G0 w (kids (toT tt) (r : Nat)) u := ho
    replace hf := hf.keep [2, 7, 8, 15]
    dsimp only [keep, List.filterMap, look, Nat.beq, Option.map] at hf
    obtain ⟨c, hc⟩ : ∃ c, (kids (toT tt) (r : Nat)).length = c := ⟨_, rfl⟩
    obtain ⟨uo, uc, cap2, rfl, hub⟩ : ∃ (uo : Option Addr) (uc : Nat) (cap2 : Nat), u = .slice uo c cap2 ∧ (c = 0 ∨ ∃ g2 cur2, uo = some ⟨g2, 0, none⟩ ∧ N ≤ g2 ∧ Blk w g2 cur2 3 ∧ c ≤ cur2.size) := by
      obtain ⟨cs, ⟨_, hrow⟩, hcs⟩ := ho.own
      rcases hrow with ⟨rfl, hn0⟩ | ⟨g2, cap2, cur2, rfl, hB2, hg2, hcap2, hm2, hs2, ht2⟩
      · exact ⟨none, 0, 0, by rw [hc] at hn0; rw [hn0], .inl (by omega)⟩
      · refine ⟨some ⟨g2, 0, none⟩, 0, cap2, by rw [hc], .inr ⟨g2, cur2, rfl, hB2, hg2, ?_⟩⟩
        simp only [show (intE).k = 1 from rfl] at hs2
        omega
    clear ho
    repeat refine seq ?_
    refine regn0 ?_
    refine tl_as hf rfl (by decide) fun a hf => ?_
    refine tl_nil ?_
    replace hf := hf.keep [2, 7, 8, 15, 16]
    dsimp only [keep, List.filterMap, look, Nat.beq, Option.map] at hf
    repeat refine seq ?_
    refine cut (J := fun a w => Fr 228 a w [(2, E (I id)), (7, Dv (ptE frE) (fun b => N ≤ b) (some (frM tt))), (8, Dv rtE (fun b => N ≤ b) (toT tt))] ∧ Ext W w ∧ Tab w) ?_ (fun a w hJ => ?_)
    · refine blk (loopN (fun r0 a w => ∃ (k : Nat), r0 = c - k ∧ k ≤ c ∧ Fr 228 a w [(2, E (I id)), (7, Dv (ptE frE) (fun b => N ≤ b) (some (frM tt))), (8, Dv rtE (fun b => N ≤ b) (toT tt)), (15, E (.slice uo c cap2)), (16, E (I k))] ∧ Ext W w ∧ Tab w ∧ (c = 0 ∨ ∃ g2 cur2, uo = some ⟨g2, 0, none⟩ ∧ N ≤ g2 ∧ Blk w g2 cur2 3 ∧ c ≤ cur2.size)) c ⟨0, rfl, by omega, hf, e, hT, hub⟩ ?_)
      clear hf e hT hub hNw
      rintro r0 a w ⟨k, rfl, hk, hf, e, hT, hub⟩
      have hux : ∀ {w w' : World}, Ext w w' → (c = 0 ∨ ∃ g2 cur2, uo = some ⟨g2, 0, none⟩ ∧ N ≤ g2 ∧ Blk w g2 cur2 3 ∧ c ≤ cur2.size) → (c = 0 ∨ ∃ g2 cur2, uo = some ⟨g2, 0, none⟩ ∧ N ≤ g2 ∧ Blk w' g2 cur2 3 ∧ c ≤ cur2.size) := fun e h => h.imp (fun h => h) fun ⟨g2, cur2, h1, h2, h3, h4⟩ => ⟨g2, cur2, h1, h2, h3.ext e, h4⟩
      repeat refine seq ?_
      refine regn 4 hf (by decide +kernel) ?_
      refine st (mv rfl) ?_
      refine st (mv rfl) ?_
      refine st (lenE Tryz.underlying59 rfl) ?_
      refine st (lss rfl rfl) ?_
      refine en fun a w e' hf => ?_
      replace hT := hT.ext e'
      replace hub := hux e' hub
      replace e := Ext.tr e e'
      clear e'
      refine tl_nil ?_
      repeat refine seq ?_
      refine ifc hf rfl (fun hc => wskip ?_) (fun hc => wexit ?_)
      · have hlk : k < c := by have := of_decide_eq_true hc; omega
        clear hc
        simp only [Exit.then, Exit.inBlock, ↓reduceIte]
        obtain ⟨g2, cur2, rfl, hg2N, B15, hcs2⟩ := hub.resolve_left (by omega)
        clear hub
        haveI i2 : InR (fun b => N ≤ b) (some g2) := ⟨fun c hc => by cases hc; exact hg2N⟩
        have hg2T : 0 < g2 := by omega
        have hg2W : W.heap.size ≤ g2 := by omega
        repeat refine seq ?_
        refine blk ?_
        replace hf := hf.keep [2, 7, 8, 15, 16]
        dsimp only [keep, List.filterMap, look, Nat.beq, Option.map] at hf
        repeat refine seq ?_
        refine regn 3 hf (by decide +kernel) ?_
        refine st (mv rfl) ?_
        refine st (mv rfl) ?_
        refine st (idxS Tryz.underlying59 S3 rfl rfl (by omega)) ?_
        refine en fun a w e' hf => ?_
        replace hT := hT.ext e'
        replace e := Ext.tr e e'
        replace B15 := B15.ext e'
        clear e'
        refine tl_st1 T3 hf rfl rfl rfl B15 (by show 0 + ((k : Nat) : Int).toNat * 1 < _; omega) fun w hg hsz B15 hf => ?_
        replace hT := hT.gr hg hg2T
        replace e := e.gr hg (by omega)
        clear hg
        refine tl_nil ?_
        try simp only [Exit.then, Exit.inBlock, ↓reduceIte]
        replace hf := hf.keep [2, 7, 8, 15, 16]
        dsimp only [keep, List.filterMap, look, Nat.beq, Option.map] at hf
        repeat refine seq ?_
        refine regn 2 hf (by decide +kernel) ?_
        refine st (mv rfl) ?_
        refine st ((add rfl rfl (by omega)).eq (congrArg (Value.int .i64) (show (k : Int) + 1 = ((k + 1 : Nat) : Int) from rfl))) ?_
        refine en fun a w e' hf => ?_
        replace hT := hT.ext e'
        replace e := Ext.tr e e'
        replace B15 := B15.ext e'
        clear e'
        refine tl_as hf rfl (by decide) fun a hf => ?_
        refine tl_nil ?_
        replace hf := hf.keep [2, 7, 8, 15, 16]
        dsimp only [keep, List.filterMap, look, Nat.beq, Option.map] at hf
        exact ⟨c - (k + 1), by omega, k + 1, rfl, by omega, hf, e, hT, .inr ⟨g2, _, rfl, hg2N, B15, by simpa using hcs2⟩⟩
      · simp only [Exit.then, Exit.inBlock, ↓reduceIte]
        replace hf := hf.keep [2, 7, 8]
        dsimp only [keep, List.filterMap, look, Nat.beq, Option.map] at hf
        exact ⟨trivial, hf, e, hT⟩
    clear hf e hT hub hNw
    obtain ⟨hf, e, hT⟩ := hJ
    try simp only [Exit.then]
    replace hf := hf.upd 7 rfl (B := Dv (ptE frE) Go.Mono.G0 (some (frM tt))) (fun v h => Dv.weak h fun b _ hb => hb.elim)
    replace hf := hf.upd 8 rfl (B := Dv rtE Go.Mono.G0 (toT tt)) (fun v h => Dv.weak h fun b _ hb => hb.elim)
    replace hf := hf.keep [2, 7, 8]
    dsimp only [keep, List.filterMap, look, Nat.beq, Option.map] at hf
    repeat refine seq ?_
    refine regn0 ?_
    refine tl_as hf rfl (by decide) fun a hf => ?_
    refine tl_nil ?_
    replace hf := hf.keep [2, 7, 8, 17]
    dsimp only [keep, List.filterMap, look, Nat.beq, Option.map] at hf
    repeat refine seq ?_
    refine regn 6 hf (by decide +kernel) ?_
    refine st (mv rfl) ?_
    refine st (mv rfl) ?_
    refine st (call2 En31 rfl rfl (fun v u w he h h' => by cases h; cases h'; exact nvhome_spec id w)) ?_
    refine st (mv rfl) ?_
    refine st (ext_ rfl rfl) ?_
    refine st (ext_ rfl rfl) ?_
    refine en fun a w e' hf => ?_
    replace hT := hT.ext e'
    replace e := Ext.tr e e'
    clear e'
    refine tl_as hf rfl (by decide) fun a hf => ?_
    refine tl_as hf rfl (by decide) fun a hf => ?_
    refine tl_nil ?_
    replace hf := hf.keep [2, 7, 8, 17, 18, 19]
    dsimp only [keep, List.filterMap, look, Nat.beq, Option.map] at hf
    repeat refine seq ?_
    refine regn 7 hf (by decide +kernel) ?_
    refine st (mv rfl) ?_
    refine st (mv rfl) ?_
    refine st (mv rfl) ?_
    refine st (call3 En32 rfl rfl rfl (fun v u s w he h h' h'' => by cases h; cases h'; cases h''; exact nehome_spec id id w)) ?_
    refine st (mv rfl) ?_
    refine st (ext_ rfl rfl) ?_
    refine st (ext_ rfl rfl) ?_
    refine en fun a w e' hf => ?_
    replace hT := hT.ext e'
    replace e := Ext.tr e e'
    clear e'
    refine tl_as hf rfl (by decide) fun a hf => ?_
    refine tl_as hf rfl (by decide) fun a hf => ?_
    refine tl_nil ?_
    replace hf := hf.keep [2, 7, 8, 17, 18, 19, 20, 21]
    dsimp only [keep, List.filterMap, look, Nat.beq, Option.map] at hf
    repeat refine seq ?_
    refine regn 7 hf (by decide +kernel) ?_
    refine st (mv rfl) ?_
    refine st (mv rfl) ?_
    refine st ((bld0 Bz67).eq (z16_eq)) ?_
    refine st (call3 En33 rfl rfl rfl (fun v u s w he h h' h'' => by cases h; cases h'; cases h''; exact nadd_spec id 0 w)) ?_
    refine st (mv rfl) ?_
    refine st (ext_ rfl rfl) ?_
    refine st (ext_ rfl rfl) ?_
    refine en fun a w e' hf => ?_
    replace hT := hT.ext e'
    replace e := Ext.tr e e'
    clear e'
    refine tl_as hf rfl (by decide) fun a hf => ?_
    refine tl_as hf rfl (by decide) fun a hf => ?_
    refine tl_nil ?_
    replace hf := hf.keep [2, 7, 8, 17, 18, 19, 20, 21, 22, 23]
    dsimp only [keep, List.filterMap, look, Nat.beq, Option.map] at hf
    repeat refine seq ?_
    refine regn 6 hf (by decide +kernel) ?_
    refine st (mv rfl) ?_
    refine st (mv rfl) ?_
    refine st (call2 En17 rfl rfl (fun v u w he h h' => by cases h; cases h'; exact nremove_spec id w)) ?_
    refine st (mv rfl) ?_
    refine st (ext_ rfl rfl) ?_
    refine st (ext_ rfl rfl) ?_
    refine en fun a w e' hf => ?_
    replace hT := hT.ext e'
    replace e := Ext.tr e e'
    clear e'
    refine tl_as hf rfl (by decide) fun a hf => ?_
    refine tl_as hf rfl (by decide) fun a hf => ?_
    refine tl_nil ?_
    replace hf := hf.keep [2, 7, 8, 17, 18, 19, 20, 21, 22, 23, 24, 25]
    dsimp only [keep, List.filterMap, look, Nat.beq, Option.map] at hf
    have h11 : ((1 : Int) != 1) = false := rfl
    repeat refine seq ?_
    refine regn 33 hf (by decide +kernel) ?_
    refine st (mv rfl) ?_
    refine st ((neq rfl rfl).eq (congrArg Value.bool (h11))) ?_
    refine st (mv rfl) ?_
    first | refine sn rfl rfl rfl ?_ | refine su rfl rfl ?_ | refine sy rfl rfl (mv rfl) ?_
    first | refine sn rfl rfl rfl ?_ | refine su rfl rfl ?_ | refine sy rfl rfl ((neq rfl rfl).eq (congrArg Value.bool (h11))) ?_
    first | refine st (pkT rfl rfl) ?_ | refine st (pkF rfl rfl) ?_ | refine st (pk rfl rfl rfl) ?_
    refine st (mv rfl) ?_
    first | refine sn rfl rfl rfl ?_ | refine su rfl rfl ?_ | refine sy rfl rfl (mv rfl) ?_
    first | refine sn rfl rfl rfl ?_ | refine su rfl rfl ?_ | refine sy rfl rfl (neqP0 Tryz.underlying27 (isR rfl)) ?_
    first | refine st (pkT rfl rfl) ?_ | refine st (pkF rfl rfl) ?_ | refine st (pk rfl rfl rfl) ?_
    refine st (mv rfl) ?_
    first | refine sn rfl rfl rfl ?_ | refine su rfl rfl ?_ | refine sy rfl rfl (mv rfl) ?_
    first | refine sn rfl rfl rfl ?_ | refine su rfl rfl ?_ | refine sy rfl rfl (neqP0 Tryz.underlying27 (isR rfl)) ?_
    first | refine st (pkT rfl rfl) ?_ | refine st (pkF rfl rfl) ?_ | refine st (pk rfl rfl rfl) ?_
    refine st (mv rfl) ?_
    first | refine sn rfl rfl rfl ?_ | refine su rfl rfl ?_ | refine sy rfl rfl (mv rfl) ?_
    first | refine st (pkT rfl rfl) ?_ | refine st (pkF rfl rfl) ?_ | refine st (pk rfl rfl rfl) ?_
    refine st (mv rfl) ?_
    first | refine sn rfl rfl rfl ?_ | refine su rfl rfl ?_ | refine sy rfl rfl (mv rfl) ?_
    first | refine st (pkT rfl rfl) ?_ | refine st (pkF rfl rfl) ?_ | refine st (pk rfl rfl rfl) ?_
    refine st (mv rfl) ?_
    first | refine sn rfl rfl rfl ?_ | refine su rfl rfl ?_ | refine sy rfl rfl (mv rfl) ?_
    first | refine sn rfl rfl rfl ?_ | refine su rfl rfl ?_ | refine sy rfl rfl (call0 En34 (fun w he => gnew_spec w)) ?_
    first | refine sn rfl rfl rfl ?_ | refine su rfl rfl ?_ | refine sy rfl rfl (call2 En11 rfl rfl (fun v u w he h h' => by cases h; exact nfits_spec u w)) ?_
    first | refine sn rfl rfl rfl ?_ | refine su rfl rfl ?_ | refine sy rfl rfl ((neq rfl rfl).eq (congrArg Value.bool (h11))) ?_
    first | refine st (pkT rfl rfl) ?_ | refine st (pkF rfl rfl) ?_ | refine st (pk rfl rfl rfl) ?_
    refine st (mv rfl) ?_
    first | refine sn rfl rfl rfl ?_ | refine su rfl rfl ?_ | refine sy rfl rfl (mv rfl) ?_
    first | refine sn rfl rfl rfl ?_ | refine su rfl rfl ?_ | refine sy rfl rfl (call0 En34 (fun w he => gnew_spec w)) ?_
    first | refine sn rfl rfl rfl ?_ | refine su rfl rfl ?_ | refine sy rfl rfl (bld0 Bz26) ?_
    first | refine sn rfl rfl rfl ?_ | refine su rfl rfl ?_ | refine sy rfl rfl (call3 En13 rfl rfl rfl (fun v u s w he h h' h'' => by cases h; cases h''; exact nallow_spec u _ w)) ?_
    first | refine sn rfl rfl rfl ?_ | refine su rfl rfl ?_ | refine sy rfl rfl ((neq rfl rfl).eq (congrArg Value.bool (h11))) ?_
    first | refine st (pkT rfl rfl) ?_ | refine st (pkF rfl rfl) ?_ | refine st (pk rfl rfl rfl) ?_
    refine en fun a w e' hf => ?_
    replace hT := hT.ext e'
    replace e := Ext.tr e e'
    clear e'
    refine tl_nil ?_
    repeat refine seq ?_
    refine ifc hf rfl (fun h => by cases h) (fun _ => ?_)
    refine wskip ?_
    try simp only [Exit.then, Exit.inBlock, ↓reduceIte]
    replace hf := hf.keep [2, 7, 8, 17]
    dsimp only [keep, List.filterMap, look, Nat.beq, Option.map] at hf
    have h00 : ((0 : Int) != 0) = false := rfl
    have hmm : ((-1 : Int) != -1) = false := rfl
    repeat refine seq ?_
    refine regn 55 hf (by decide +kernel) ?_
    refine st (mv rfl) ?_
    refine st (call1 En21 rfl (fun v w he h => by cases h; exact nbags_spec w)) ?_
    refine st (lenE Tryz.underlying23 rfl) ?_
    refine st ((neq rfl rfl).eq (congrArg Value.bool (h00))) ?_
    refine st (mv rfl) ?_
    first | refine sn rfl rfl rfl ?_ | refine su rfl rfl ?_ | refine sy rfl rfl (mv rfl) ?_
    first | refine sn rfl rfl rfl ?_ | refine su rfl rfl ?_ | refine sy rfl rfl (call1 En35 rfl (fun v w he h => by cases h; exact nlen_spec w)) ?_
    first | refine sn rfl rfl rfl ?_ | refine su rfl rfl ?_ | refine sy rfl rfl ((neq rfl rfl).eq (congrArg Value.bool (h00))) ?_
    first | refine st (pkT rfl rfl) ?_ | refine st (pkF rfl rfl) ?_ | refine st (pk rfl rfl rfl) ?_
    refine st (mv rfl) ?_
    first | refine sn rfl rfl rfl ?_ | refine su rfl rfl ?_ | refine sy rfl rfl (mv rfl) ?_
    first | refine sn rfl rfl rfl ?_ | refine su rfl rfl ?_ | refine sy rfl rfl (call1 En30 rfl (fun v w he h => by cases h; exact nroot_spec w)) ?_
    first | refine sn rfl rfl rfl ?_ | refine su rfl rfl ?_ | refine sy rfl rfl ((neq rfl rfl).eq (congrArg Value.bool (hmm))) ?_
    first | refine st (pkT rfl rfl) ?_ | refine st (pkF rfl rfl) ?_ | refine st (pk rfl rfl rfl) ?_
    refine st (mv rfl) ?_
    first | refine sn rfl rfl rfl ?_ | refine su rfl rfl ?_ | refine sy rfl rfl (mv rfl) ?_
    first | refine sn rfl rfl rfl ?_ | refine su rfl rfl ?_ | refine sy rfl rfl (mv rfl) ?_
    first | refine sn rfl rfl rfl ?_ | refine su rfl rfl ?_ | refine sy rfl rfl (call2 En36 rfl rfl (fun v u w he h h' => by cases h; cases h'; exact nparent_spec id w)) ?_
    first | refine sn rfl rfl rfl ?_ | refine su rfl rfl ?_ | refine sy rfl rfl ((neq rfl rfl).eq (congrArg Value.bool (hmm))) ?_
    first | refine st (pkT rfl rfl) ?_ | refine st (pkF rfl rfl) ?_ | refine st (pk rfl rfl rfl) ?_
    refine st (mv rfl) ?_
    first | refine sn rfl rfl rfl ?_ | refine su rfl rfl ?_ | refine sy rfl rfl (mv rfl) ?_
    first | refine sn rfl rfl rfl ?_ | refine su rfl rfl ?_ | refine sy rfl rfl (mv rfl) ?_
    first | refine sn rfl rfl rfl ?_ | refine su rfl rfl ?_ | refine sy rfl rfl (call2 En37 rfl rfl (fun v u w he h h' => by cases h; cases h'; exact nheavy_spec id w)) ?_
    first | refine sn rfl rfl rfl ?_ | refine su rfl rfl ?_ | refine sy rfl rfl ((neq rfl rfl).eq (congrArg Value.bool (hmm))) ?_
    first | refine st (pkT rfl rfl) ?_ | refine st (pkF rfl rfl) ?_ | refine st (pk rfl rfl rfl) ?_
    refine st (mv rfl) ?_
    first | refine sn rfl rfl rfl ?_ | refine su rfl rfl ?_ | refine sy rfl rfl (mv rfl) ?_
    first | refine sn rfl rfl rfl ?_ | refine su rfl rfl ?_ | refine sy rfl rfl (mv rfl) ?_
    first | refine sn rfl rfl rfl ?_ | refine su rfl rfl ?_ | refine sy rfl rfl (call2 En29 rfl rfl (fun v u w he h h' => by cases h; cases h'; exact nchildren_spec id w)) ?_
    first | refine sn rfl rfl rfl ?_ | refine su rfl rfl ?_ | refine sy rfl rfl (lenD Tryz.underlying59 (isR rfl)) ?_
    first | refine sn rfl rfl rfl ?_ | refine su rfl rfl ?_ | refine sy rfl rfl ((neq rfl rfl).eq (congrArg Value.bool (show (((([] : List Int).length : Nat) : Int) != 0) = false from rfl))) ?_
    first | refine st (pkT rfl rfl) ?_ | refine st (pkF rfl rfl) ?_ | refine st (pk rfl rfl rfl) ?_
    refine st (mv rfl) ?_
    first | refine sn rfl rfl rfl ?_ | refine su rfl rfl ?_ | refine sy rfl rfl (mv rfl) ?_
    first | refine sn rfl rfl rfl ?_ | refine su rfl rfl ?_ | refine sy rfl rfl (mv rfl) ?_
    first | refine sn rfl rfl rfl ?_ | refine su rfl rfl ?_ | refine sy rfl rfl (call2 En38 rfl rfl (fun v u w he h h' => by cases h; cases h'; exact nsize_spec id w)) ?_
    first | refine sn rfl rfl rfl ?_ | refine su rfl rfl ?_ | refine sy rfl rfl ((neq rfl rfl).eq (congrArg Value.bool (h00))) ?_
    first | refine st (pkT rfl rfl) ?_ | refine st (pkF rfl rfl) ?_ | refine st (pk rfl rfl rfl) ?_
    refine st (mv rfl) ?_
    first | refine sn rfl rfl rfl ?_ | refine su rfl rfl ?_ | refine sy rfl rfl (mv rfl) ?_
    first | refine sn rfl rfl rfl ?_ | refine su rfl rfl ?_ | refine sy rfl rfl (call1 En39 rfl (fun v w he h => by cases h; exact nverts_spec w)) ?_
    first | refine sn rfl rfl rfl ?_ | refine su rfl rfl ?_ | refine sy rfl rfl ((bld0 Bz67).eq (z16_eq)) ?_
    first | refine sn rfl rfl rfl ?_ | refine su rfl rfl ?_ | refine sy rfl rfl ((neqS Tryz.underlying67 Tryz.underlying65 T65 (by kernel_rfl) rfl rfl).eq (congrArg Value.bool (show (!((0 : BS) == 0)) = false from by rw [beq_self_eq_true]; rfl))) ?_
    first | refine st (pkT rfl rfl) ?_ | refine st (pkF rfl rfl) ?_ | refine st (pk rfl rfl rfl) ?_
    refine st (mv rfl) ?_
    first | refine sn rfl rfl rfl ?_ | refine su rfl rfl ?_ | refine sy rfl rfl (mv rfl) ?_
    first | refine sn rfl rfl rfl ?_ | refine su rfl rfl ?_ | refine sy rfl rfl (call2 (A := E (B true)) En28 rfl rfl (fun v u w he h h' => by cases h; cases h'; exact nequal_spec none none (.inr rfl) w)) ?_
    first | refine sn rfl rfl rfl ?_ | refine su rfl rfl ?_ | refine sy rfl rfl ((notp rfl).eq (congrArg Value.bool (show (!true) = false from rfl))) ?_
    first | refine st (pkT rfl rfl) ?_ | refine st (pkF rfl rfl) ?_ | refine st (pk rfl rfl rfl) ?_
    refine st (mv rfl) ?_
    first | refine sn rfl rfl rfl ?_ | refine su rfl rfl ?_ | refine sy rfl rfl (mv rfl) ?_
    first | refine sn rfl rfl rfl ?_ | refine su rfl rfl ?_ | refine sy rfl rfl (mv rfl) ?_
    first | refine sn rfl rfl rfl ?_ | refine su rfl rfl ?_ | refine sy rfl rfl (call2 (A := E (B false)) En28 rfl rfl (fun v u w he h h' => by cases h; obtain ⟨ad, rfl, _⟩ := Dv.pt.1 h'; exact nequal_spec none (some ad) (.inl rfl) w)) ?_
    first | refine st (pkT rfl rfl) ?_ | refine st (pkF rfl rfl) ?_ | refine st (pk rfl rfl rfl) ?_
    refine en fun a w e' hf => ?_
    replace hT := hT.ext e'
    replace e := Ext.tr e e'
    clear e'
    refine tl_nil ?_
    repeat refine seq ?_
    refine ifc hf rfl (fun h => by cases h) (fun _ => ?_)
    refine wskip ?_
    try simp only [Exit.then, Exit.inBlock, ↓reduceIte]
    replace hf := hf.keep [7, 8]
    dsimp only [keep, List.filterMap, look, Nat.beq, Option.map] at hf
    repeat refine seq ?_
    refine regn 19 hf (by decide +kernel) ?_
    refine st (call0 En8 (fun w he => known_spec w (hT.ext he))) ?_
    refine st (mv rfl) ?_
    first | refine sn rfl rfl rfl ?_ | refine su rfl rfl ?_ | refine sy rfl rfl (mv rfl) ?_
    first | refine sn rfl rfl rfl ?_ | refine su rfl rfl ?_ | refine sy rfl rfl (call1 (A := Dv treeE Go.Mono.G0 tt) En21 rfl (fun v w he h => postG (G := Go.Mono.G0) (fbags_spec (frM tt) v w h hfl) hg0)) ?_
    first | refine sn rfl rfl rfl ?_ | refine su rfl rfl ?_ | refine sy rfl rfl (call1 (A := Dv rtE Go.Mono.G0 (toT tt)) En20 rfl (fun v w he h => toT_spec tt v w h hg0 (by omega))) ?_
    first | refine sn rfl rfl rfl ?_ | refine su rfl rfl ?_ | refine sy rfl rfl (mv rfl) ?_
    first | refine sn rfl rfl rfl ?_ | refine su rfl rfl ?_ | refine sy rfl rfl ((call2 En19 rfl rfl (fun v u w he h h' => sameT_spec (toT tt) (toT tt) v u w h h' (by omega) (by omega) hsl hsl)).eq (congrArg Value.bool (decide_eq_true ⟨rfl, fun i _ => ⟨rfl, cmpL_self _⟩⟩))) ?_
    first | refine st (pkT rfl rfl) ?_ | refine st (pkF rfl rfl) ?_ | refine st (pk rfl rfl rfl) ?_
    refine st (mv rfl) ?_
    first | refine sn rfl rfl rfl ?_ | refine su rfl rfl ?_ | refine sy rfl rfl (mv rfl) ?_
    first | refine sn rfl rfl rfl ?_ | refine su rfl rfl ?_ | refine sy rfl rfl (mv rfl) ?_
    first | refine sn rfl rfl rfl ?_ | refine su rfl rfl ?_ | refine sy rfl rfl ((call1 En30 rfl (fun v w he h => froot_spec (frM tt) v w h hfl)).eq (congrArg (Value.int .i64) hrE)) ?_
    first | refine sn rfl rfl rfl ?_ | refine su rfl rfl ?_ | refine sy rfl rfl (call2 (A := Dv (slE intE) Go.Mono.G0 (kids (toT tt) (r : Nat))) En29 rfl rfl (fun v u w he h h' => by cases h'; rw [← hnd]; exact postG (G := Go.Mono.G0) (fchildren_spec (frM tt) (r : Int) v w h (frM_len tt) (by rw [hnd]; omega)) hg0)) ?_
    first | refine sn rfl rfl rfl ?_ | refine su rfl rfl ?_ | refine sy rfl rfl (mv rfl) ?_
    first | refine sn rfl rfl rfl ?_ | refine su rfl rfl ?_ | refine sy rfl rfl (mv rfl) ?_
    first | refine sn rfl rfl rfl ?_ | refine su rfl rfl ?_ | refine sy rfl rfl ((call1 En30 rfl (fun v w he h => froot_spec (frM tt) v w h hfl)).eq (congrArg (Value.int .i64) hrE)) ?_
    first | refine sn rfl rfl rfl ?_ | refine su rfl rfl ?_ | refine sy rfl rfl (call2 (A := Dv (slE intE) Go.Mono.G0 (kids (toT tt) (r : Nat))) En41 rfl rfl (fun v u w he h h' => by cases h'; exact kids_spec (toT tt) _ v w h hg0 (by omega))) ?_
    first | refine sn rfl rfl rfl ?_ | refine su rfl rfl ?_ | refine sy rfl rfl ((call2 En40 rfl rfl (fun v u w he h h' => ints_spec _ _ v u w h h' (by omega))).eq (congrArg Value.bool (decide_eq_true rfl))) ?_
    first | refine st (pkT rfl rfl) ?_ | refine st (pkF rfl rfl) ?_ | refine st (pk rfl rfl rfl) ?_
    refine en fun a w e' hf => ?_
    replace hT := hT.ext e'
    replace e := Ext.tr e e'
    clear e'
    refine tl_as hf rfl (by decide) fun a hf => ?_
    refine tl_nil ?_
    refine wret ?_
    try simp only [Exit.then, Exit.inBlock]
    refine ret1 rfl hf rfl ?_
    rintro _ rfl
    exact ⟨_, rfl, e, rfl⟩
end Go.Mono
