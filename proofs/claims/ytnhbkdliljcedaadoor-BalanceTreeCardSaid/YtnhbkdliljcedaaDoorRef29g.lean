/-
  The reference's recursion, walked.
  No condition.
-/
import Derived.Test.YtnhbkdliljcedaaDoorRef29f
import Derived.Test.YtnhbkdliljcedaaDoorMonoO
import Derived.Test.YtnhbkdliljcedaaDoorBalD
set_option linter.unusedVariables false
set_option linter.unusedSimpArgs false
set_option linter.unusedVariables false
set_option linter.unusedSimpArgs false
namespace Go.Mono
open Go Go.Proofs Go.RowKit

/-- the own blocks of the two slices -/
def OB (ut ua : Value) (b : Nat) : Prop := ut.ownBlock = some b ∨ ua.ownBlock = some b
def OA (ua : Value) (b : Nat) : Prop := ua.ownBlock = some b
structure RSt (fs : List BS) (t : List (Int × BS)) (B0 : Nat) (L : List (Int × BS)) (ut ua : Value) (w : World) : Prop where
  ht : OwX rbE 60 B0 (OA ua) w (L.map fun x => toB (bagOf fs t x)) ut
  ha : OwR intE 3 B0 Go.Mono.G0 w (L.map (atOf fs)) ua
theorem RSt.ext {fs : List BS} {t : List (Int × BS)} {B0 : Nat} {L : List (Int × BS)} {ut ua : Value} {w w' : World} (h : RSt fs t B0 L ut ua w) (e : Ext w w') : RSt fs t B0 L ut ua w' := ⟨h.ht.ext e, h.ha.ext e⟩
theorem RSt.lt {fs : List BS} {t : List (Int × BS)} {B0 : Nat} {L : List (Int × BS)} {ut ua : Value} {w : World} (h : RSt fs t B0 L ut ua w) : ∀ b, OB ut ua b → B0 ≤ b ∧ b < w.heap.size := by
  rintro b (hb | hb)
  · exact h.ht.lt hb
  · exact h.ha.lt hb
theorem Dv.g0x {α : Type} {e : Enc α} {G : Nat → Prop} {x : α} {v : Value} {w w' : World} (h : (Dv e G x).p v w) (k : Ext w w') : (Dv e Go.Mono.G0 x).p v w' := Dv.weak (Dv.ex h k) fun _ _ h => h.elim

theorem partR_spec {t : List (Int × BS)} (hl : t.length ≤ 1000) (V : Vals (toT t)) (B0 : Nat) (tv : Value) :
    ∀ (f : Nat) (S : BS) (up : Int) (L : List (Int × BS)) (pv ut ua : Value) (W : World), Pt (adjL t) (trOf (toT t) V) S → card S ≤ f → L.length + card S ≤ 3000 → B0 ≤ W.heap.size → (Dv rtE (fun b => B0 ≤ b) (toT t)).p tv W → (Dv (slE intE) (OB ut ua) (toL S)).p pv W → RSt (adjL t) t B0 L ut ua W →
    Calls Tryd.prog 121 #[tv, pv, I up, ut, ua] W
      (fun e w' => ∃ v, e = .returned v ∧ Chg (OB ut ua) W w' ∧ ∃ ut' ua', v = .tuple #[ut', ua'] ∧ RSt (adjL t) t B0 (balL (adjL t) f S up L) ut' ua' w' ∧ ∀ b, OB ut' ua' b → OB ut ua b ∨ W.heap.size ≤ b) := by
  have F := fo_tree hl V
  have hTn : (trOf (toT t) V).n = t.length := toT_len t
  have hcl : ∀ {X : BS}, card X ≤ 1024 := fun {X} => card_le_n fun i hi => bit_lt hi
  intro f
  induction f with
  | zero =>
    intro S up L pv ut ua W hP hc
    obtain ⟨k, hk⟩ := hP.ne
    have := card_pos hk
    omega
  | succ f ih =>
    intro S up L pv ut ua W hP hc hL hBW HT HP St
    obtain ⟨p0, hp0⟩ := hP.ne
    have hin' := hP.inn
    have hin : ∀ i, S.getLsbD i = true → i < t.length := fun i hi => by have := hin' i hi; omega
    have SP := hP.spl F
    have hcn : splitter (adjL t) S < t.length := hin _ SP.mem
    have hsc := subs_card F hP
    have hSl := St.lt
    have hPW : (Dv (slE intE) (fun b => OB ut ua b ∨ W.heap.size ≤ b) (toL S)).p pv W := Dv.weak HP fun b hb h => h.elim id fun h => absurd hb (Nat.not_lt.2 h)
    clear HP
    rename _ => HP
    refine enter (args := [tv, pv, I up, ut, ua]) (As := [E tv, E pv, E (I up), E ut, E ua]) Tryd.func121 rfl Tryd.ntmps121 (Nat.le_of_ble_eq_true rfl) ?_ (fun a hf => ?_) (Nat.le_of_ble_eq_true rfl)
    rotate_left
    dsimp only [params, Nat.reduceAdd] at hf
    rotate_right
    · exact argC rfl (argC rfl (argC rfl (argC rfl (argC rfl argZ))))
    have e := Ext.rfl' W
    repeat refine seq ?_
    refine regn0 ?_
    refine tl_as hf rfl (by decide) fun a hf => ?_
    refine tl_as hf rfl (by decide) fun a hf => ?_
    refine tl_nil ?_
    repeat refine seq ?_
    refine regn 3 hf (by decide +kernel) ?_
    refine st (mv rfl) ?_
    refine st (mv rfl) ?_
    refine st (call2 (A := E (I (splitter (adjL t) S : Nat))) En83 rfl rfl (fun v u w he h h' => by cases h; cases h'; exact splitterR_spec hl V S _ _ w (Dv.g0x HT he) (Dv.g0x HP he) hin hP.conn hp0)) ?_
    refine en fun a w e' hf => ?_
    replace HT := Dv.ex HT e'
    replace HP := Dv.ex HP e'
    replace St := St.ext e'
    replace e := Ext.tr e e'
    clear e'
    refine tl_as hf rfl (by decide) fun a hf => ?_
    refine tl_nil ?_
    replace hf := hf.keep [0, 1, 2, 3, 4, 12]
    dsimp only [keep, List.filterMap, look, Nat.beq, Option.map] at hf
    obtain ⟨c0, hsp0⟩ : ∃ c0, splitter (adjL t) S = c0 := ⟨_, rfl⟩
    obtain ⟨om, hom⟩ : ∃ om, outM (adjL t) S = om := ⟨_, rfl⟩
    obtain ⟨co, hco⟩ : ∃ c, card om = c := ⟨_, rfl⟩
    have hlo : (toL om).length = co := (toL_card om).trans hco
    have hbo : co ≤ 1024 := by rw [← hco]; exact hcl
    rw [hsp0] at hf hcn
    have gc := toB_get hcn
    repeat refine seq ?_
    refine regn 5 hf (by decide +kernel) ?_
    refine st (mv rfl) ?_
    refine st (mv rfl) ?_
    refine st (idxD Tryd.underlying26 S60 (isE rfl HT) rfl (by omega) (gc)) ?_
    refine st (fldD Tryd.underlying60 rfl T57 (by decide) (Fld.snd Fld.refl rfl) (isR rfl)) ?_
    refine st (ldD T57 (isR rfl)) ?_
    refine en fun a w e' hf => ?_
    replace HT := Dv.ex HT e'
    replace HP := Dv.ex HP e'
    replace St := St.ext e'
    replace e := Ext.tr e e'
    clear e'
    refine tl_as hf rfl (by decide) fun a hf => ?_
    refine tl_nil ?_
    dsimp only at hf
    have e0 : (bg t c0).2 = hasTo t c0 ((elems om).take 0) := by rw [List.take_zero, hasTo, List.foldl_nil]
    generalize (bg t c0).2 = h0 at *
    replace hf := hf.upd 13 rfl (B := Dv (slE intE) (OB ut ua) (toL h0)) (fun v h => Dv.weak h fun b _ hb => (hSl b hb).1)
    rw [e0] at hf
    replace hf := hf.keep [0, 1, 2, 3, 4, 12, 13]
    dsimp only [keep, List.filterMap, look, Nat.beq, Option.map] at hf
    repeat refine seq ?_
    refine regn 3 hf (by decide +kernel) ?_
    refine st (mv rfl) ?_
    refine st (mv rfl) ?_
    refine st (call2 (A := Dv (slE intE) Go.Mono.G0 (toL om)) En70 rfl rfl (fun v u w he h h' => by cases h; cases h'; rw [← hom]; exact outR_spec hl V S _ _ w (Dv.g0x HT he) (Dv.g0x HP he) hin)) ?_
    refine en fun a w e' hf => ?_
    replace HT := Dv.ex HT e'
    replace HP := Dv.ex HP e'
    replace St := St.ext e'
    replace e := Ext.tr e e'
    clear e'
    refine tl_as hf rfl (by decide) fun a hf => ?_
    refine tl_nil ?_
    replace hf := hf.keep [0, 1, 2, 3, 4, 12, 13, 14]
    dsimp only [keep, List.filterMap, look, Nat.beq, Option.map] at hf
    repeat refine seq ?_
    refine regn0 ?_
    refine tl_as hf rfl (by decide) fun a hf => ?_
    refine tl_nil ?_
    replace hf := hf.keep [0, 1, 2, 3, 4, 12, 13, 14, 15]
    dsimp only [keep, List.filterMap, look, Nat.beq, Option.map] at hf
    repeat refine seq ?_
    refine cut (J := fun a w => Fr 82 a w [(0, E tv), (1, E pv), (2, E (I up)), (3, E ut), (4, E ua), (12, E (I (c0 : Nat))), (13, Dv (slE intE) (OB ut ua) (toL (hasB (adjL t) t S)))] ∧ Ext W w ∧ (Dv rtE (fun b => B0 ≤ b) (toT t)).p tv w ∧ (Dv (slE intE) (fun b => OB ut ua b ∨ W.heap.size ≤ b) (toL S)).p pv w ∧ RSt (adjL t) t B0 L ut ua w) ?_ (fun a w hJ => ?_)
    · refine blk (loopN (fun r0 a w => ∃ (k : Nat), r0 = co - k ∧ k ≤ co ∧ Fr 82 a w [(0, E tv), (1, E pv), (2, E (I up)), (3, E ut), (4, E ua), (12, E (I (c0 : Nat))), (13, Dv (slE intE) (OB ut ua) (toL (hasTo t c0 ((elems om).take k)))), (14, Dv (slE intE) Go.Mono.G0 (toL om)), (15, E (I k))] ∧ Ext W w ∧ (Dv rtE (fun b => B0 ≤ b) (toT t)).p tv w ∧ (Dv (slE intE) (fun b => OB ut ua b ∨ W.heap.size ≤ b) (toL S)).p pv w ∧ RSt (adjL t) t B0 L ut ua w) co ⟨0, rfl, by omega, hf, e, HT, HP, St⟩ ?_)
      clear hf e HT HP St
      rintro r0 a w ⟨k, rfl, hk, hf, e, HT, HP, St⟩
      repeat refine seq ?_
      refine regn 4 hf (by decide +kernel) ?_
      refine st (mv rfl) ?_
      refine st (mv rfl) ?_
      refine st (lenD Tryd.underlying57 (isR rfl)) ?_
      refine st (lss rfl rfl) ?_
      refine en fun a w e' hf => ?_
      replace HT := Dv.ex HT e'
      replace HP := Dv.ex HP e'
      replace St := St.ext e'
      replace e := Ext.tr e e'
      clear e'
      refine tl_nil ?_
      rw [hlo] at hf
      repeat refine seq ?_
      refine ifc hf rfl (fun hc => wskip ?_) (fun hc => wexit ?_)
      · have hlk : k < co := by have := of_decide_eq_true hc; omega
        clear hc
        simp only [Exit.then, Exit.inBlock, ↓reduceIte]
        obtain ⟨z, hz, hzO⟩ := elems_get (S := om) (by rw [hco]; exact hlk)
        have gz := toL_get hz
        have hzt : z < t.length := by
          rw [← hom, out_bit F hin'] at hzO
          have := hzO.1
          omega
        have gb := toB_get hzt
        have htz : (elems om).take (k + 1) = (elems om).take k ++ [z] := take_get hz
        have hlt := St.lt
        repeat refine seq ?_
        refine blk ?_
        replace hf := hf.keep [0, 1, 2, 3, 4, 12, 13, 14, 15]
        dsimp only [keep, List.filterMap, look, Nat.beq, Option.map] at hf
        repeat refine seq ?_
        refine regn 10 hf (by decide +kernel) ?_
        refine st (mv rfl) ?_
        refine st (mv rfl) ?_
        refine st (mv rfl) ?_
        refine st (mv rfl) ?_
        refine st (idxD Tryd.underlying57 S3 (isR rfl) rfl (by omega) (gz)) ?_
        refine st (ldI T3 (isR rfl)) ?_
        refine st (idxD Tryd.underlying26 S60 (isE rfl HT) rfl (by omega) (gb)) ?_
        refine st (fldD Tryd.underlying60 rfl T57 (by decide) (Fld.snd Fld.refl rfl) (isR rfl)) ?_
        refine st ((ldD T57 (isR rfl)).dv ((show _ = toL (bg t z).2 by dsimp only))) ?_
        refine st (call2 (A := Dv (slE intE) (OB ut ua) (toL (hasTo t c0 ((elems om).take (k + 1))))) En111 rfl rfl (fun v u w he h h' => by rw [htz, hasTo_app, ← toL_or]; exact or_spec _ _ _ _ w h (Dv.weak h' fun b _ hb => (hlt b hb).1) (fun b hb => Nat.lt_of_lt_of_le (hlt b hb).2 he.size) (by rw [toL_card, toL_card]; have h1 : card (hasTo t c0 ((elems om).take k)) ≤ 1024 := hcl; have h2 : card (bg t z).2 ≤ 1024 := hcl; omega))) ?_
        refine en fun a w e' hf => ?_
        replace HT := Dv.ex HT e'
        replace HP := Dv.ex HP e'
        replace St := St.ext e'
        replace e := Ext.tr e e'
        clear e'
        refine tl_as hf rfl (by decide) fun a hf => ?_
        refine tl_nil ?_
        try simp only [Exit.then, Exit.inBlock, ↓reduceIte]
        replace hf := hf.keep [0, 1, 2, 3, 4, 12, 13, 14, 15]
        dsimp only [keep, List.filterMap, look, Nat.beq, Option.map] at hf
        repeat refine seq ?_
        refine regn 2 hf (by decide +kernel) ?_
        refine st (mv rfl) ?_
        refine st ((add rfl rfl (by omega)).eq (congrArg (Value.int .i64) (show (k : Int) + 1 = ((k + 1 : Nat) : Int) from rfl))) ?_
        refine en fun a w e' hf => ?_
        replace HT := Dv.ex HT e'
        replace HP := Dv.ex HP e'
        replace St := St.ext e'
        replace e := Ext.tr e e'
        clear e'
        refine tl_as hf rfl (by decide) fun a hf => ?_
        refine tl_nil ?_
        replace hf := hf.keep [0, 1, 2, 3, 4, 12, 13, 14, 15]
        dsimp only [keep, List.filterMap, look, Nat.beq, Option.map] at hf
        exact ⟨co - (k + 1), by omega, k + 1, rfl, by omega, hf, e, HT, HP, St⟩
      · have hkc : k = co := by have := of_decide_eq_false hc; omega
        clear hc
        simp only [Exit.then, Exit.inBlock, ↓reduceIte]
        have hh : hasTo t c0 ((elems om).take k) = hasB (adjL t) t S := by
          rw [List.take_of_length_le (by rw [card_elems]; omega), hasB, hsp0, hom]
        rw [hh] at hf
        replace hf := hf.keep [0, 1, 2, 3, 4, 12, 13]
        dsimp only [keep, List.filterMap, look, Nat.beq, Option.map] at hf
        exact ⟨trivial, hf, e, HT, HP, St⟩
    clear hf e HT HP St
    obtain ⟨hf, e, HT, HP, St⟩ := hJ
    try simp only [Exit.then]
    obtain ⟨hs, hhs⟩ : ∃ hs, hasB (adjL t) t S = hs := ⟨_, rfl⟩
    rw [hhs] at hf
    have hlt := St.lt
    have hLl : L.length ≤ 3000 := by omega
    repeat refine seq ?_
    refine regn 2 hf (by decide +kernel) ?_
    refine st (mv rfl) ?_
    refine st ((lenD Tryd.underlying26 (isE rfl St.ht.sl0)).eq (congrArg (Value.int .i64) (congrArg (fun n : Nat => (n : Int)) (show (L.map fun x => toB (bagOf (adjL t) t x)).length = L.length by simp)))) ?_
    refine en fun a w e' hf => ?_
    replace HT := Dv.ex HT e'
    replace HP := Dv.ex HP e'
    replace St := St.ext e'
    replace e := Ext.tr e e'
    clear e'
    refine tl_as hf rfl (by decide) fun a hf => ?_
    refine tl_nil ?_
    replace hf := hf.keep [0, 1, 2, 3, 4, 12, 13, 16]
    dsimp only [keep, List.filterMap, look, Nat.beq, Option.map] at hf
    have hGO : ∀ {w : World}, W.heap.size ≤ w.heap.size → ∀ b, GO (OA ua) ut b → b < w.heap.size := fun hw b hb => Nat.lt_of_lt_of_le (hSl b hb.symm).2 hw
    repeat refine seq ?_
    refine regn 5 hf (by decide +kernel) ?_
    refine st (mv rfl) ?_
    refine st (mv rfl) ?_
    refine st (mv rfl) ?_
    refine st (bld2 (e1 := intE) (e2 := slE intE) (a := up) (b := toL hs) (G := GO (OA ua) ut) Tryd.underlying60 rfl rfl rfl S3 S57 I60 rfl (isI rfl) (isW rfl fun b hb => hb.symm)) ?_
    refine st (bsl1 (e := rbE) (G := GO (OA ua) ut) Tryd.underlying26 I60 rfl (by decide) rfl (hGO e.size) (isR rfl)) ?_
    refine en fun a w e' hf => ?_
    replace HT := Dv.ex HT e'
    replace HP := Dv.ex HP e'
    replace St := St.ext e'
    replace e := Ext.tr e e'
    clear e'
    replace hf := hf.keep [0, 1, 2, 3, 4, 12, 16, 48, 52]
    dsimp only [keep, List.filterMap, look, Nat.beq, Option.map] at hf
    refine tl_appX Tryd.underlying26 I60 rfl rfl hf (by decide) rfl St.ht (isR rfl) (by simp only [List.length_singleton, List.length_map]; omega) (by simp only [List.length_singleton, List.length_map, maxLen]; omega) fun a ut1 w hg hat Hn hf => ?_
    have cg := Chg.of_gro hg
    have c := (e.chg (OB ut ua)).tr (cg.to fun b _ hb => .inl hb)
    have HA := St.ha.chE cg fun b hb hh => St.ht.neR St.ha (by decide) hh hb
    have hrt : ∀ g, ut1.ownBlock = some g → ut.ownBlock = some g ∨ W.heap.size ≤ g := fun g hg' => by
      rcases hat with h | h
      · rw [h] at hg'; exact .inl hg'
      · rw [h] at hg'; cases hg'; exact .inr e.size
    replace HT := Dv.ch HT cg fun b hb => (hSl b (.inl hb)).1
    replace HP := Dv.ch HP cg fun b hb => .inl (.inl hb)
    clear cg hg hat e St
    replace hf := hf.keep [0, 1, 4, 12, 16, 53]
    dsimp only [keep, List.filterMap, look, Nat.beq, Option.map] at hf
    refine tl_op hf (by decide) (mv rfl) fun a w e' hf => ?_
    replace HT := Dv.ex HT e'
    replace HP := Dv.ex HP e'
    replace c := c.ext e'
    replace Hn := Hn.ext e'
    replace HA := HA.ext e'
    clear e'
    refine tl_op hf (by decide) (mv rfl) fun a w e' hf => ?_
    replace HT := Dv.ex HT e'
    replace HP := Dv.ex HP e'
    replace c := c.ext e'
    replace Hn := Hn.ext e'
    replace HA := HA.ext e'
    clear e'
    refine tl_op hf (by decide) (bsl1 (e := intE) (G := GO Go.Mono.G0 ua) Tryd.underlying43 I3 rfl (by decide) rfl HA.avs (isI rfl)) fun a w e' hf => ?_
    replace HT := Dv.ex HT e'
    replace HP := Dv.ex HP e'
    replace c := c.ext e'
    replace Hn := Hn.ext e'
    replace HA := HA.ext e'
    clear e'
    have hwc := c.size
    refine tl_app Tryd.underlying43 I3 rfl rfl hf (by decide) rfl HA (isR rfl) (by simp only [List.length_singleton, List.length_map]; omega) (by simp only [List.length_singleton, List.length_map, maxLen]; omega) fun a ua1 w' hg hat Hm hf => ?_
    have cg := Chg.of_gro hg
    have hra : ∀ g, ua1.ownBlock = some g → ua.ownBlock = some g ∨ W.heap.size ≤ g := fun g hg' => by
      rcases hat with h | h
      · rw [h] at hg'; exact .inl hg'
      · rw [h] at hg'; cases hg'; exact .inr hwc
    replace Hn : OwX rbE 60 B0 (OA ua1) w' _ ut1 := ((Hn.weak (G' := fun b => OA ua b ∨ w.heap.size ≤ b) fun b hb h => h.elim id fun h => absurd hb (Nat.not_lt.2 h)).ch cg (fun b hb hh => Hn.neR HA (by decide) hb hh) fun b hb => .inl hb).weak fun b hb h => by
      rcases hat with h2 | h2
      · exact .inl (show ua.ownBlock = some b from h2 ▸ h)
      · have h3 : ua1.ownBlock = some b := h
        rw [h2] at h3
        cases h3
        exact .inr (Nat.le_refl _)
    replace c := c.tr (cg.to fun b _ hb => .inr hb)
    replace HT := Dv.ch HT cg fun b hb => (hSl b (.inr hb)).1
    replace HP := Dv.ch HP cg fun b hb => .inl (.inr hb)
    clear cg hg hat HA hwc
    generalize w' = w at *
    replace hf := hf.keep [0, 1, 12, 16, 53, 57]
    dsimp only [keep, List.filterMap, look, Nat.beq, Option.map] at hf
    refine tl_as hf rfl (by decide) fun a hf => ?_
    refine tl_as hf rfl (by decide) fun a hf => ?_
    refine tl_nil ?_
    have hb1 : toB (bagOf (adjL t) t (up, S)) = (up, toL hs) := by simp only [toB, bagOf, hhs]
    have ha1 : atOf (adjL t) (up, S) = (c0 : Int) := by simp only [atOf, hsp0]
    have S1 : RSt (adjL t) t B0 (L ++ [(up, S)]) ut1 ua1 w := ⟨by rw [List.map_append, List.map_cons, List.map_nil, hb1]; exact Hn, by rw [List.map_append, List.map_cons, List.map_nil, ha1]; exact Hm⟩
    have hr1 : ∀ b, OB ut1 ua1 b → OB ut ua b ∨ W.heap.size ≤ b := by
      rintro b (hb | hb)
      · exact (hrt b hb).imp .inl id
      · exact (hra b hb).imp .inr id
    clear Hn Hm hrt hra
    replace hf := hf.keep [0, 1, 3, 4, 12, 16]
    dsimp only [keep, List.filterMap, look, Nat.beq, Option.map] at hf
    obtain ⟨ls, hls⟩ : ∃ ls, subs (adjL t) S = ls := ⟨_, rfl⟩
    have hls' : partsB (adjL t) (del S (c0 : Int)) = ls := by rw [← hsp0]; exact hls
    have hlsP : ∀ C ∈ ls, Pt (adjL t) (trOf (toT t) V) C ∧ card C ≤ f := fun C hC => by
      rw [← hls] at hC
      have := hP.step F hC
      exact ⟨this.1, by omega⟩
    rw [hls] at hsc
    have hll : ls.length ≤ 1024 := by
      have h1 := (parts_some F (del_in hin' (c0 : Int))).2.1
      have h2 : card (del S (c0 : Int)) ≤ 1024 := hcl
      rw [hls'] at h1; omega
    have hcW := c.size
    obtain ⟨N1, hN1⟩ : ∃ N1, N1 = w.heap.size := ⟨_, rfl⟩
    have hSN : ∀ b, OB ut1 ua1 b → b < N1 := fun b hb => by rw [hN1]; exact (S1.lt b hb).2
    have hN1w : N1 ≤ w.heap.size := by omega
    repeat refine seq ?_
    refine regn 4 hf (by decide +kernel) ?_
    refine st (mv rfl) ?_
    refine st (mv rfl) ?_
    refine st (mv rfl) ?_
    refine st (call3 (A := Dv (slE (slE intE)) (fun b => b < N1) (ls.map toL)) En87 rfl rfl rfl (fun v u s w he h h' h'' => by cases h; cases h'; cases h''; rw [← hls']; exact splitR_spec hl V S (c0 : Int) _ _ w (Dv.g0x HT he) (Dv.g0x HP he) (fun b hb => by have := he.size; omega) hin)) ?_
    refine en fun a w e' hf => ?_
    replace HT := Dv.ex HT e'
    replace HP := Dv.ex HP e'
    replace c := c.ext e'
    replace S1 := S1.ext e'
    replace hN1w := Nat.le_trans hN1w e'.size
    clear e'
    refine tl_as hf rfl (by decide) fun a hf => ?_
    refine tl_nil ?_
    obtain ⟨lv, hlv, hf⟩ := hf.fix 17 rfl
    obtain ⟨N0, hN0⟩ : ∃ N0, N0 = w.heap.size := ⟨_, rfl⟩
    have HL : (Dv (slE (slE intE)) (fun b => b < N1 ∨ N0 ≤ b) (ls.map toL)).p lv w := Dv.weak hlv fun b hb hg => hg.elim id fun hg => absurd hb (Nat.not_lt.2 (by omega))
    have hNw : N0 ≤ w.heap.size := by omega
    have hS1 : ∀ b, OB ut1 ua1 b → b < N1 ∨ N0 ≤ b := fun b hb => .inl (hSN b hb)
    clear hlv hN0 hN1 HP
    have hbal : balL (adjL t) (f + 1) S up L = balK (adjL t) f (L.length : Int) (ls.take ls.length) (L ++ [(up, S)]) := by
      rw [List.take_length, ← hls]; rfl
    rw [hbal]
    have S1' : RSt (adjL t) t B0 (balK (adjL t) f (L.length : Int) (ls.take 0) (L ++ [(up, S)])) ut1 ua1 w := S1
    have hlm : (ls.map toL).length = ls.length := List.length_map _
    replace hf := hf.keep [0, 3, 4, 16, 17]
    dsimp only [keep, List.filterMap, look, Nat.beq, Option.map] at hf
    repeat refine seq ?_
    refine regn0 ?_
    refine tl_as hf rfl (by decide) fun a hf => ?_
    refine tl_nil ?_
    replace hf := hf.keep [0, 3, 4, 16, 17, 18]
    dsimp only [keep, List.filterMap, look, Nat.beq, Option.map] at hf
    repeat refine seq ?_
    refine blk (loopN (fun r0 a w => ∃ (k : Nat) (utk uak : Value), r0 = ls.length - k ∧ k ≤ ls.length ∧ Fr 82 a w [(0, E tv), (3, E utk), (4, E uak), (16, E (I (L.length : Nat))), (17, E lv), (18, E (I k))] ∧
      Chg (OB ut ua) W w ∧ (Dv rtE (fun b => B0 ≤ b) (toT t)).p tv w ∧ RSt (adjL t) t B0 (balK (adjL t) f (L.length : Int) (ls.take k) (L ++ [(up, S)])) utk uak w ∧ (Dv (slE (slE intE)) (fun b => b < N1 ∨ N0 ≤ b) (ls.map toL)).p lv w ∧
      (∀ b, OB utk uak b → (OB ut ua b ∨ W.heap.size ≤ b) ∧ (b < N1 ∨ N0 ≤ b)) ∧ N0 ≤ w.heap.size) ls.length ⟨0, ut1, ua1, rfl, by omega, hf, c, HT, S1', HL, fun b hb => ⟨hr1 b hb, hS1 b hb⟩, hNw⟩ ?_)
    clear hf c HT S1 S1' HL hr1 hS1 hSN hNw hcW hN1w
    rintro r0 a w ⟨k, utk, uak, rfl, hk, hf, c, HT, Sk, HL, hrk, hNw⟩
    repeat refine seq ?_
    refine regn 4 hf (by decide +kernel) ?_
    refine st (mv rfl) ?_
    refine st (mv rfl) ?_
    refine st (lenD Tryd.underlying95 (isE rfl HL)) ?_
    refine st (lss rfl rfl) ?_
    refine en fun a w e' hf => ?_
    replace HT := Dv.ex HT e'
    replace HL := Dv.ex HL e'
    replace c := c.ext e'
    replace Sk := Sk.ext e'
    replace hNw := Nat.le_trans hNw e'.size
    clear e'
    refine tl_nil ?_
    rw [hlm] at hf
    repeat refine seq ?_
    refine ifc hf rfl (fun hc => wskip ?_) (fun hc => wexit ?_)
    · have hlt : k < ls.length := by have := of_decide_eq_true hc; omega
      clear hc
      simp only [Exit.then, Exit.inBlock, ↓reduceIte]
      obtain ⟨C, hC⟩ : ∃ C, ls[k]? = some C := ⟨_, List.getElem?_eq_getElem hlt⟩
      have hC2 : (ls.map toL)[k]? = some (toL C) := by rw [List.getElem?_map, hC]; rfl
      obtain ⟨hCp, hCf⟩ := hlsP C (List.mem_of_getElem? hC)
      have hlenk := balK_len (u := (L.length : Int)) F (ls.take k) (L ++ [(up, S)]) fun D hD => hlsP D (List.mem_of_mem_take hD)
      have hst := sum_take_succ hC
      have hsle := sum_take_le ls (k + 1)
      rw [List.length_append, List.length_singleton] at hlenk
      repeat refine seq ?_
      refine blk ?_
      replace hf := hf.keep [0, 3, 4, 16, 17, 18]
      dsimp only [keep, List.filterMap, look, Nat.beq, Option.map] at hf
      repeat refine seq ?_
      refine regn 8 hf (by decide +kernel) ?_
      refine st (mv rfl) ?_
      refine st (mv rfl) ?_
      refine st (mv rfl) ?_
      refine st (idxD Tryd.underlying95 S57 (isE rfl HL) rfl (by omega) (hC2)) ?_
      refine st (ldD T57 (isR rfl)) ?_
      refine st (mv rfl) ?_
      refine st (mv rfl) ?_
      refine st (mv rfl) ?_
      refine en fun a w e' hf => ?_
      replace HT := Dv.ex HT e'
      replace HL := Dv.ex HL e'
      replace c := c.ext e'
      replace Sk := Sk.ext e'
      replace hNw := Nat.le_trans hNw e'.size
      clear e'
      obtain ⟨cv, hcv, hf⟩ := hf.fix 73 rfl
      replace hcv : (Dv (slE intE) (OB utk uak) (toL C)).p cv w := Dv.weak hcv fun b _ hb => (hrk b hb).2
      have v69 : a.eval (.tmp 69) = tv := hf.val 69 _ rfl
      have v73 : a.eval (.tmp 73) = cv := hf.val 73 _ rfl
      have v74 : a.eval (.tmp 74) = I (L.length : Nat) := hf.val 74 _ rfl
      have v75 : a.eval (.tmp 75) = utk := hf.val 75 _ rfl
      have v76 : a.eval (.tmp 76) = uak := hf.val 76 _ rfl
      have hBw : B0 ≤ w.heap.size := by have := c.size; omega
      have hkB : ∀ b, OB utk uak b → B0 ≤ b := fun b hb => (Sk.lt b hb).1
      replace hf := hf.keep [0, 16, 17, 18]
      dsimp only [keep, List.filterMap, look, Nat.beq, Option.map] at hf
      refine tl_callE (S := OB utk uak) (F := fun v w' => ∃ ut' ua', v = .tuple #[ut', ua'] ∧ RSt (adjL t) t B0 (balL (adjL t) f C (L.length : Int) (balK (adjL t) f (L.length : Int) (ls.take k) (L ++ [(up, S)]))) ut' ua' w' ∧ ∀ b, OB ut' ua' b → OB utk uak b ∨ w.heap.size ≤ b) hf (by decide) En121 ?_ fun a v w' hc hF hf => ?_
      · have := ih C (L.length : Int) (balK (adjL t) f (L.length : Int) (ls.take k) (L ++ [(up, S)])) cv utk uak w hCp hCf (by omega) hBw HT hcv Sk
        simpa [v69, v73, v74, v75, v76] using this
      obtain ⟨ut', ua', rfl, Sk', hr'⟩ := hF
      replace hr' : ∀ b, OB ut' ua' b → (OB ut ua b ∨ W.heap.size ≤ b) ∧ (b < N1 ∨ N0 ≤ b) := fun b hb => by
        rcases hr' b hb with h | h
        · exact hrk b h
        · have := c.size
          exact ⟨.inr (by omega), .inr (by omega)⟩
      replace c := c.tr2 hc fun b hb => (hrk b hb).1
      replace HT := Dv.ch HT hc hkB
      replace HL := Dv.ch HL hc fun b hb => (hrk b hb).2
      replace hNw := Nat.le_trans hNw hc.size
      rw [← balK_succ (adjL t) f (L.length : Int) ls (L ++ [(up, S)]) hC] at Sk'
      clear hc Sk hrk hkB v69 v73 v74 v75 v76 hcv hBw
      replace hf := hf.upd 77 rfl (B := Tup [E ut', E ua']) (fun v hv => by cases hv; exact Tup.two rfl rfl)
      generalize w' = w at *
      replace hf := hf.keep [0, 16, 17, 18, 77]
      dsimp only [keep, List.filterMap, look, Nat.beq, Option.map] at hf
      refine tl_op hf (by decide) (mv rfl) fun a w e' hf => ?_
      replace HT := Dv.ex HT e'
      replace HL := Dv.ex HL e'
      replace c := c.ext e'
      replace Sk' := Sk'.ext e'
      replace hNw := Nat.le_trans hNw e'.size
      clear e'
      refine tl_op hf (by decide) (ext_ rfl rfl) fun a w e' hf => ?_
      replace HT := Dv.ex HT e'
      replace HL := Dv.ex HL e'
      replace c := c.ext e'
      replace Sk' := Sk'.ext e'
      replace hNw := Nat.le_trans hNw e'.size
      clear e'
      refine tl_op hf (by decide) (ext_ rfl rfl) fun a w e' hf => ?_
      replace HT := Dv.ex HT e'
      replace HL := Dv.ex HL e'
      replace c := c.ext e'
      replace Sk' := Sk'.ext e'
      replace hNw := Nat.le_trans hNw e'.size
      clear e'
      refine tl_as hf rfl (by decide) fun a hf => ?_
      refine tl_as hf rfl (by decide) fun a hf => ?_
      refine tl_nil ?_
      try simp only [Exit.then, Exit.inBlock, ↓reduceIte]
      replace hf := hf.keep [0, 3, 4, 16, 17, 18]
      dsimp only [keep, List.filterMap, look, Nat.beq, Option.map] at hf
      repeat refine seq ?_
      refine regn 2 hf (by decide +kernel) ?_
      refine st (mv rfl) ?_
      refine st ((add rfl rfl (by omega)).eq (congrArg (Value.int .i64) (show (k : Int) + 1 = ((k + 1 : Nat) : Int) from rfl))) ?_
      refine en fun a w e' hf => ?_
      replace HT := Dv.ex HT e'
      replace HL := Dv.ex HL e'
      replace c := c.ext e'
      replace Sk' := Sk'.ext e'
      replace hNw := Nat.le_trans hNw e'.size
      clear e'
      refine tl_as hf rfl (by decide) fun a hf => ?_
      refine tl_nil ?_
      replace hf := hf.keep [0, 3, 4, 16, 17, 18]
      dsimp only [keep, List.filterMap, look, Nat.beq, Option.map] at hf
      exact ⟨ls.length - (k + 1), by omega, k + 1, ut', ua', rfl, by omega, hf, c, HT, Sk', HL, hr', hNw⟩
    · obtain rfl : k = ls.length := by have := of_decide_eq_false hc; omega
      clear hc
      simp only [Exit.then, Exit.inBlock, ↓reduceIte]
      replace hf := hf.keep [3, 4]
      dsimp only [keep, List.filterMap, look, Nat.beq, Option.map] at hf
      repeat refine seq ?_
      refine regn 2 hf (by decide +kernel) ?_
      refine st (mv rfl) ?_
      refine st (mv rfl) ?_
      refine en fun a w e' hf => ?_
      replace c := c.ext e'
      replace Sk := Sk.ext e'
      clear e'
      refine tl_as hf rfl (by decide) fun a hf => ?_
      refine tl_as hf rfl (by decide) fun a hf => ?_
      refine tl_nil ?_
      refine wret (ret2 rfl hf rfl rfl ?_)
      rintro _ _ rfl rfl
      exact ⟨_, rfl, c, _, _, rfl, Sk, fun b hb => (hrk b hb).1⟩
end Go.Mono
