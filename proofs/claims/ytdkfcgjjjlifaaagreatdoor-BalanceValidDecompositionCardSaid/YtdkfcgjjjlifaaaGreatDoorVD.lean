/-
  Walks and plain facts, in this order: Centre, Path, Splitter, Bal, BelowS, Chked, Balance, Bal6, BitLen, Depth3, Known29, Arg, MonoO, MonoG, Gr1.
  No condition.
-/
import Derived.Test.YtdkfcgjjjlifaaaGreatDoorVC
import Derived.Test.YtdkfcgjjjlifaaaGreatDoorVB
import Derived.Test.YtdkfcgjjjlifaaaGreatDoorVA
import Derived.OpenShut
import Derived.Deep.Slices
import Derived.ChangeSame
set_option linter.unusedVariables false
set_option linter.unusedSimpArgs false
namespace Go.Mono
open Go Go.Proofs Go.RowKit

def mTo (l : List BS) (k : Nat) : Nat := (l.take k).foldl (fun m C => max m (card C)) 0
theorem mTo_succ {l : List BS} {k : Nat} {C : BS} (h : l[k]? = some C) : mTo l (k + 1) = max (mTo l k) (card C) := by
  rw [mTo, List.take_add_one, h, List.foldl_append]; rfl
theorem cenTo_app (fs : List BS) (part : BS) (s : List Nat) (x : Nat) : cenTo fs part (s ++ [x]) = cenStep fs part (cenTo fs part s) x := by
  rw [cenTo, List.foldl_append]; rfl

theorem cen_spec {G2 : Nat → Prop} {T : Tr} {fs : List BS} (F : Fo fs T) (part : BS) (fv : Value) (W : World) (hT : Tab W) (h : (Dv (slE setE) G2 fs).p fv W) (hin : ∀ i, part.getLsbD i = true → i < T.n) :
    Calls Tryz.prog 113 #[fv, setV part] W (Post (E (I (cenTo fs part (elems part)).1)) W) := by
  have HV : (Dv (slE setE) (GB W Go.Mono.G0) fs).p fv W := Dv.toB (Dv.weak h fun b _ hb => hb.elim)
  clear h
  have hT0 := hT.lt
  have h1 := one_cells (Dv.slOne HV)
  refine enterM (args := [fv, setV part]) (As := [E fv, E (setV part)]) Tryz.func113 rfl Tryz.ntmps113 (Nat.le_of_ble_eq_true rfl) ?_ (fun a hf => ?_) (Nat.le_of_ble_eq_true rfl)
  · exact arg2 rfl rfl
  dsimp only [params, Nat.reduceAdd] at hf
  have e := Ext.rfl' W
  repeat refine seq ?_
  refine regn0 ?_
  refine tl_box hf rfl (by decide) fun a b2 w v2 hv2 e' hb2 hs2 B2 hf => ?_
  have hle2 := Nat.le_trans e.size (Nat.le_of_eq hb2.symm)
  replace hT := hT.ext e'
  replace HV := Dv.ex HV e'
  replace e := Ext.tr e e'
  clear e'
  refine tl_box hf rfl (by decide) fun a b3 w v3 hv3 e' hb3 hs3 B3 hf => ?_
  have hle3 := Nat.le_trans e.size (Nat.le_of_eq hb3.symm)
  have lt3_B2 := B2.lt
  replace hT := hT.ext e'
  replace HV := Dv.ex HV e'
  replace e := Ext.tr e e'
  replace B2 := B2.ext e'
  clear e'
  refine tl_as hf rfl (by decide) fun a hf => ?_
  refine tl_nil ?_
  cases hv2
  cases hv3
  rw [h1] at B2
  replace B3 : Blk w b3 (setC part) 67 := B3
  have l2 := B2.lt
  have l3 := B3.lt
  have n3 : W.heap.size ≤ b3 ∧ b3 ≠ b2 ∧ W.heap.size ≤ b2 := by omega
  replace hf := hf.keep [2, 3]
  dsimp only [keep, List.filterMap, look, Nat.beq, Option.map] at hf
  repeat refine seq ?_
  refine regn0 ?_
  refine tl_alloc I3 hf (by decide) fun a b5 w e' hb5 hs5 B5 hf => ?_
  have hle5 := Nat.le_trans e.size (Nat.le_of_eq hb5.symm)
  have lt5_B2 := B2.lt
  have lt5_B3 := B3.lt
  replace hT := hT.ext e'
  replace HV := Dv.ex HV e'
  replace e := Ext.tr e e'
  replace B2 := B2.ext e'
  replace B3 := B3.ext e'
  clear e'
  refine tl_alloc I3 hf (by decide) fun a b6 w e' hb6 hs6 B6 hf => ?_
  have hle6 := Nat.le_trans e.size (Nat.le_of_eq hb6.symm)
  have lt6_B2 := B2.lt
  have lt6_B3 := B3.lt
  have lt6_B5 := B5.lt
  replace hT := hT.ext e'
  replace HV := Dv.ex HV e'
  replace e := Ext.tr e e'
  replace B2 := B2.ext e'
  replace B3 := B3.ext e'
  replace B5 := B5.ext e'
  clear e'
  haveI hinr : ∀ G0, InR (GB W G0) (some b5) := fun G0 => InR.gb (by omega)
  refine tl_st1 T3 hf rfl rfl rfl B5 (by decide) fun w hg hsz B5 hf => ?_
  replace hT := hT.gr hg (by omega)
  replace HV := Dv.gr HV hg (.inr (by omega))
  replace e := e.gr hg (by omega)
  replace B2 := B2.gr hg (by omega)
  replace B3 := B3.gr hg (by omega)
  replace B6 := B6.gr hg (by omega)
  clear hg
  haveI hinr : ∀ G0, InR (GB W G0) (some b6) := fun G0 => InR.gb (by omega)
  refine tl_st1 T3 hf rfl rfl rfl B6 (by decide) fun w hg hsz B6 hf => ?_
  replace hT := hT.gr hg (by omega)
  replace HV := Dv.gr HV hg (.inr (by omega))
  replace e := e.gr hg (by omega)
  replace B2 := B2.gr hg (by omega)
  replace B3 := B3.gr hg (by omega)
  replace B5 := B5.gr hg (by omega)
  clear hg
  refine tl_nil ?_
  replace B5 : Blk w b5 #[I (cenTo fs part []).1] 3 := B5
  replace B6 : Blk w b6 #[I (cenTo fs part []).2] 3 := B6
  have n5 : b5 ≠ b2 ∧ b5 ≠ b3 ∧ b6 ≠ b2 ∧ b6 ≠ b3 ∧ b6 ≠ b5 ∧ W.heap.size ≤ b5 ∧ W.heap.size ≤ b6 := by omega
  replace hf := hf.keep [2, 3, 5, 6]
  dsimp only [keep, List.filterMap, look, Nat.beq, Option.map] at hf
  obtain ⟨Nz, hNz⟩ : ∃ Nz, Nz = w.heap.size := ⟨_, rfl⟩
  repeat refine seq ?_
  refine regn 2 hf (by decide +kernel) ?_
  refine st (ldW T67 rfl B3 rfl) ?_
  refine st (call1 (A := SeqA Nz part) En58 rfl (fun v w' he h => by cases h; exact Calls.mono (all_spec _ w') (fun en w2 ⟨u, h1, h2, b', h3, h4, h5⟩ => ⟨u, h1, h2, b', by have := he.size; omega, h4, h5⟩))) ?_
  refine en fun a w e' hf => ?_
  replace hT := hT.ext e'
  replace HV := Dv.ex HV e'
  replace e := Ext.tr e e'
  replace B2 := B2.ext e'
  replace B3 := B3.ext e'
  replace B5 := B5.ext e'
  replace B6 := B6.ext e'
  clear e'
  refine tl_nil ?_
  obtain ⟨v, ⟨b12, h12, rfl, BS⟩, hf⟩ := hf.fix 12 rfl
  replace hf := hf.keep [2, 3, 5, 6, 12]
  dsimp only [keep, List.filterMap, look, Nat.beq, Option.map] at hf
  have hBW : W.heap.size ≤ w.heap.size := e.size
  have h0w : 0 < w.heap.size := hT.lt
  have kL : LtL w.heap.size [(b2, #[fv], 107), (b3, setC part, 67), (b5, #[I 0], 3), (b6, #[I 0], 3)] := ⟨B2.lt, B3.lt, B5.lt, B6.lt, trivial⟩
  repeat refine seq ?_
  refine blk ?_
  refine range_all3 (S := part) hf rfl BS (by decide) (fun s w1 => RJ W fs fv [(b2, #[fv], 107), (b3, setC part, 67), (b5, #[I (cenTo fs part s).1], 3), (b6, #[I (cenTo fs part s).2], 3)] [] w1) (fun _ _ => False) (fun s w1 h => h.t)
    ⟨e, hT, HV, ⟨B2, B3, B5, B6, trivial⟩, Ds.nil _⟩ (fun s w1 w2 h hs k => h.kp k hBW h0w ⟨kL.1, kL.2.1, kL.2.2.1, kL.2.2.2.1, trivial⟩ (fun d hd => by cases hd)) (fun _ _ _ h => h.elim) ?_ ?_ (fun _ _ _ _ _ _ h => h.elim)
  · intro l s x rest a1 w1 hs hJ hlw hf
    have k5 : b5 < w.heap.size := kL.2.2.1
    have k6 : b6 < w.heap.size := kL.2.2.2.1
    generalize hBz : w.heap.size = Bz at *
    refine regn0 ?_
    refine tl_as hf rfl (by decide) fun a hf => ?_
    refine tl_nil ?_
    simp only [Exit.then]
    refine ⟨Kh.rfl' _ _, fun w3 k3 hsz3 => ?_⟩
    have hJ3 := hJ.kp k3 hBW h0w ⟨kL.1, kL.2.1, kL.2.2.1, kL.2.2.2.1, trivial⟩ (fun d hd => by cases hd)
    have hw3 : Bz + 3 ≤ w3.heap.size := by omega
    clear e hT HV B2 B3 B5 B6 BS hJ
    replace hf := hf.pure w3
    obtain ⟨e, hT, HV, ⟨B2, B3, B5, B6, _⟩, _⟩ := hJ3
    have kh := Kh.rfl' Bz w3
    replace hf := hf.keep [2, 3, 5, 6, 7]
    dsimp only [keep, List.filterMap, look, Nat.beq, Option.map] at hf
    repeat refine seq ?_
    refine blk ?_
    repeat refine seq ?_
    refine regn0 ?_
    refine tl_as hf rfl (by decide) fun a hf => ?_
    refine tl_nil ?_
    generalize hls : partsB fs (del part (x : Int)) = ls at *
    have hmx : mostB fs part x = mTo ls ls.length := by rw [mostB, hls, mTo, List.take_length]
    have hml := most_le F hin x
    have hll : ls.length ≤ 1024 := by
      have h1 := (parts_some F (del_in hin (x : Int))).2.1
      have h2 := card_le_n (S := del part (x : Int)) (n := 1024) fun i hi => bit_lt hi
      rw [hls] at h1; omega
    repeat refine seq ?_
    refine regn 6 hf (by decide +kernel) ?_
    refine st (ld1 (v := fv) T107 rfl B2 rfl) ?_
    refine st (ldW T67 rfl B3 rfl) ?_
    refine st (mv rfl) ?_
    refine st (call3 (A := Dv (slE setE) Go.Mono.G0 ls) En60 rfl rfl rfl (fun v u s w he h h' h'' => by cases h; cases h'; cases h''; rw [← hls]; exact split_spec F part x fv w (hT.ext he) (Dv.ex HV he) hin (fun b hb => hb.elim))) ?_
    refine st (lenD Tryz.underlying106 (isR rfl)) ?_
    refine st (mv rfl) ?_
    refine en fun a w e' hf => ?_
    replace hT := hT.ext e'
    replace HV := Dv.ex HV e'
    replace kh := kh.tr (Kh.ext e')
    replace e := Ext.tr e e'
    replace B2 := B2.ext e'
    replace B3 := B3.ext e'
    replace B5 := B5.ext e'
    replace B6 := B6.ext e'
    clear e'
    refine tl_nil ?_
    obtain ⟨lv, hlv, hf⟩ := hf.fix 17 rfl
    obtain ⟨N0, hN0⟩ : ∃ N0, N0 = w.heap.size := ⟨_, rfl⟩
    have HL : (Dv (slE setE) (fun b => N0 ≤ b) ls).p lv w := Dv.weak hlv fun b hb hg => absurd hb (Nat.not_lt.2 (by omega))
    have hN0' : Bz + 3 ≤ N0 := by have := kh.size; omega
    have hNw : N0 ≤ w.heap.size := by omega
    have hm0 : (0 : Int) = ((mTo ls 0 : Nat) : Int) := rfl
    rw [hm0] at hf
    clear hlv hN0 hm0
    replace hf := hf.keep [2, 3, 5, 6, 7, 8, 17, 18, 19]
    dsimp only [keep, List.filterMap, look, Nat.beq, Option.map] at hf
    repeat refine seq ?_
    refine blk (loopN (fun r0 a w => ∃ k : Nat, r0 = ls.length - k ∧ k ≤ ls.length ∧ FrD 38 [] a w [(2, E (.pointer (some ⟨b2, 0, none⟩))), (3, E (.pointer (some ⟨b3, 0, none⟩))), (5, E (.pointer (some ⟨b5, 0, none⟩))), (6, E (.pointer (some ⟨b6, 0, none⟩))), (7, E (I (x : Nat))), (8, E (I (mTo ls k : Nat))), (17, E lv), (18, E (I (ls.length : Nat))), (19, E (I k))] ∧
      (Ext W w ∧ Tab w ∧ (Dv (slE setE) (GB W Go.Mono.G0) fs).p fv w ∧ Kh Bz w3 w) ∧ Blk w b2 #[fv] 107 ∧ Blk w b3 (setC part) 67 ∧ Blk w b5 #[I (cenTo fs part s).1] 3 ∧ Blk w b6 #[I (cenTo fs part s).2] 3 ∧ (Dv (slE setE) (fun b => N0 ≤ b) ls).p lv w ∧ N0 ≤ w.heap.size) ls.length ⟨0, rfl, by omega, hf, ⟨e, hT, HV, kh⟩, B2, B3, B5, B6, HL, hNw⟩ ?_)
    clear hf e hT HV kh B2 B3 B5 B6 HL hNw
    rintro r0 a w ⟨k, rfl, hk, hf, ⟨e, hT, HV, kh⟩, B2, B3, B5, B6, HL, hNw⟩
    repeat refine seq ?_
    refine regn 1 hf (by decide +kernel) ?_
    refine st (lss rfl rfl) ?_
    refine en fun a w e' hf => ?_
    replace hT := hT.ext e'
    replace HV := Dv.ex HV e'
    replace kh := kh.tr (Kh.ext e')
    replace HL := Dv.ex HL e'
    replace hNw := Nat.le_trans hNw e'.size
    replace e := Ext.tr e e'
    replace B2 := B2.ext e'
    replace B3 := B3.ext e'
    replace B5 := B5.ext e'
    replace B6 := B6.ext e'
    clear e'
    refine tl_nil ?_
    repeat refine seq ?_
    refine ifc hf rfl (fun hc => wskip ?_) (fun hc => wexit ?_)
    · have hlt : k < ls.length := by have := of_decide_eq_true hc; omega
      clear hc
      simp only [Exit.then, Exit.inBlock, ↓reduceIte]
      obtain ⟨C, hC⟩ : ∃ C, ls[k]? = some C := ⟨_, List.getElem?_eq_getElem hlt⟩
      repeat refine seq ?_
      refine blk ?_
      repeat refine seq ?_
      refine regn0 ?_
      refine tl_op hf (by decide) (idxD Tryz.underlying106 S67 (isE rfl HL) rfl (by omega) (hC)) fun a w e' hf => ?_
      replace hT := hT.ext e'
      replace HV := Dv.ex HV e'
      replace kh := kh.tr (Kh.ext e')
      replace HL := Dv.ex HL e'
      replace hNw := Nat.le_trans hNw e'.size
      replace e := Ext.tr e e'
      replace B2 := B2.ext e'
      replace B3 := B3.ext e'
      replace B5 := B5.ext e'
      replace B6 := B6.ext e'
      clear e'
      refine tl_op hf (by decide) (ldS T67 (isR rfl)) fun a w e' hf => ?_
      replace hT := hT.ext e'
      replace HV := Dv.ex HV e'
      replace kh := kh.tr (Kh.ext e')
      replace HL := Dv.ex HL e'
      replace hNw := Nat.le_trans hNw e'.size
      replace e := Ext.tr e e'
      replace B2 := B2.ext e'
      replace B3 := B3.ext e'
      replace B5 := B5.ext e'
      replace B6 := B6.ext e'
      clear e'
      replace hf := hf.keep [2, 3, 5, 6, 7, 8, 17, 18, 19, 22]
      dsimp only [keep, List.filterMap, look, Nat.beq, Option.map] at hf
      refine tl_alloc I67 hf (by decide) fun a b10 w e' hb10 hs10 B10 hf => ?_
      have hle10 := Nat.le_trans e.size (Nat.le_of_eq hb10.symm)
      have lo10_hNw := Nat.le_trans hNw (Nat.le_of_eq hb10.symm)
      have lt10_B2 := B2.lt
      have lt10_B3 := B3.lt
      have lt10_B5 := B5.lt
      have lt10_B6 := B6.lt
      replace hT := hT.ext e'
      replace HV := Dv.ex HV e'
      replace kh := kh.tr (Kh.ext e')
      replace HL := Dv.ex HL e'
      replace hNw := Nat.le_trans hNw e'.size
      replace e := Ext.tr e e'
      replace B2 := B2.ext e'
      replace B3 := B3.ext e'
      replace B5 := B5.ext e'
      replace B6 := B6.ext e'
      clear e'
      haveI hinr : ∀ G0, InR (GB W G0) (some b10) := fun G0 => InR.gb (by omega)
      refine tl_stW T67 hf rfl rfl (wordsC_one _) B10 rfl (rfl) fun w hg hsz B10 hf => ?_
      replace hT := hT.gr hg (by omega)
      replace HV := Dv.gr HV hg (.inr (by omega))
      replace kh := kh.tr (Kh.gr hg (fun hh => by have := hh.1; have := hh.2; omega))
      replace HL := Dv.gr HL hg (by omega)
      replace hNw := Nat.le_trans hNw (Nat.le_of_eq hsz.symm)
      replace e := e.gr hg (by omega)
      replace B2 := B2.gr hg (by omega)
      replace B3 := B3.gr hg (by omega)
      replace B5 := B5.gr hg (by omega)
      replace B6 := B6.gr hg (by omega)
      clear hg
      refine tl_nil ?_
      replace B10 : Blk w b10 (setC C) 67 := B10
      have hm1 := mTo_succ hC
      have hcC : card C ≤ 1024 := card_le_n fun i hi => bit_lt hi
      repeat refine seq ?_
      refine regn 4 hf (by decide +kernel) ?_
      refine st (mv rfl) ?_
      refine st (ldW T67 rfl B10 rfl) ?_
      refine st (call1 En77 rfl (fun v w he h => by cases h; exact len_spec _ w)) ?_
      refine st ((max2 rfl rfl).eq (congrArg (Value.int .i64) (show max ((mTo ls k : Nat) : Int) (card C : Nat) = ((mTo ls (k + 1) : Nat) : Int) from by rw [hm1]; omega))) ?_
      refine en fun a w e' hf => ?_
      replace hT := hT.ext e'
      replace HV := Dv.ex HV e'
      replace kh := kh.tr (Kh.ext e')
      replace HL := Dv.ex HL e'
      replace hNw := Nat.le_trans hNw e'.size
      replace e := Ext.tr e e'
      replace B2 := B2.ext e'
      replace B3 := B3.ext e'
      replace B5 := B5.ext e'
      replace B6 := B6.ext e'
      replace B10 := B10.ext e'
      clear e'
      refine tl_as hf rfl (by decide) fun a hf => ?_
      refine tl_nil ?_
      try simp only [Exit.then, Exit.inBlock, ↓reduceIte]
      replace hf := hf.keep [2, 3, 5, 6, 7, 8, 17, 18, 19]
      dsimp only [keep, List.filterMap, look, Nat.beq, Option.map] at hf
      repeat refine seq ?_
      refine regn 1 hf (by decide +kernel) ?_
      refine st ((add rfl rfl (by omega)).eq (congrArg (Value.int .i64) (show (k : Int) + 1 = ((k + 1 : Nat) : Int) from rfl))) ?_
      refine en fun a w e' hf => ?_
      replace hT := hT.ext e'
      replace HV := Dv.ex HV e'
      replace kh := kh.tr (Kh.ext e')
      replace HL := Dv.ex HL e'
      replace hNw := Nat.le_trans hNw e'.size
      replace e := Ext.tr e e'
      replace B2 := B2.ext e'
      replace B3 := B3.ext e'
      replace B5 := B5.ext e'
      replace B6 := B6.ext e'
      replace B10 := B10.ext e'
      clear e'
      refine tl_op hf (by decide) (mv rfl) fun a w e' hf => ?_
      replace hT := hT.ext e'
      replace HV := Dv.ex HV e'
      replace kh := kh.tr (Kh.ext e')
      replace HL := Dv.ex HL e'
      replace hNw := Nat.le_trans hNw e'.size
      replace e := Ext.tr e e'
      replace B2 := B2.ext e'
      replace B3 := B3.ext e'
      replace B5 := B5.ext e'
      replace B6 := B6.ext e'
      replace B10 := B10.ext e'
      clear e'
      refine tl_nil ?_
      replace hf := hf.keep [2, 3, 5, 6, 7, 8, 17, 18, 19]
      dsimp only [keep, List.filterMap, look, Nat.beq, Option.map] at hf
      exact ⟨ls.length - (k + 1), by omega, k + 1, rfl, by omega, hf, ⟨e, hT, HV, kh⟩, B2, B3, B5, B6, HL, hNw⟩
    · obtain rfl : k = ls.length := by have := of_decide_eq_false hc; omega
      clear hc
      simp only [Exit.then, Exit.inBlock, ↓reduceIte]
      rw [← hmx] at hf
      replace hf := hf.keep [2, 3, 5, 6, 7, 8]
      dsimp only [keep, List.filterMap, look, Nat.beq, Option.map] at hf
      have hst : ∀ c : Bool, c = decide ((cenTo fs part s).1 < 0 ∨ (mostB fs part x : Int) < (cenTo fs part s).2) → cenTo fs part (s ++ [x]) = if c = true then ((x : Int), (mostB fs part x : Int)) else cenTo fs part s := by
        intro c hc
        rw [cenTo_app, cenStep, hc]
        simp only [decide_eq_true_eq]
      obtain ⟨c, hcE⟩ : ∃ c, c = decide ((cenTo fs part s).1 < 0 ∨ (mostB fs part x : Int) < (cenTo fs part s).2) := ⟨_, rfl⟩
      replace hst := hst c hcE
      have hJn : ∀ (w : World), Ext W w → Tab w → (Dv (slE setE) (GB W Go.Mono.G0) fs).p fv w → Kh Bz w3 w → Blk w b2 #[fv] 107 → Blk w b3 (setC part) 67 → Blk w b5 #[I (cenTo fs part (s ++ [x])).1] 3 → Blk w b6 #[I (cenTo fs part (s ++ [x])).2] 3 →
          RJ W fs fv [(b2, #[fv], 107), (b3, setC part, 67), (b5, #[I (cenTo fs part (s ++ [x])).1], 3), (b6, #[I (cenTo fs part (s ++ [x])).2], 3)] [] w ∧ Kh Bz w3 w := fun w e hT HV kh B2 B3 B5 B6 => ⟨⟨e, hT, HV, ⟨B2, B3, B5, B6, trivial⟩, Ds.nil _⟩, kh⟩
      repeat refine seq ?_
      refine cut (J := fun a w => Fr 38 a w [(2, E (.pointer (some ⟨b2, 0, none⟩))), (3, E (.pointer (some ⟨b3, 0, none⟩))), (5, E (.pointer (some ⟨b5, 0, none⟩))), (6, E (.pointer (some ⟨b6, 0, none⟩))), (7, E (I (x : Nat))), (8, E (I (mostB fs part x : Nat))), (34, E (B c))] ∧ Ext W w ∧ Tab w ∧ (Dv (slE setE) (GB W Go.Mono.G0) fs).p fv w ∧ Kh Bz w3 w ∧ Blk w b2 #[fv] 107 ∧ Blk w b3 (setC part) 67 ∧ Blk w b5 #[I (cenTo fs part s).1] 3 ∧ Blk w b6 #[I (cenTo fs part s).2] 3) ?_ (fun a w hJ => ?_)
      · cases h1 : decide ((cenTo fs part s).1 < 0)
        all_goals cases h2 : decide ((mostB fs part x : Int) < (cenTo fs part s).2)
        all_goals
          repeat refine seq ?_
          refine regn 7 hf (by decide +kernel) ?_
          refine st (ld1 T3 rfl B5 rfl) ?_
          refine st ((lss rfl rfl).eq (congrArg Value.bool (h1))) ?_
          refine st (mv rfl) ?_
          first | refine sn rfl rfl rfl ?_ | refine sy rfl rfl (mv rfl) ?_
          first | refine sn rfl rfl rfl ?_ | refine sy rfl rfl (ld1 T3 rfl B6 rfl) ?_
          first | refine sn rfl rfl rfl ?_ | refine sy rfl rfl ((lss rfl rfl).eq (congrArg Value.bool (h2))) ?_
          first | refine st ((pkT rfl rfl).eq (show Value.bool _ = B c from congrArg Value.bool (by rw [hcE, Bool.decide_or, h1, h2]; rfl))) ?_ | refine st ((pkF rfl rfl).eq (show Value.bool _ = B c from congrArg Value.bool (by rw [hcE, Bool.decide_or, h1, h2]; rfl))) ?_
          refine en fun a w e' hf => ?_
          replace hT := hT.ext e'
          replace HV := Dv.ex HV e'
          replace kh := kh.tr (Kh.ext e')
          replace e := Ext.tr e e'
          replace B2 := B2.ext e'
          replace B3 := B3.ext e'
          replace B5 := B5.ext e'
          replace B6 := B6.ext e'
          clear e'
          refine tl_nil ?_
          replace hf := hf.keep [2, 3, 5, 6, 7, 8, 34]
          dsimp only [keep, List.filterMap, look, Nat.beq, Option.map] at hf
          exact ⟨rfl, hf, e, hT, HV, kh, B2, B3, B5, B6⟩
      clear hf e hT HV kh B2 B3 B5 B6
      obtain ⟨hf, e, hT, HV, kh, B2, B3, B5, B6⟩ := hJ
      try simp only [Exit.then]
      have hl5 := B5.lt
      repeat refine seq ?_
      refine ifc hf rfl (fun hb => ?_) (fun hb => ?_)
      · rw [hb, if_pos rfl] at hst
        repeat refine seq ?_
        refine regn 2 hf (by decide +kernel) ?_
        refine st (mv rfl) ?_
        refine st (mv rfl) ?_
        refine en fun a w e' hf => ?_
        replace hT := hT.ext e'
        replace HV := Dv.ex HV e'
        replace kh := kh.tr (Kh.ext e')
        replace e := Ext.tr e e'
        replace B2 := B2.ext e'
        replace B3 := B3.ext e'
        replace B5 := B5.ext e'
        replace B6 := B6.ext e'
        clear e'
        haveI hinr : ∀ G0, InR (GB W G0) (some b5) := fun G0 => InR.gb (by omega)
        refine tl_st1 T3 hf rfl rfl rfl B5 (by exact Nat.zero_lt_one) fun w hg hsz B5 hf => ?_
        replace hT := hT.gr hg (by omega)
        replace HV := Dv.gr HV hg (.inr (by omega))
        replace kh := kh.tr (Kh.gr hg (fun hh => by have := hh.1; have := hh.2; omega))
        replace e := e.gr hg (by omega)
        replace B2 := B2.gr hg (by omega)
        replace B3 := B3.gr hg (by omega)
        replace B6 := B6.gr hg (by omega)
        clear hg
        haveI hinr : ∀ G0, InR (GB W G0) (some b6) := fun G0 => InR.gb (by omega)
        refine tl_st1 T3 hf rfl rfl rfl B6 (by exact Nat.zero_lt_one) fun w hg hsz B6 hf => ?_
        replace hT := hT.gr hg (by omega)
        replace HV := Dv.gr HV hg (.inr (by omega))
        replace kh := kh.tr (Kh.gr hg (fun hh => by have := hh.1; have := hh.2; omega))
        replace e := e.gr hg (by omega)
        replace B2 := B2.gr hg (by omega)
        replace B3 := B3.gr hg (by omega)
        replace B5 := B5.gr hg (by omega)
        clear hg
        refine tl_nil ?_
        simp only [Exit.inBlock]
        refine hJn w e hT HV kh B2 B3 ?_ ?_
        · rw [hst]; exact B5
        · rw [hst]; exact B6
      · rw [hb, if_neg (by decide)] at hst
        refine wskip ?_
        simp only [Exit.inBlock]
        refine hJn w e hT HV kh B2 B3 ?_ ?_
        · rw [hst]; exact B5
        · rw [hst]; exact B6
  · intro a' w' hf' hJ hsz hDn
    simp only [Exit.inBlock, ↓reduceIte, Exit.then]
    have hD : Ds [w.heap.size] w' := (Ds.nil w').cons hDn (by simp)
    have hf : FrD 38 (marks [w.heap.size]) a' w' [(5, E (.pointer (some ⟨b5, 0, none⟩)))] := hf'.keep [5]
    have hDW : ∀ d ∈ [w.heap.size], W.heap.size ≤ d := fun d hd => by rw [List.mem_singleton] at hd; omega
    clear hf' e hT HV B2 B3 B5 B6 BS hDn
    obtain ⟨e, hT, HV, ⟨B2, B3, B5, B6, _⟩, _⟩ := hJ
    generalize [w.heap.size] = D2 at *
    generalize w' = w at *
    repeat refine seq ?_
    refine regn 1 hf (by decide +kernel) ?_
    refine st (ld1 T3 rfl B5 rfl) ?_
    refine en fun a w e' hf => ?_
    replace e := Ext.tr e e'
    replace B5 := B5.ext e'
    replace hD := hD.ext e'
    clear e'
    refine tl_as hf rfl (by decide) fun a hf => ?_
    refine tl_nil ?_
    refine wret ?_
    try simp only [Exit.then, Exit.inBlock]
    exact ret1M rfl hf rfl hD ⟨_, rfl, e.shut hDW, rfl⟩
end Go.Mono

namespace Go.Mono
open Go Go.Proofs Go.RowKit

/-- where the search for the next bag stands -/
structure PAJ (W : World) (fs : List BS) (fv : Value) (b4 b5 b6 b7 b8 b9 y z : Nat) (part r : BS) (D : List Nat) (w : World) : Prop where
  e : Ext W w
  t : Tab w
  hv : (Dv (slE setE) (GB W Go.Mono.G0) fs).p fv w
  b4 : Blk w b4 #[fv] 107
  b5 : Blk w b5 (setC part) 67
  b6 : Blk w b6 #[I (z : Nat)] 3
  b7 : Blk w b7 #[I (y : Nat)] 3
  b8 : Blk w b8 (setC 0) 67
  b9 : Blk w b9 (setC r) 67
  ds : Ds D w
theorem PAJ.kp {W : World} {fs : List BS} {fv : Value} {b4 b5 b6 b7 b8 b9 y z : Nat} {part r : BS} {D : List Nat} {B : Nat} {w w' : World} (h : PAJ W fs fv b4 b5 b6 b7 b8 b9 y z part r D w) (k : Kp B w w') (hW : W.heap.size ≤ B) (h0 : 0 < B) (l4 : b4 < B) (l5 : b5 < B) (l6 : b6 < B) (l7 : b7 < B) (l8 : b8 < B) (l9 : b9 < B) (hD : ∀ d ∈ D, d < B) :
    PAJ W fs fv b4 b5 b6 b7 b8 b9 y z part r D w' :=
  have no : ∀ {b}, b < B → ¬Hole B b := fun h hh => by have := hh.1; omega
  ⟨h.e.kp k hW, h.t.kp k h0, Dv.ch h.hv k.chg (fun b hb => .inr (by have := hb.1; omega)), h.b4.kp k (no l4), h.b5.kp k (no l5), h.b6.kp k (no l6), h.b7.kp k (no l7), h.b8.kp k (no l8), h.b9.kp k (no l9), h.ds.ch k.chg fun d hd => no (hD d hd)⟩

theorem path_spec {G2 : Nat → Prop} {T : Tr} {fs : List BS} (F : Fo fs T) (part : BS) (x y : Nat) (fv : Value) (W : World) (hT : Tab W) (h : (Dv (slE setE) G2 fs).p fv W) (hin : ∀ i, part.getLsbD i = true → i < T.n) (hC : T.conn (bits part)) (hx : part.getLsbD x = true) (hy : part.getLsbD y = true) :
    Calls Tryz.prog 115 #[fv, setV part, I (x : Nat), I (y : Nat)] W (Post (E (setV (pathB fs part x y))) W) := by
  have HV : (Dv (slE setE) (GB W Go.Mono.G0) fs).p fv W := Dv.toB (Dv.weak h fun b _ hb => hb.elim)
  clear h
  have hT0 := hT.lt
  have h1 := one_cells (Dv.slOne HV)
  have hxn := hin x hx
  have hyn := hin y hy
  have hle := F.le
  refine enterM (args := [fv, setV part, I (x : Nat), I (y : Nat)]) (As := [E fv, E (setV part), E (I (x : Nat)), E (I (y : Nat))]) Tryz.func115 rfl Tryz.ntmps115 (Nat.le_of_ble_eq_true rfl) ?_ (fun a hf => ?_) (Nat.le_of_ble_eq_true rfl)
  · exact argC rfl (argC rfl (argC rfl (argC rfl argZ)))
  dsimp only [params, Nat.reduceAdd] at hf
  have e := Ext.rfl' W
  repeat refine seq ?_
  refine regn0 ?_
  refine tl_box hf rfl (by decide) fun a b4 w v4 hv4 e' hb4 hs4 B4 hf => ?_
  have hle4 := Nat.le_trans e.size (Nat.le_of_eq hb4.symm)
  replace hT := hT.ext e'
  replace HV := Dv.ex HV e'
  replace e := Ext.tr e e'
  clear e'
  refine tl_box hf rfl (by decide) fun a b5 w v5 hv5 e' hb5 hs5 B5 hf => ?_
  have hle5 := Nat.le_trans e.size (Nat.le_of_eq hb5.symm)
  have lt5_B4 := B4.lt
  replace hT := hT.ext e'
  replace HV := Dv.ex HV e'
  replace e := Ext.tr e e'
  replace B4 := B4.ext e'
  clear e'
  refine tl_box hf rfl (by decide) fun a b6 w v6 hv6 e' hb6 hs6 B6 hf => ?_
  have hle6 := Nat.le_trans e.size (Nat.le_of_eq hb6.symm)
  have lt6_B4 := B4.lt
  have lt6_B5 := B5.lt
  replace hT := hT.ext e'
  replace HV := Dv.ex HV e'
  replace e := Ext.tr e e'
  replace B4 := B4.ext e'
  replace B5 := B5.ext e'
  clear e'
  refine tl_box hf rfl (by decide) fun a b7 w v7 hv7 e' hb7 hs7 B7 hf => ?_
  have hle7 := Nat.le_trans e.size (Nat.le_of_eq hb7.symm)
  have lt7_B4 := B4.lt
  have lt7_B5 := B5.lt
  have lt7_B6 := B6.lt
  replace hT := hT.ext e'
  replace HV := Dv.ex HV e'
  replace e := Ext.tr e e'
  replace B4 := B4.ext e'
  replace B5 := B5.ext e'
  replace B6 := B6.ext e'
  clear e'
  refine tl_alloc I67 hf (by decide) fun a b8 w e' hb8 hs8 B8 hf => ?_
  have hle8 := Nat.le_trans e.size (Nat.le_of_eq hb8.symm)
  have lt8_B4 := B4.lt
  have lt8_B5 := B5.lt
  have lt8_B6 := B6.lt
  have lt8_B7 := B7.lt
  replace hT := hT.ext e'
  replace HV := Dv.ex HV e'
  replace e := Ext.tr e e'
  replace B4 := B4.ext e'
  replace B5 := B5.ext e'
  replace B6 := B6.ext e'
  replace B7 := B7.ext e'
  clear e'
  refine tl_nil ?_
  cases hv4
  cases hv5
  cases hv6
  cases hv7
  rw [h1] at B4
  replace B5 : Blk w b5 (setC part) 67 := B5
  replace B6 : Blk w b6 #[I (x : Nat)] 3 := B6
  replace B7 : Blk w b7 #[I (y : Nat)] 3 := B7
  simp only [Value.cells, zeroC] at B8
  have n8 : W.heap.size ≤ b4 ∧ W.heap.size ≤ b5 ∧ W.heap.size ≤ b6 ∧ W.heap.size ≤ b7 ∧ W.heap.size ≤ b8 ∧ b5 ≠ b4 ∧ b6 ≠ b4 ∧ b6 ≠ b5 ∧ b7 ≠ b4 ∧ b7 ≠ b5 ∧ b7 ≠ b6 ∧ b8 ≠ b4 ∧ b8 ≠ b5 ∧ b8 ≠ b6 ∧ b8 ≠ b7 := by omega
  have l4 := B4.lt
  have l5 := B5.lt
  have l6 := B6.lt
  have l7 := B7.lt
  have l8 := B8.lt
  replace hf := hf.keep [4, 5, 6, 7, 8]
  dsimp only [keep, List.filterMap, look, Nat.beq, Option.map] at hf
  repeat refine seq ?_
  refine regn 3 hf (by decide +kernel) ?_
  refine st (ld1 T3 rfl B6 rfl) ?_
  refine st (bsl1 (e := intE) (G := Go.Mono.G0) Tryz.underlying59 I3 rfl (by decide) rfl (fun b hb => hb.elim) (isI rfl)) ?_
  refine st ((call1 En29 rfl (fun v w he h => of_spec [(x : Int)] v w h (by simp))).eq (congrArg setV (fold1 (x : Int) 0))) ?_
  refine en fun a w e' hf => ?_
  replace hT := hT.ext e'
  replace HV := Dv.ex HV e'
  replace e := Ext.tr e e'
  replace B4 := B4.ext e'
  replace B5 := B5.ext e'
  replace B6 := B6.ext e'
  replace B7 := B7.ext e'
  replace B8 := B8.ext e'
  clear e'
  replace hf := hf.keep [4, 5, 6, 7, 8, 13]
  dsimp only [keep, List.filterMap, look, Nat.beq, Option.map] at hf
  refine tl_alloc I67 hf (by decide) fun a b9 w e' hb9 hs9 B9 hf => ?_
  have hle9 := Nat.le_trans e.size (Nat.le_of_eq hb9.symm)
  have lt9_B4 := B4.lt
  have lt9_B5 := B5.lt
  have lt9_B6 := B6.lt
  have lt9_B7 := B7.lt
  have lt9_B8 := B8.lt
  replace hT := hT.ext e'
  replace HV := Dv.ex HV e'
  replace e := Ext.tr e e'
  replace B4 := B4.ext e'
  replace B5 := B5.ext e'
  replace B6 := B6.ext e'
  replace B7 := B7.ext e'
  replace B8 := B8.ext e'
  clear e'
  haveI hinr : ∀ G0, InR (GB W G0) (some b9) := fun G0 => InR.gb (by omega)
  refine tl_stW T67 hf rfl rfl (wordsC_one _) B9 rfl (rfl) fun w hg hsz B9 hf => ?_
  replace hT := hT.gr hg (by omega)
  replace HV := Dv.gr HV hg (.inr (by omega))
  replace e := e.gr hg (by omega)
  replace B4 := B4.gr hg (by omega)
  replace B5 := B5.gr hg (by omega)
  replace B6 := B6.gr hg (by omega)
  replace B7 := B7.gr hg (by omega)
  replace B8 := B8.gr hg (by omega)
  clear hg
  refine tl_nil ?_
  replace hf := hf.keep [4, 5, 6, 7, 8, 9]
  dsimp only [keep, List.filterMap, look, Nat.beq, Option.map] at hf
  have n9 : b9 ≠ b4 ∧ b9 ≠ b5 ∧ b9 ≠ b6 ∧ b9 ≠ b7 ∧ b9 ≠ b8 ∧ W.heap.size ≤ b9 := by omega
  have hr0 : ∀ i, (ins 0 (x : Int)).getLsbD i = true ↔ T.P i x x := fun i => by
    rw [bit_ins 0 (by omega), P_self hxn]
    exact ⟨fun h => h.resolve_left (bit_zero i), .inr⟩
  repeat refine seq ?_
  refine blk (loopN (fun r0 a w => ∃ (z : Nat) (r : BS) (D : List Nat), r0 = T.dist z y ∧ part.getLsbD z = true ∧ (∀ i, r.getLsbD i = true ↔ T.P i x z) ∧ T.P z x y ∧ FrD 40 (marks D) a w [(4, E (.pointer (some ⟨b4, 0, none⟩))), (5, E (.pointer (some ⟨b5, 0, none⟩))), (6, E (.pointer (some ⟨b6, 0, none⟩))), (7, E (.pointer (some ⟨b7, 0, none⟩))), (8, E (.pointer (some ⟨b8, 0, none⟩))), (9, E (.pointer (some ⟨b9, 0, none⟩)))] ∧
    PAJ W fs fv b4 b5 b6 b7 b8 b9 y z part r D w ∧ ∀ d ∈ D, W.heap.size ≤ d) (T.dist x y) ⟨x, ins 0 (x : Int), [], rfl, hx, hr0, Tr.P.left, hf, ⟨e, hT, HV, B4, B5, B6, B7, B8, B9, Ds.nil _⟩, fun d hd => by cases hd⟩ ?_)
  clear hf e hT HV B4 B5 B6 B7 B8 B9 l4 l5 l6 l7 l8
  rintro r0 a w ⟨z, r, D, rfl, hz, hr, hP, hf, ⟨e, hT, HV, B4, B5, B6, B7, B8, B9, hD⟩, hDW⟩
  have hzn := hin z hz
  repeat refine seq ?_
  refine regn 3 hf (by decide +kernel) ?_
  refine st (ld1 T3 rfl B6 rfl) ?_
  refine st (ld1 T3 rfl B7 rfl) ?_
  refine st (neq rfl rfl) ?_
  refine en fun a w e' hf => ?_
  replace hT := hT.ext e'
  replace HV := Dv.ex HV e'
  replace e := Ext.tr e e'
  replace B4 := B4.ext e'
  replace B5 := B5.ext e'
  replace B6 := B6.ext e'
  replace B7 := B7.ext e'
  replace B8 := B8.ext e'
  replace B9 := B9.ext e'
  replace hD := hD.ext e'
  clear e'
  refine tl_nil ?_
  repeat refine seq ?_
  refine ifc hf rfl (fun hc => wskip ?_) (fun hc => wexit ?_)
  rotate_left
  · have hzy : z = y := by
      have h1 : ((z : Nat) : Int) = (y : Nat) := by simpa using hc
      omega
    subst hzy
    simp only [Exit.then, Exit.inBlock, ↓reduceIte]
    obtain rfl : r = pathB fs part x z := set_ext' fun i => by rw [hr i, (path_some F hin hC hx hy).2 i]
    have n98 : b8 ≠ b9 := by omega
    have hD8 : ¬ b8 ∈ D := hD.ne B8
    replace hf := hf.keep [8, 9]
    dsimp only [keep, List.filterMap, look, Nat.beq, Option.map] at hf
    repeat refine seq ?_
    refine regn 1 hf (by decide +kernel) ?_
    refine st (ldW T67 rfl B9 rfl) ?_
    refine en fun a w e' hf => ?_
    replace e := Ext.tr e e'
    replace B8 := B8.ext e'
    replace B9 := B9.ext e'
    replace hD := hD.ext e'
    clear e'
    refine tl_stW T67 hf rfl rfl (wordsC_one _) B8 rfl (setC_size _) fun w hg hsz B8 hf => ?_
    replace e := e.gr hg (by omega)
    replace hD := hD.gr hg hD8
    clear hg
    refine tl_nil ?_
    refine wret ?_
    try simp only [Exit.then, Exit.inBlock]
    exact retcM rfl T67 hf rfl B8 (setC_size _) hD ⟨_, rfl, e.shut hDW, rfl⟩
  have hne : z ≠ y := by
    rintro rfl
    simp at hc
  clear hc
  obtain ⟨k, k1, k2, k3, k4, k5⟩ := path_next F hin hC hx hy hz hr hP hne
  generalize hS : (sg fs z &&& part) &&& ~~~r = S at k1
  have hzf : z < fs.length := by rw [F.len]; exact hzn
  have hdin := del_in (part := part) hin (z : Int)
  have hSd : ∀ n, S.getLsbD n = true → (del part (z : Int)).getLsbD n = true := fun n hn => by
    rw [← hS, bit_diff, bit_and, F.adj hzn] at hn
    rw [bit_del part (by omega)]
    exact ⟨hn.1.2, fun e => hn.1.1.2.symm.ne hn.1.1.1 e⟩
  simp only [Exit.then, Exit.inBlock, ↓reduceIte]
  obtain ⟨Nz, hNz⟩ : ∃ Nz, Nz = w.heap.size := ⟨_, rfl⟩
  repeat refine seq ?_
  refine blk ?_
  replace hf := hf.keep [4, 5, 6, 7, 8, 9]
  dsimp only [keep, List.filterMap, look, Nat.beq, Option.map] at hf
  repeat refine seq ?_
  refine reg 9 Mix.mix hf (by decide +kernel) ?_
  refine st (ld1 T107 rfl B4 rfl) ?_
  refine st (ld1 T3 rfl B6 rfl) ?_
  refine st (idxD Tryz.underlying107 S67 (isE rfl HV) rfl (by omega) (sg_get hzf)) ?_
  refine st (ldS T67 (isR rfl)) ?_
  refine st (ldW T67 rfl B5 rfl) ?_
  refine st (call2 En70 rfl rfl (fun v u w he h h' => by cases h; cases h'; exact inter_spec _ _ w)) ?_
  refine st (ldW T67 rfl B9 rfl) ?_
  refine st (call2 (A := E (setV S)) En82 rfl rfl (fun v u w he h h' => by cases h; cases h'; rw [← hS]; exact minus_spec _ _ w)) ?_
  refine st (call1 (A := SeqA Nz S) En58 rfl (fun v w' he h => by cases h; exact Calls.mono (all_spec _ w') (fun en w2 ⟨u, h1, h2, b', h3, h4, h5⟩ => ⟨u, h1, h2, b', by have := he.size; omega, h4, h5⟩))) ?_
  refine en fun a w e' hf => ?_
  replace hT := hT.ext e'
  replace HV := Dv.ex HV e'
  replace e := Ext.tr e e'
  replace B4 := B4.ext e'
  replace B5 := B5.ext e'
  replace B6 := B6.ext e'
  replace B7 := B7.ext e'
  replace B8 := B8.ext e'
  replace B9 := B9.ext e'
  replace hD := hD.ext e'
  clear e'
  refine tl_nil ?_
  obtain ⟨vv, ⟨b25, h25, rfl, BS⟩, hf⟩ := hf.fix 25 rfl
  replace hf := hf.keep [4, 5, 6, 7, 8, 9, 25]
  dsimp only [keep, List.filterMap, look, Nat.beq, Option.map] at hf
  have l4 := B4.lt
  have l5 := B5.lt
  have l6 := B6.lt
  have l7 := B7.lt
  have l8 := B8.lt
  have l9 := B9.lt
  have lD : ∀ d ∈ D, d < w.heap.size := fun d hd => hD.lt hd
  have hBW : W.heap.size ≤ w.heap.size := e.size
  have h0w : 0 < w.heap.size := hT.lt
  repeat refine seq ?_
  refine blk ?_
  refine range_all3 (S := S) hf rfl BS (by decide) (fun s w1 => PAJ W fs fv b4 b5 b6 b7 b8 b9 y z part r D w1 ∧ ∀ n ∈ s, (compB fs (del part (z : Int)) n).getLsbD y = false) (fun ex w1 => ex = .exit 2 ∧ PAJ W fs fv b4 b5 b6 b7 b8 b9 y k part r D w1) (fun s w1 h => h.1.t)
    ⟨⟨e, hT, HV, B4, B5, B6, B7, B8, B9, hD⟩, fun n hn => by cases hn⟩ (fun s w1 w2 h hs kk => ⟨h.1.kp kk hBW h0w l4 l5 l6 l7 l8 l9 lD, h.2⟩) (fun ex w1 w2 h hs kk => ⟨h.1, h.2.kp kk hBW h0w l4 l5 l6 l7 l8 l9 lD⟩) ?_ ?_ ?_
  · intro l s x' rest a1 w1 hs hJ hlw hf
    have hxS : S.getLsbD x' = true := (mem_elems.1 (by rw [hs]; simp)).2
    have hxd := hSd x' hxS
    generalize hBz : w.heap.size = Bz at *
    refine regn0 ?_
    refine tl_as hf rfl (by decide) fun a hf => ?_
    refine tl_nil ?_
    simp only [Exit.then]
    refine ⟨Kh.rfl' _ _, fun w3 k3' hsz3 => ?_⟩
    have hJ3 := hJ.1.kp k3' hBW h0w l4 l5 l6 l7 l8 l9 lD
    have hJn := hJ.2
    clear e hT HV B4 B5 B6 B7 B8 B9 BS hD hJ
    replace hf := hf.pure w3
    obtain ⟨e, hT, HV, B4, B5, B6, B7, B8, B9, hD⟩ := hJ3
    have kh := Kh.rfl' Bz w3
    replace hf := hf.keep [4, 5, 6, 7, 10]
    dsimp only [keep, List.filterMap, look, Nat.beq, Option.map] at hf
    repeat refine seq ?_
    refine blk ?_
    obtain ⟨c, hc⟩ : ∃ c, (compB fs (del part (z : Int)) x').getLsbD y = c := ⟨_, rfl⟩
    have hc2 : has (compB fs (del part (z : Int)) x') (y : Int) = c := by rw [← hc, Bool.eq_iff_iff]; exact has_bit _ y
    repeat refine seq ?_
    refine reg 8 Mix.mix hf (by decide +kernel) ?_
    refine st (ld1 (v := fv) T107 rfl B4 rfl) ?_
    refine st (mv rfl) ?_
    refine st (ldW T67 rfl B5 rfl) ?_
    refine st (ld1 T3 rfl B6 rfl) ?_
    refine st (call2 En117 rfl rfl (fun v u w he h h' => by cases h; cases h'; exact without_spec _ _ w)) ?_
    refine st (call3 (A := E (setV (compB fs (del part (z : Int)) x'))) En118 rfl rfl rfl (fun v u s w he h h' h'' => by cases h; cases h'; cases h''; exact comp_spec2 F x' _ fv w (hT.ext he) (Dv.ex HV he) hdin hxd)) ?_
    refine st (ld1 T3 rfl B7 rfl) ?_
    refine st ((call2 En75 rfl rfl (fun v u w he h h' => by cases h; cases h'; exact has_spec _ _ w)).eq (congrArg Value.bool (hc2))) ?_
    refine en fun a w e' hf => ?_
    replace hT := hT.ext e'
    replace HV := Dv.ex HV e'
    replace kh := kh.tr (Kh.ext e')
    replace e := Ext.tr e e'
    replace B4 := B4.ext e'
    replace B5 := B5.ext e'
    replace B6 := B6.ext e'
    replace B7 := B7.ext e'
    replace B8 := B8.ext e'
    replace B9 := B9.ext e'
    replace hD := hD.ext e'
    clear e'
    refine tl_nil ?_
    repeat refine seq ?_
    refine ifc hf rfl (fun hb => ?_) (fun hb => ?_)
    · have hxk : x' = k := by
        have h2 : (elems S).find? (fun n => (compB fs (del part (z : Int)) n).getLsbD y) = some x' := by
          rw [hs, List.find?_append]
          have h3 : s.find? (fun n => (compB fs (del part (z : Int)) n).getLsbD y) = none := by
            rw [List.find?_eq_none]
            intro n hn hh
            rw [hJn n hn] at hh; cases hh
          rw [h3, List.find?_cons, hc, hb]; rfl
        rw [h2] at k1
        exact Option.some.inj k1
      subst hxk
      have hD6 : ¬ b6 ∈ D := hD.ne B6
      repeat refine seq ?_
      refine regn 1 hf (by decide +kernel) ?_
      refine st (mv rfl) ?_
      refine en fun a w e' hf => ?_
      replace hT := hT.ext e'
      replace HV := Dv.ex HV e'
      replace kh := kh.tr (Kh.ext e')
      replace hD := hD.ext e'
      replace e := Ext.tr e e'
      replace B4 := B4.ext e'
      replace B5 := B5.ext e'
      replace B6 := B6.ext e'
      replace B7 := B7.ext e'
      replace B8 := B8.ext e'
      replace B9 := B9.ext e'
      clear e'
      refine tl_st1 T3 hf rfl rfl rfl B6 (by exact Nat.zero_lt_one) fun w hg hsz B6 hf => ?_
      replace hT := hT.gr hg (by omega)
      replace HV := Dv.gr HV hg (.inr (by omega))
      replace kh := kh.tr (Kh.gr hg (fun hh => by have := hh.1; omega))
      replace hD := hD.gr hg hD6
      replace e := e.gr hg (by omega)
      replace B4 := B4.gr hg (by omega)
      replace B5 := B5.gr hg (by omega)
      replace B7 := B7.gr hg (by omega)
      replace B8 := B8.gr hg (by omega)
      replace B9 := B9.gr hg (by omega)
      clear hg
      refine tl_nil ?_
      refine wexit ?_
      simp only [Exit.then, Exit.inBlock]
      exact ⟨⟨rfl, e, hT, HV, B4, B5, B6, B7, B8, B9, hD⟩, kh⟩
    · refine wskip ?_
      simp only [Exit.inBlock]
      exact ⟨⟨⟨e, hT, HV, B4, B5, B6, B7, B8, B9, hD⟩, fun n hn => by
        rcases List.mem_append.1 hn with h | h
        · exact hJn n h
        · rw [List.mem_singleton] at h; subst h; rw [hc, hb]⟩, kh⟩
  · intro a' w' _ hJ _ _
    have h1 := List.find?_some k1
    have h2 := hJ.2 k (List.mem_of_find?_eq_some k1)
    try simp only at h1
    rw [h2] at h1; cases h1
  · intro ex c a' w' hcd hf' hX hsz hDn
    obtain ⟨rfl, hJ⟩ := hX
    simp only [Exit.inBlock, ↓reduceIte, Exit.then]
    have hD2 : Ds (w.heap.size :: D) w' := hJ.ds.cons hDn fun hm => Nat.lt_irrefl _ (lD _ hm)
    have hf : FrD 40 (marks (w.heap.size :: D)) a' w' [(4, E (.pointer (some ⟨b4, 0, none⟩))), (5, E (.pointer (some ⟨b5, 0, none⟩))), (6, E (.pointer (some ⟨b6, 0, none⟩))), (7, E (.pointer (some ⟨b7, 0, none⟩))), (8, E (.pointer (some ⟨b8, 0, none⟩))), (9, E (.pointer (some ⟨b9, 0, none⟩)))] := hf'.keep [4, 5, 6, 7, 8, 9]
    have hDW2 : ∀ d ∈ w.heap.size :: D, W.heap.size ≤ d := fun d hd => by
      rcases List.mem_cons.1 hd with rfl | hd
      · exact hBW
      · exact hDW d hd
    clear hf' e hT HV B4 B5 B6 B7 B8 B9 BS hD hDn hDW
    obtain ⟨e, hT, HV, B4, B5, B6, B7, B8, B9, _⟩ := hJ
    replace hD := hD2
    clear hD2
    generalize w.heap.size :: D = D2 at *
    generalize w' = w at *
    have hD9 : ¬ b9 ∈ D2 := hD.ne B9
    repeat refine seq ?_
    refine regn 3 hf (by decide +kernel) ?_
    refine st (ldW T67 rfl B9 rfl) ?_
    refine st (ld1 T3 rfl B6 rfl) ?_
    refine st (call2 En87 rfl rfl (fun v u w he h h' => by cases h; cases h'; exact with_spec _ _ w)) ?_
    refine en fun a w e' hf => ?_
    replace hT := hT.ext e'
    replace HV := Dv.ex HV e'
    replace hD := hD.ext e'
    replace e := Ext.tr e e'
    replace B4 := B4.ext e'
    replace B5 := B5.ext e'
    replace B6 := B6.ext e'
    replace B7 := B7.ext e'
    replace B8 := B8.ext e'
    replace B9 := B9.ext e'
    clear e'
    haveI hinr : ∀ G0, InR (GB W G0) (some b9) := fun G0 => InR.gb (by omega)
    refine tl_stW T67 hf rfl rfl (wordsC_one _) B9 rfl (rfl) fun w hg hsz B9 hf => ?_
    replace hT := hT.gr hg (by omega)
    replace HV := Dv.gr HV hg (.inr (by omega))
    replace hD := hD.gr hg hD9
    replace e := e.gr hg (by omega)
    replace B4 := B4.gr hg (by omega)
    replace B5 := B5.gr hg (by omega)
    replace B6 := B6.gr hg (by omega)
    replace B7 := B7.gr hg (by omega)
    replace B8 := B8.gr hg (by omega)
    clear hg
    refine tl_nil ?_
    replace hf := hf.keep [4, 5, 6, 7, 8, 9]
    dsimp only [keep, List.filterMap, look, Nat.beq, Option.map] at hf
    exact ⟨T.dist k y, k5, k, ins r (k : Int), D2, rfl, k2, k3, k4, hf, ⟨e, hT, HV, B4, B5, B6, B7, B8, B9, hD⟩, hDW2⟩
end Go.Mono

namespace Go.Mono
open Go Go.Proofs Go.RowKit

def endsI (fs : List BS) (part : BS) (s : List Nat) : List Int := s.map fun n => ((endB fs part n : Nat) : Int)
/-- where the loop over the bags outside stands -/
structure SLJ (W : World) (fs : List BS) (fv : Value) (x3 x4 x5 x6 x7 x8 c : Nat) (part out : BS) (xs : List Int) (B : Nat) (w : World) : Prop where
  e : Ext W w
  t : Tab w
  hv : (Dv (slE setE) (GB W Go.Mono.G0) fs).p fv w
  b3 : Blk w x3 #[fv] 107
  b4 : Blk w x4 (setC part) 67
  b5 : Blk w x5 (setC out) 67
  b6 : Blk w x6 #[I 0] 3
  b7 : Blk w x7 #[I (c : Nat)] 3
  q : ∃ u, Blk w x8 #[u] 59 ∧ OwR intE 3 W.heap.size Go.Mono.G0 w xs u ∧ (∀ g, u.ownBlock = some g → ¬Hole B g) ∧ u.ownBlock ≠ some x6 ∧ u.ownBlock ≠ some x7
theorem SLJ.kp {W : World} {fs : List BS} {fv : Value} {b3 b4 b5 b6 b7 b8 c : Nat} {part out : BS} {xs : List Int} {B : Nat} {w w' : World} (h : SLJ W fs fv b3 b4 b5 b6 b7 b8 c part out xs B w) (k : Kp B w w') (hW : W.heap.size ≤ B) (h0 : 0 < B) (l3 : b3 < B) (l4 : b4 < B) (l5 : b5 < B) (l6 : b6 < B) (l7 : b7 < B) (l8 : b8 < B) :
    SLJ W fs fv b3 b4 b5 b6 b7 b8 c part out xs B w' :=
  have no : ∀ {b}, b < B → ¬Hole B b := fun h hh => by have := hh.1; omega
  ⟨h.e.kp k hW, h.t.kp k h0, Dv.ch h.hv k.chg (fun b hb => .inr (by have := hb.1; omega)), h.b3.kp k (no l3), h.b4.kp k (no l4), h.b5.kp k (no l5), h.b6.kp k (no l6), h.b7.kp k (no l7), by
    obtain ⟨u, h1, h2, h3, h4⟩ := h.q
    exact ⟨u, h1.kp k (no l8), h2.chE k.chg h3, h3, h4⟩⟩

theorem spl_spec {G2 : Nat → Prop} {T : Tr} {fs : List BS} (F : Fo fs T) (part : BS) (fv : Value) (W : World) (hT : Tab W) (h : (Dv (slE setE) G2 fs).p fv W) (hin : ∀ i, part.getLsbD i = true → i < T.n) (hC : T.conn (bits part)) {p0 : Nat} (hp0 : part.getLsbD p0 = true) :
    Calls Tryz.prog 57 #[fv, setV part, setV (outM fs part)] W (Post (E (I (splB fs part (outM fs part) : Nat))) W) := by
  have HV : (Dv (slE setE) (GB W Go.Mono.G0) fs).p fv W := Dv.toB (Dv.weak h fun b _ hb => hb.elim)
  clear h
  have hT0 := hT.lt
  have h1 := one_cells (Dv.slOne HV)
  obtain ⟨hc, hcE, _⟩ := cen_ok (fs := fs) hp0
  have hcn := hin _ hc
  have hle := F.le
  refine enterM (args := [fv, setV part, setV (outM fs part)]) (As := [E fv, E (setV part), E (setV (outM fs part))]) Tryz.func57 rfl Tryz.ntmps57 (Nat.le_of_ble_eq_true rfl) ?_ (fun a hf => ?_) (Nat.le_of_ble_eq_true rfl)
  · exact arg3 rfl rfl rfl
  dsimp only [params, Nat.reduceAdd] at hf
  have e := Ext.rfl' W
  repeat refine seq ?_
  refine regn0 ?_
  refine tl_box hf rfl (by decide) fun a b3 w v3 hv3 e' hb3 hs3 B3 hf => ?_
  have hle3 := Nat.le_trans e.size (Nat.le_of_eq hb3.symm)
  replace hT := hT.ext e'
  replace HV := Dv.ex HV e'
  replace e := Ext.tr e e'
  clear e'
  refine tl_box hf rfl (by decide) fun a b4 w v4 hv4 e' hb4 hs4 B4 hf => ?_
  have hle4 := Nat.le_trans e.size (Nat.le_of_eq hb4.symm)
  have lt4_B3 := B3.lt
  replace hT := hT.ext e'
  replace HV := Dv.ex HV e'
  replace e := Ext.tr e e'
  replace B3 := B3.ext e'
  clear e'
  refine tl_box hf rfl (by decide) fun a b5 w v5 hv5 e' hb5 hs5 B5 hf => ?_
  have hle5 := Nat.le_trans e.size (Nat.le_of_eq hb5.symm)
  have lt5_B3 := B3.lt
  have lt5_B4 := B4.lt
  replace hT := hT.ext e'
  replace HV := Dv.ex HV e'
  replace e := Ext.tr e e'
  replace B3 := B3.ext e'
  replace B4 := B4.ext e'
  clear e'
  refine tl_alloc I3 hf (by decide) fun a b6 w e' hb6 hs6 B6 hf => ?_
  have hle6 := Nat.le_trans e.size (Nat.le_of_eq hb6.symm)
  have lt6_B3 := B3.lt
  have lt6_B4 := B4.lt
  have lt6_B5 := B5.lt
  replace hT := hT.ext e'
  replace HV := Dv.ex HV e'
  replace e := Ext.tr e e'
  replace B3 := B3.ext e'
  replace B4 := B4.ext e'
  replace B5 := B5.ext e'
  clear e'
  refine tl_nil ?_
  cases hv3
  cases hv4
  cases hv5
  rw [h1] at B3
  replace B4 : Blk w b4 (setC part) 67 := B4
  replace B5 : Blk w b5 (setC (outM fs part)) 67 := B5
  replace B6 : Blk w b6 #[I 0] 3 := B6
  have n6 : W.heap.size ≤ b3 ∧ W.heap.size ≤ b4 ∧ W.heap.size ≤ b5 ∧ W.heap.size ≤ b6 ∧ b4 ≠ b3 ∧ b5 ≠ b3 ∧ b5 ≠ b4 ∧ b6 ≠ b3 ∧ b6 ≠ b4 ∧ b6 ≠ b5 := by omega
  generalize hres : splB fs part (outM fs part) = res
  generalize hout : outM fs part = out at *
  generalize hcc : cenB fs part = c at *
  have l3 := B3.lt
  have l4 := B4.lt
  have l5 := B5.lt
  have l6 := B6.lt
  replace hf := hf.keep [3, 4, 5, 6]
  dsimp only [keep, List.filterMap, look, Nat.beq, Option.map] at hf
  repeat refine seq ?_
  refine regn 3 hf (by decide +kernel) ?_
  refine st (ld1 T107 rfl B3 rfl) ?_
  refine st (ldW T67 rfl B4 rfl) ?_
  refine st ((call2 En113 rfl rfl (fun v u w he h h' => by cases h; cases h'; exact cen_spec F part fv w (hT.ext he) (Dv.ex HV he) hin)).eq (congrArg I hcE)) ?_
  refine en fun a w e' hf => ?_
  replace hT := hT.ext e'
  replace HV := Dv.ex HV e'
  replace e := Ext.tr e e'
  replace B3 := B3.ext e'
  replace B4 := B4.ext e'
  replace B5 := B5.ext e'
  replace B6 := B6.ext e'
  clear e'
  refine tl_alloc I3 hf (by decide) fun a b7 w e' hb7 hs7 B7 hf => ?_
  have hle7 := Nat.le_trans e.size (Nat.le_of_eq hb7.symm)
  have lt7_B3 := B3.lt
  have lt7_B4 := B4.lt
  have lt7_B5 := B5.lt
  have lt7_B6 := B6.lt
  replace hT := hT.ext e'
  replace HV := Dv.ex HV e'
  replace e := Ext.tr e e'
  replace B3 := B3.ext e'
  replace B4 := B4.ext e'
  replace B5 := B5.ext e'
  replace B6 := B6.ext e'
  clear e'
  haveI hinr : ∀ G0, InR (GB W G0) (some b7) := fun G0 => InR.gb (by omega)
  refine tl_st1 T3 hf rfl rfl rfl B7 (by exact Nat.zero_lt_one) fun w hg hsz B7 hf => ?_
  replace hT := hT.gr hg (by omega)
  replace HV := Dv.gr HV hg (.inr (by omega))
  replace e := e.gr hg (by omega)
  replace B3 := B3.gr hg (by omega)
  replace B4 := B4.gr hg (by omega)
  replace B5 := B5.gr hg (by omega)
  replace B6 := B6.gr hg (by omega)
  clear hg
  refine tl_nil ?_
  replace B7 : Blk w b7 #[I (c : Nat)] 3 := B7
  have n7 : W.heap.size ≤ b7 ∧ b7 ≠ b3 ∧ b7 ≠ b4 ∧ b7 ≠ b5 ∧ b7 ≠ b6 := by omega
  clear l3 l4 l5 l6
  replace hf := hf.keep [3, 4, 5, 6, 7]
  dsimp only [keep, List.filterMap, look, Nat.beq, Option.map] at hf
  have hcl := card_le_n (S := out) (n := 1024) fun i hi => bit_lt hi
  repeat refine seq ?_
  refine regn 3 hf (by decide +kernel) ?_
  refine st (ldW T67 rfl B5 rfl) ?_
  refine st (call1 En77 rfl (fun v w he h => by cases h; exact len_spec _ w)) ?_
  refine st (lss rfl rfl) ?_
  refine en fun a w e' hf => ?_
  replace hT := hT.ext e'
  replace HV := Dv.ex HV e'
  replace e := Ext.tr e e'
  replace B3 := B3.ext e'
  replace B4 := B4.ext e'
  replace B5 := B5.ext e'
  replace B6 := B6.ext e'
  replace B7 := B7.ext e'
  clear e'
  refine tl_nil ?_
  repeat refine seq ?_
  refine ifc hf rfl (fun hb => ?_) (fun hb => ?_)
  · have hc2 : card out < 2 := by have := of_decide_eq_true hb; omega
    have hr2 : res = c := by rw [← hres, splB, if_pos hc2, hcc]
    repeat refine seq ?_
    refine regn 1 hf (by decide +kernel) ?_
    refine st (ld1 T3 rfl B7 rfl) ?_
    refine en fun a w e' hf => ?_
    replace hT := hT.ext e'
    replace HV := Dv.ex HV e'
    replace e := Ext.tr e e'
    replace B3 := B3.ext e'
    replace B4 := B4.ext e'
    replace B5 := B5.ext e'
    replace B6 := B6.ext e'
    replace B7 := B7.ext e'
    clear e'
    haveI hinr : ∀ G0, InR (GB W G0) (some b6) := fun G0 => InR.gb (by omega)
    refine tl_st1 T3 hf rfl rfl rfl B6 (by exact Nat.zero_lt_one) fun w hg hsz B6 hf => ?_
    replace hT := hT.gr hg (by omega)
    replace HV := Dv.gr HV hg (.inr (by omega))
    replace e := e.gr hg (by omega)
    replace B3 := B3.gr hg (by omega)
    replace B4 := B4.gr hg (by omega)
    replace B5 := B5.gr hg (by omega)
    replace B7 := B7.gr hg (by omega)
    clear hg
    refine tl_nil ?_
    replace B6 : Blk w b6 #[I (c : Nat)] 3 := B6
    refine wret ?_
    try simp only [Exit.then, Exit.inBlock]
    exact retc1M (D := []) rfl T3 hf rfl B6 (Ds.nil w) ⟨_, rfl, e, by rw [hr2]; rfl⟩
  have hc2 : ¬card out < 2 := by have := of_decide_eq_false hb; omega
  obtain ⟨o0, o1, ol, hoe, ho01, ho0, ho1⟩ := card_two hc2
  have ho0' := ho0
  have ho1' := ho1
  rw [← hout] at ho0' ho1'
  obtain ⟨p0a, p0b, p0c⟩ := end_ok F hin hC ho0'
  obtain ⟨p1a, p1b, p1c⟩ := end_ok F hin hC ho1'
  have hinO : ∀ i, out.getLsbD i = true → i < T.n := fun i hi => ((out_bit F hin i).1 (by rw [hout]; exact hi)).1
  have hres2 : res = ((elems (pathB fs part c (endB fs part o0))).find? (splP fs part (pathB fs part (endB fs part o0) (endB fs part o1)) c)).getD c := by
    rw [← hres, splB, if_neg hc2, hoe, hcc]
    simp only [List.map_cons]
  clear hb
  refine wskip ?_
  try simp only [Exit.then, Exit.inBlock, ↓reduceIte]
  replace hf := hf.keep [3, 4, 5, 6, 7]
  dsimp only [keep, List.filterMap, look, Nat.beq, Option.map] at hf
  repeat refine seq ?_
  refine regn0 ?_
  refine tl_alloc I59 hf (by decide) fun a b8 w e' hb8 hs8 B8 hf => ?_
  have hle8 := Nat.le_trans e.size (Nat.le_of_eq hb8.symm)
  have lt8_B3 := B3.lt
  have lt8_B4 := B4.lt
  have lt8_B5 := B5.lt
  have lt8_B6 := B6.lt
  have lt8_B7 := B7.lt
  replace hT := hT.ext e'
  replace HV := Dv.ex HV e'
  replace e := Ext.tr e e'
  replace B3 := B3.ext e'
  replace B4 := B4.ext e'
  replace B5 := B5.ext e'
  replace B6 := B6.ext e'
  replace B7 := B7.ext e'
  clear e'
  refine tl_nil ?_
  replace B8 : Blk w b8 #[.slice none 0 0] 59 := B8
  have n8 : W.heap.size ≤ b8 := by omega
  have Ho : OwR intE 3 W.heap.size Go.Mono.G0 w [] (.slice none 0 0) := OwR.nil intE _ e.size (fun b hb => hb.elim)
  replace hf := hf.keep [3, 4, 5, 6, 7, 8]
  dsimp only [keep, List.filterMap, look, Nat.beq, Option.map] at hf
  obtain ⟨Nz, hNz⟩ : ∃ Nz, Nz = w.heap.size := ⟨_, rfl⟩
  repeat refine seq ?_
  refine regn 2 hf (by decide +kernel) ?_
  refine st (ldW T67 rfl B5 rfl) ?_
  refine st (call1 (A := SeqA Nz out) En58 rfl (fun v w' he h => by cases h; exact Calls.mono (all_spec _ w') (fun en w2 ⟨u, h1, h2, b', h3, h4, h5⟩ => ⟨u, h1, h2, b', by have := he.size; omega, h4, h5⟩))) ?_
  refine en fun a w e' hf => ?_
  replace hT := hT.ext e'
  replace HV := Dv.ex HV e'
  replace e := Ext.tr e e'
  replace B3 := B3.ext e'
  replace B4 := B4.ext e'
  replace B5 := B5.ext e'
  replace B6 := B6.ext e'
  replace B7 := B7.ext e'
  replace B8 := B8.ext e'
  replace Ho := Ho.ext e'
  clear e'
  refine tl_nil ?_
  obtain ⟨v, ⟨b22, h22, rfl, BS⟩, hf⟩ := hf.fix 22 rfl
  replace hf := hf.keep [3, 4, 5, 6, 7, 8, 22]
  dsimp only [keep, List.filterMap, look, Nat.beq, Option.map] at hf
  have l3 := B3.lt
  have l4 := B4.lt
  have l5 := B5.lt
  have l6 := B6.lt
  have l7 := B7.lt
  have l8 := B8.lt
  have hBW : W.heap.size ≤ w.heap.size := e.size
  have h0w : 0 < w.heap.size := hT.lt
  repeat refine seq ?_
  refine blk ?_
  refine range_all3 (S := out) hf rfl BS (by decide) (fun s w1 => SLJ W fs fv b3 b4 b5 b6 b7 b8 c part out (endsI fs part s) w.heap.size w1) (fun _ _ => False) (fun s w1 h => h.t)
    ⟨e, hT, HV, B3, B4, B5, B6, B7, _, B8, Ho, (fun g hg => by simp [Value.ownBlock] at hg), by simp [Value.ownBlock], by simp [Value.ownBlock]⟩ (fun s w1 w2 h hs k => h.kp k hBW h0w l3 l4 l5 l6 l7 l8) (fun _ _ _ h => h.elim) ?_ ?_ (fun _ _ _ _ _ _ h => h.elim)
  · intro l s x rest a1 w1 hs hJ hlw hf
    have hxo : out.getLsbD x = true := (mem_elems.1 (by rw [hs]; simp)).2
    have hxf : x < fs.length := by rw [F.len]; exact hinO x hxo
    have hsl : s.length ≤ 1024 := by
      have h1 := card_elems out
      rw [hs] at h1
      simp at h1; omega
    have hel : (endsI fs part s).length = s.length := by simp [endsI]
    generalize hBz : w.heap.size = Bz at *
    refine regn0 ?_
    refine tl_as hf rfl (by decide) fun a hf => ?_
    refine tl_nil ?_
    simp only [Exit.then]
    refine ⟨Kh.rfl' _ _, fun w3 k3 hsz3 => ?_⟩
    have hJ3 := hJ.kp k3 hBW h0w l3 l4 l5 l6 l7 l8
    have hw3 : Bz + 3 ≤ w3.heap.size := by omega
    clear e hT HV B3 B4 B5 B6 B7 B8 BS Ho hJ
    replace hf := hf.pure w3
    obtain ⟨e, hT, HV, B3, B4, B5, B6, B7, u, B8, Ho, hgh, hov6, hov7⟩ := hJ3
    have kh := Kh.rfl' Bz w3
    have hov3 : u.ownBlock ≠ some b3 := Ho.neB B3 (by decide)
    have hov4 : u.ownBlock ≠ some b4 := Ho.neB B4 (by decide)
    have hov5 : u.ownBlock ≠ some b5 := Ho.neB B5 (by decide)
    have hov8 : u.ownBlock ≠ some b8 := Ho.neB B8 (by decide)
    replace hf := hf.keep [3, 4, 5, 6, 7, 8, 9]
    dsimp only [keep, List.filterMap, look, Nat.beq, Option.map] at hf
    repeat refine seq ?_
    refine blk ?_
    repeat refine seq ?_
    refine reg 12 Mix.mix hf (by decide +kernel) ?_
    refine st (ld1 (v := fv) T107 rfl B3 rfl) ?_
    refine st (mv rfl) ?_
    refine st (idxD Tryz.underlying107 S67 (isE rfl HV) rfl (by omega) (sg_get hxf)) ?_
    refine st (ldS T67 (isR rfl)) ?_
    refine st (ldW T67 rfl B4 rfl) ?_
    refine st (call2 En70 rfl rfl (fun v u w he h h' => by cases h; cases h'; exact inter_spec _ _ w)) ?_
    refine st (call1 En114 rfl (fun v w he h => by cases h; exact min_spec _ w (hT.ext he))) ?_
    refine st (mv rfl) ?_
    refine st (ext_ rfl rfl) ?_
    refine st (ext_ rfl rfl) ?_
    refine st (asg rfl) ?_
    refine st (asg rfl) ?_
    refine en fun a w e' hf => ?_
    replace hT := hT.ext e'
    replace HV := Dv.ex HV e'
    replace kh := kh.tr (Kh.ext e')
    replace hgh := hgh
    replace hw3 := Nat.le_trans hw3 e'.size
    replace e := Ext.tr e e'
    replace B3 := B3.ext e'
    replace B4 := B4.ext e'
    replace B5 := B5.ext e'
    replace B6 := B6.ext e'
    replace B7 := B7.ext e'
    replace B8 := B8.ext e'
    replace Ho := Ho.ext e'
    clear e'
    refine tl_nil ?_
    replace hf := hf.keep [3, 4, 5, 6, 7, 8, 10]
    dsimp only [keep, List.filterMap, look, Nat.beq, Option.map] at hf
    repeat refine seq ?_
    refine regn 3 hf (by decide +kernel) ?_
    refine st (ld1 (v := u) T59 rfl B8 rfl) ?_
    refine st (mv rfl) ?_
    refine st (bsl1 Tryz.underlying59 I3 rfl (by decide) rfl Ho.avs (isI rfl)) ?_
    refine en fun a w e' hf => ?_
    replace hT := hT.ext e'
    replace HV := Dv.ex HV e'
    replace kh := kh.tr (Kh.ext e')
    replace hgh := hgh
    replace hw3 := Nat.le_trans hw3 e'.size
    replace e := Ext.tr e e'
    replace B3 := B3.ext e'
    replace B4 := B4.ext e'
    replace B5 := B5.ext e'
    replace B6 := B6.ext e'
    replace B7 := B7.ext e'
    replace B8 := B8.ext e'
    replace Ho := Ho.ext e'
    clear e'
    haveI hin : ∀ G0, InR (GB W G0) _ := OwR.inGB (W := W) Ho (Nat.le_refl _)
    refine tl_app Tryz.underlying59 I3 rfl rfl hf (by decide) rfl Ho (isR rfl) (by simp only [List.length_singleton]; omega) (by simp only [List.length_singleton, maxLen]; omega) fun a v w hg hat Hn hf => ?_
    replace e := e.gro hg (Ho.row (W := W) (Nat.le_refl _))
    have hrow := Ho.row (W := W) (Nat.le_refl _)
    replace hT := hT.gro hg (fun b hb => Nat.lt_of_lt_of_le hT0 (hrow b hb))
    replace HV := Dv.gro HV hg (fun b hb => .inr (hrow b hb))
    replace kh := kh.tr (Kh.gro hg hgh)
    replace hgh := own_hole hat hgh hw3
    replace hw3 := Nat.le_trans hw3 hg.size
    clear hrow
    have hov3' := own_ne hat hov3 B3.lt
    have hov4' := own_ne hat hov4 B4.lt
    have hov5' := own_ne hat hov5 B5.lt
    have hov6' := own_ne hat hov6 B6.lt
    have hov7' := own_ne hat hov7 B7.lt
    have hov8' := own_ne hat hov8 B8.lt
    replace B3 := B3.gro hg (by assumption)
    replace B4 := B4.gro hg (by assumption)
    replace B5 := B5.gro hg (by assumption)
    replace B6 := B6.gro hg (by assumption)
    replace B7 := B7.gro hg (by assumption)
    replace B8 := B8.gro hg (by assumption)
    replace hov3 := hov3'; clear hov3'
    replace hov4 := hov4'; clear hov4'
    replace hov5 := hov5'; clear hov5'
    replace hov6 := hov6'; clear hov6'
    replace hov7 := hov7'; clear hov7'
    replace hov8 := hov8'; clear hov8'
    replace Ho := Hn; clear Hn hg hat hin
    replace hf := hf.keep [3, 4, 5, 6, 7, 8, 37]
    dsimp only [keep, List.filterMap, look, Nat.beq, Option.map] at hf
    haveI hinr : ∀ G0, InR (GB W G0) (some b8) := fun G0 => InR.gb (by omega)
    refine tl_st1 T59 hf rfl rfl (Ho.one) B8 (by exact Nat.zero_lt_one) fun w hg hsz B8 hf => ?_
    replace hT := hT.gr hg (by omega)
    replace HV := Dv.gr HV hg (.inr (by omega))
    replace kh := kh.tr (Kh.gr hg (fun hh => by have := hh.1; omega))
    replace hgh := hgh
    replace hw3 := Nat.le_trans hw3 (Nat.le_of_eq hsz.symm)
    replace e := e.gr hg (by omega)
    replace B3 := B3.gr hg (by omega)
    replace B4 := B4.gr hg (by omega)
    replace B5 := B5.gr hg (by omega)
    replace B6 := B6.gr hg (by omega)
    replace B7 := B7.gr hg (by omega)
    replace Ho := Ho.gr hg (by assumption)
    clear hg
    refine tl_nil ?_
    simp only [Exit.inBlock]
    have en : endsI fs part (s ++ [x]) = endsI fs part s ++ [((endB fs part x : Nat) : Int)] := by simp [endsI]
    exact ⟨⟨e, hT, HV, B3, B4, B5, B6, B7, _, B8, by rw [en]; exact Ho, hgh, hov6, hov7⟩, kh⟩
  · intro a' w' hf' hJ hsz hDn
    simp only [Exit.inBlock, ↓reduceIte, Exit.then]
    have hD : Ds [w.heap.size] w' := (Ds.nil w').cons hDn (by simp)
    have hf : FrD 72 (marks [w.heap.size]) a' w' [(3, E (.pointer (some ⟨b3, 0, none⟩))), (4, E (.pointer (some ⟨b4, 0, none⟩))), (5, E (.pointer (some ⟨b5, 0, none⟩))), (6, E (.pointer (some ⟨b6, 0, none⟩))), (7, E (.pointer (some ⟨b7, 0, none⟩))), (8, E (.pointer (some ⟨b8, 0, none⟩)))] := hf'.keep [3, 4, 5, 6, 7, 8]
    have hDW : ∀ d ∈ [w.heap.size], W.heap.size ≤ d := fun d hd => by rw [List.mem_singleton] at hd; omega
    clear hf' e hT HV B3 B4 B5 B6 B7 B8 Ho BS hDn
    obtain ⟨e, hT, HV, B3, B4, B5, B6, B7, u, B8, Ho, _, hov6, hov7⟩ := hJ
    clear l3 l4 l5 l6 l7 l8 h22 hsz hBW h0w
    generalize [w.heap.size] = D1 at *
    clear hNz
    generalize w' = w at *
    have he0 : (endsI fs part (elems out))[0]? = some ((endB fs part o0 : Nat) : Int) := by rw [hoe]; rfl
    have he1 : (endsI fs part (elems out))[1]? = some ((endB fs part o1 : Nat) : Int) := by rw [hoe]; rfl
    have hNW : W.heap.size ≤ w.heap.size := e.size
    have l3 := B3.lt
    have l4 := B4.lt
    have l5 := B5.lt
    have l6 := B6.lt
    have l7 := B7.lt
    have l8 := B8.lt
    have lD : ∀ d ∈ D1, d < w.heap.size := fun d hd => hD.lt hd
    obtain ⟨N1, hN1⟩ : ∃ N1, N1 = w.heap.size := ⟨_, rfl⟩
    have hoN : ∀ b, u.ownBlock = some b → b < N1 := fun b hb => by have := (Ho.lt hb).2; omega
    repeat refine seq ?_
    refine reg 10 Mix.mix hf (by decide +kernel) ?_
    refine st (ld1 (v := fv) T107 rfl B3 rfl) ?_
    refine st (ldW T67 rfl B4 rfl) ?_
    refine st (ld1 (v := u) T59 rfl B8 rfl) ?_
    refine st (idxD (j := 0) Tryz.underlying59 S3 (isE rfl Ho.sl) rfl rfl he0) ?_
    refine st (ldI T3 (isR rfl)) ?_
    refine st (ld1 (v := u) T59 rfl B8 rfl) ?_
    refine st (idxD (j := 1) Tryz.underlying59 S3 (isE rfl Ho.sl) rfl rfl he1) ?_
    refine st (ldI T3 (isR rfl)) ?_
    refine st (call4 En115 rfl rfl rfl rfl (fun v u s t w he h h' h'' h3 => by cases h; cases h'; cases h''; cases h3; exact path_spec F part _ _ fv w (hT.ext he) (Dv.ex HV he) hin hC p0a p1a)) ?_
    refine st (alD I67) ?_
    refine en fun a w e' hf => ?_
    replace hT := hT.ext e'
    replace HV := Dv.ex HV e'
    replace Ho := Ho.ext e'
    replace e := Ext.tr e e'
    replace B3 := B3.ext e'
    replace B4 := B4.ext e'
    replace B5 := B5.ext e'
    replace B6 := B6.ext e'
    replace B7 := B7.ext e'
    replace B8 := B8.ext e'
    replace hD := hD.ext e'
    clear e'
    obtain ⟨_, ⟨b12, hb12, rfl, B12⟩, hf⟩ := hf.fix 12 rfl
    rw [← hN1] at hb12
    simp only [Value.cells, zeroC] at B12
    have n12 : b12 ≠ b3 ∧ b12 ≠ b4 ∧ b12 ≠ b5 ∧ b12 ≠ b6 ∧ b12 ≠ b7 ∧ b12 ≠ b8 ∧ W.heap.size ≤ b12 := by omega
    have hD12 : ¬ b12 ∈ D1 := fun h => by have := lD _ h; omega
    have hv12 : u.ownBlock ≠ some b12 := fun h => by have := hoN _ h; omega
    replace hf := hf.keep [3, 4, 6, 7, 8, 12, 46]
    dsimp only [keep, List.filterMap, look, Nat.beq, Option.map] at hf
    refine tl_stW T67 hf rfl rfl (wordsC_one _) B12 rfl (rfl) fun w hg hsz B12 hf => ?_
    replace hT := hT.gr hg (by omega)
    replace HV := Dv.gr HV hg (.inr (by omega))
    replace Ho := Ho.gr hg hv12
    replace hD := hD.gr hg hD12
    replace e := e.gr hg (by omega)
    replace B3 := B3.gr hg (by omega)
    replace B4 := B4.gr hg (by omega)
    replace B5 := B5.gr hg (by omega)
    replace B6 := B6.gr hg (by omega)
    replace B7 := B7.gr hg (by omega)
    replace B8 := B8.gr hg (by omega)
    clear hg
    refine tl_nil ?_
    generalize hbt : pathB fs part (endB fs part o0) (endB fs part o1) = btw at *
    generalize hpq : pathB fs part c (endB fs part o0) = pq at *
    have hpqin : ∀ n, pq.getLsbD n = true → part.getLsbD n = true := fun n hn => path_in F hin hC hc p0a (by rw [hpq]; exact hn)
    obtain ⟨N2, hN2⟩ : ∃ N2, N2 = w.heap.size := ⟨_, rfl⟩
    replace hf := hf.keep [3, 4, 6, 7, 8, 12]
    dsimp only [keep, List.filterMap, look, Nat.beq, Option.map] at hf
    repeat refine seq ?_
    refine reg 8 Mix.mix hf (by decide +kernel) ?_
    refine st (ld1 (v := fv) T107 rfl B3 rfl) ?_
    refine st (ldW T67 rfl B4 rfl) ?_
    refine st (ld1 T3 rfl B7 rfl) ?_
    refine st (ld1 (v := u) T59 rfl B8 rfl) ?_
    refine st (idxD (j := 0) Tryz.underlying59 S3 (isE rfl Ho.sl) rfl rfl he0) ?_
    refine st (ldI T3 (isR rfl)) ?_
    refine st (call4 (A := E (setV pq)) En115 rfl rfl rfl rfl (fun v u s t w he h h' h'' h3 => by cases h; cases h'; cases h''; cases h3; rw [← hpq]; exact path_spec F part _ _ fv w (hT.ext he) (Dv.ex HV he) hin hC hc p0a)) ?_
    refine st (call1 (A := SeqA N2 pq) En58 rfl (fun v w' he h => by cases h; exact Calls.mono (all_spec _ w') (fun en w2 ⟨u, h1, h2, b', h3, h4, h5⟩ => ⟨u, h1, h2, b', by have := he.size; omega, h4, h5⟩))) ?_
    refine en fun a w e' hf => ?_
    replace hT := hT.ext e'
    replace HV := Dv.ex HV e'
    replace Ho := Ho.ext e'
    replace e := Ext.tr e e'
    replace B3 := B3.ext e'
    replace B4 := B4.ext e'
    replace B5 := B5.ext e'
    replace B6 := B6.ext e'
    replace B7 := B7.ext e'
    replace B8 := B8.ext e'
    replace B12 := B12.ext e'
    replace hD := hD.ext e'
    clear e'
    refine tl_nil ?_
    obtain ⟨vv, ⟨b54, h54, rfl, BS⟩, hf⟩ := hf.fix 54 rfl
    replace hf := hf.keep [3, 4, 6, 7, 12, 54]
    dsimp only [keep, List.filterMap, look, Nat.beq, Option.map] at hf
    have hBW : W.heap.size ≤ w.heap.size := e.size
    have h0w : 0 < w.heap.size := hT.lt
    have kL : LtL w.heap.size [(b3, #[fv], 107), (b4, setC part, 67), (b6, #[I 0], 3), (b7, #[I (c : Nat)], 3), (b12, setC btw, 67)] := ⟨B3.lt, B4.lt, B6.lt, B7.lt, B12.lt, trivial⟩
    have lD2 : ∀ d ∈ D1, d < w.heap.size := fun d hd => hD.lt hd
    clear B5 B8 Ho l3 l4 l5 l6 l7 l8 lD
    repeat refine seq ?_
    refine blk ?_
    refine range_all3 (S := pq) hf rfl BS (by decide) (fun s w1 => RJ W fs fv [(b3, #[fv], 107), (b4, setC part, 67), (b6, #[I 0], 3), (b7, #[I (c : Nat)], 3), (b12, setC btw, 67)] D1 w1 ∧ ∀ n ∈ s, splP fs part btw c n = false)
      (fun ex w1 => ex = .ret ∧ RJ W fs fv [(b3, #[fv], 107), (b4, setC part, 67), (b6, #[I (res : Nat)], 3), (b7, #[I (c : Nat)], 3), (b12, setC btw, 67)] D1 w1) (fun s w1 h => h.1.t)
      ⟨⟨e, hT, HV, ⟨B3, B4, B6, B7, B12, trivial⟩, hD⟩, fun n hn => by cases hn⟩ (fun s w1 w2 h hs k => ⟨h.1.kp k hBW h0w kL lD2, h.2⟩) (fun ex w1 w2 h hs k => ⟨h.1, h.2.kp k hBW h0w ⟨kL.1, kL.2.1, kL.2.2.1, kL.2.2.2.1, kL.2.2.2.2.1, trivial⟩ lD2⟩) ?_ ?_ ?_
    · intro l s x rest a1 w1 hs hJ hlw hf
      have hxp : part.getLsbD x = true := hpqin x (mem_elems.1 (by rw [hs]; simp)).2
      have k6 : b6 < w.heap.size := kL.2.2.1
      generalize hBz : w.heap.size = Bz at *
      refine regn0 ?_
      refine tl_as hf rfl (by decide) fun a hf => ?_
      refine tl_nil ?_
      simp only [Exit.then]
      refine ⟨Kh.rfl' _ _, fun w3 k3 hsz3 => ?_⟩
      have hJ3 := hJ.1.kp k3 hBW h0w kL lD2
      have hJn := hJ.2
      clear e hT HV B3 B4 B6 B7 B12 BS hJ hD
      replace hf := hf.pure w3
      obtain ⟨e, hT, HV, ⟨B3, B4, B6, B7, B12, _⟩, hD⟩ := hJ3
      have kh := Kh.rfl' Bz w3
      replace hf := hf.keep [3, 4, 6, 7, 12, 13]
      dsimp only [keep, List.filterMap, look, Nat.beq, Option.map] at hf
      repeat refine seq ?_
      refine blk ?_
      obtain ⟨cc, hcc2⟩ : ∃ cc, splP fs part btw c x = cc := ⟨_, rfl⟩
      have hcl2 : card (pathB fs part c x &&& btw) ≤ 1024 := card_le_n fun i hi => bit_lt hi
      repeat refine seq ?_
      refine cut (J := fun a w => Fr 72 a w [(6, E (.pointer (some ⟨b6, 0, none⟩))), (13, E (I (x : Nat))), (69, E (B cc))] ∧ Ext W w ∧ Tab w ∧ (Dv (slE setE) (GB W Go.Mono.G0) fs).p fv w ∧ Kh Bz w3 w ∧ Blk w b3 #[fv] 107 ∧ Blk w b4 (setC part) 67 ∧ Blk w b6 #[I 0] 3 ∧ Blk w b7 #[I (c : Nat)] 3 ∧ Blk w b12 (setC btw) 67 ∧ Ds D1 w) ?_ (fun a w hJ => ?_)
      · cases h1 : btw.getLsbD x
        all_goals cases h2 : decide (card (pathB fs part c x &&& btw) = 1)
        all_goals
          have h2' : ((card (pathB fs part c x &&& btw) : Int) == 1) = decide (card (pathB fs part c x &&& btw) = 1) := by
            rw [Bool.eq_iff_iff, beq_iff_eq, decide_eq_true_eq]; omega
          rw [h2] at h2'
          have h1' : has btw (x : Int) = btw.getLsbD x := by rw [Bool.eq_iff_iff]; exact has_bit _ x
          rw [h1] at h1'
          repeat refine seq ?_
          refine reg 14 Mix.mix hf (by decide +kernel) ?_
          refine st (ldW T67 rfl B12 rfl) ?_
          refine st (mv rfl) ?_
          refine st ((call2 En75 rfl rfl (fun v u w he h h' => by cases h; cases h'; exact has_spec _ _ w)).eq (congrArg Value.bool (h1'))) ?_
          refine st (mv rfl) ?_
          first | refine sn rfl rfl rfl ?_ | refine sy rfl rfl (ld1 (v := fv) T107 rfl B3 rfl) ?_
          first | refine sn rfl rfl rfl ?_ | refine sy rfl rfl (ldW T67 rfl B4 rfl) ?_
          first | refine sn rfl rfl rfl ?_ | refine sy rfl rfl (ld1 T3 rfl B7 rfl) ?_
          first | refine sn rfl rfl rfl ?_ | refine sy rfl rfl (mv rfl) ?_
          first | refine sn rfl rfl rfl ?_ | refine sy rfl rfl (call4 En115 rfl rfl rfl rfl (fun v u s t w he h h' h'' h3 => by cases h; cases h'; cases h''; cases h3; exact path_spec F part _ _ fv w (hT.ext he) (Dv.ex HV he) hin hC hc hxp)) ?_
          first | refine sn rfl rfl rfl ?_ | refine sy rfl rfl (ldW T67 rfl B12 rfl) ?_
          first | refine sn rfl rfl rfl ?_ | refine sy rfl rfl (call2 En70 rfl rfl (fun v u w he h h' => by cases h; cases h'; exact inter_spec _ _ w)) ?_
          first | refine sn rfl rfl rfl ?_ | refine sy rfl rfl (call1 En77 rfl (fun v w he h => by cases h; exact len_spec _ w)) ?_
          first | refine sn rfl rfl rfl ?_ | refine sy rfl rfl ((eql rfl rfl).eq (congrArg Value.bool (h2'))) ?_
          first | refine st ((pkT rfl rfl).eq (show Value.bool _ = B cc from congrArg Value.bool (by rw [← hcc2, splP, h1, h2]; rfl))) ?_ | refine st ((pkF rfl rfl).eq (show Value.bool _ = B cc from congrArg Value.bool (by rw [← hcc2, splP, h1, h2]; rfl))) ?_
          refine en fun a w e' hf => ?_
          replace hT := hT.ext e'
          replace HV := Dv.ex HV e'
          replace kh := kh.tr (Kh.ext e')
          replace e := Ext.tr e e'
          replace B3 := B3.ext e'
          replace B4 := B4.ext e'
          replace B6 := B6.ext e'
          replace B7 := B7.ext e'
          replace B12 := B12.ext e'
          replace hD := hD.ext e'
          clear e'
          refine tl_nil ?_
          replace hf := hf.keep [6, 13, 69]
          dsimp only [keep, List.filterMap, look, Nat.beq, Option.map] at hf
          exact ⟨rfl, hf, e, hT, HV, kh, B3, B4, B6, B7, B12, hD⟩
      clear hf e hT HV kh B3 B4 B6 B7 B12 hD
      obtain ⟨hf, e, hT, HV, kh, B3, B4, B6, B7, B12, hD⟩ := hJ
      try simp only [Exit.then]
      repeat refine seq ?_
      refine ifc hf rfl (fun hb => ?_) (fun hb => ?_)
      · have hxr : res = x := by
          rw [hres2, hs, List.find?_append]
          have h3 : s.find? (splP fs part btw c) = none := by
            rw [List.find?_eq_none]
            intro n hn hh
            rw [hJn n hn] at hh; cases hh
          rw [h3, List.find?_cons, hcc2, hb]; rfl
        have hD6 : ¬ b6 ∈ D1 := hD.ne B6
        repeat refine seq ?_
        refine regn 1 hf (by decide +kernel) ?_
        refine st (mv rfl) ?_
        refine en fun a w e' hf => ?_
        replace hT := hT.ext e'
        replace HV := Dv.ex HV e'
        replace kh := kh.tr (Kh.ext e')
        replace hD := hD.ext e'
        replace e := Ext.tr e e'
        replace B3 := B3.ext e'
        replace B4 := B4.ext e'
        replace B6 := B6.ext e'
        replace B7 := B7.ext e'
        replace B12 := B12.ext e'
        clear e'
        haveI hinr : ∀ G0, InR (GB W G0) (some b6) := fun G0 => InR.gb (by omega)
        refine tl_st1 T3 hf rfl rfl rfl B6 (by exact Nat.zero_lt_one) fun w hg hsz B6 hf => ?_
        replace hT := hT.gr hg (by omega)
        replace HV := Dv.gr HV hg (.inr (by omega))
        replace kh := kh.tr (Kh.gr hg (fun hh => by have := hh.1; omega))
        replace hD := hD.gr hg hD6
        replace e := e.gr hg (by omega)
        replace B3 := B3.gr hg (by omega)
        replace B4 := B4.gr hg (by omega)
        replace B7 := B7.gr hg (by omega)
        replace B12 := B12.gr hg (by omega)
        clear hg
        refine tl_nil ?_
        refine wret ?_
        simp only [Exit.then, Exit.inBlock]
        exact ⟨⟨rfl, e, hT, HV, ⟨B3, B4, by rw [hxr]; exact B6, B7, B12, trivial⟩, hD⟩, kh⟩
      · refine wskip ?_
        simp only [Exit.inBlock]
        exact ⟨⟨⟨e, hT, HV, ⟨B3, B4, B6, B7, B12, trivial⟩, hD⟩, fun n hn => by
          rcases List.mem_append.1 hn with h | h
          · exact hJn n h
          · rw [List.mem_singleton] at h; subst h; rw [hcc2, hb]⟩, kh⟩
    · intro a' w' hf' hJ hsz hDn
      simp only [Exit.inBlock, ↓reduceIte, Exit.then]
      have hr3 : res = c := by
        rw [hres2]
        have h3 : (elems pq).find? (splP fs part btw c) = none := by
          rw [List.find?_eq_none]
          intro n hn hh
          rw [hJ.2 n hn] at hh; cases hh
        rw [h3]; rfl
      have hD2 : Ds (w.heap.size :: D1) w' := hJ.1.ds.cons hDn fun hm => Nat.lt_irrefl _ (lD2 _ hm)
      have hf : FrD 72 (marks (w.heap.size :: D1)) a' w' [(6, E (.pointer (some ⟨b6, 0, none⟩))), (7, E (.pointer (some ⟨b7, 0, none⟩)))] := hf'.keep [6, 7]
      have hDW2 : ∀ d ∈ w.heap.size :: D1, W.heap.size ≤ d := fun d hd => by
        rcases List.mem_cons.1 hd with rfl | hd
        · exact hBW
        · exact hDW d hd
      obtain ⟨⟨e, hT, HV, ⟨_, _, B6, B7, _⟩, _⟩, _⟩ := hJ
      replace hD := hD2
      clear hD2 hf' hDn
      generalize w.heap.size :: D1 = D2 at *
      have hD6 : ¬ b6 ∈ D2 := hD.ne B6
      repeat refine seq ?_
      refine regn 1 hf (by decide +kernel) ?_
      refine st (ld1 T3 rfl B7 rfl) ?_
      refine en fun a w e' hf => ?_
      replace hD := hD.ext e'
      replace e := Ext.tr e e'
      replace B6 := B6.ext e'
      replace B7 := B7.ext e'
      clear e'
      haveI hinr : ∀ G0, InR (GB W G0) (some b6) := fun G0 => InR.gb (by omega)
      refine tl_st1 T3 hf rfl rfl rfl B6 (by exact Nat.zero_lt_one) fun w hg hsz B6 hf => ?_
      replace hD := hD.gr hg hD6
      replace e := e.gr hg (by omega)
      replace B7 := B7.gr hg (by omega)
      clear hg
      refine tl_nil ?_
      replace B6 : Blk w b6 #[I (c : Nat)] 3 := B6
      refine wret ?_
      try simp only [Exit.then, Exit.inBlock]
      exact retc1M rfl T3 hf rfl B6 hD ⟨_, rfl, e.shut hDW2, by rw [hr3]; rfl⟩
    · intro ex cd a' w' hcd hf' hX hsz hDn
      obtain ⟨rfl, hJ⟩ := hX
      simp only [Exit.inBlock, ↓reduceIte, Exit.then]
      have hD2 : Ds (w.heap.size :: D1) w' := hJ.ds.cons hDn fun hm => Nat.lt_irrefl _ (lD2 _ hm)
      have hf : FrD 72 (marks (w.heap.size :: D1)) a' w' [(6, E (.pointer (some ⟨b6, 0, none⟩)))] := hf'.keep [6]
      have hDW2 : ∀ d ∈ w.heap.size :: D1, W.heap.size ≤ d := fun d hd => by
        rcases List.mem_cons.1 hd with rfl | hd
        · exact hBW
        · exact hDW d hd
      obtain ⟨e, hT, HV, ⟨_, _, B6, B7, _⟩, _⟩ := hJ
      exact retc1M rfl T3 hf rfl B6 hD2 ⟨_, rfl, e.shut hDW2, rfl⟩
end Go.Mono

namespace Go.Mono
open Go Go.Proofs Go.RowKit

theorem OwR.neO {α β : Type} {e : Enc α} {f : Enc β} {ty ty' : TypeId} {B B' : Nat} {G G' : Nat → Prop} {w : World} {xs : List α} {ys : List β} {u v : Value} (h : OwR e ty B G w xs u) (h' : OwR f ty' B' G' w ys v) (ht : ty ≠ ty') {g : Nat} (hu : u.ownBlock = some g) : v.ownBlock ≠ some g := by
  obtain ⟨cs, h1, _⟩ := h.own
  rcases h1.2 with ⟨rfl, _⟩ | ⟨g', cap, cur, rfl, _, hg, _⟩
  · simp [Value.ownBlock] at hu
  · simp only [Value.ownBlock, Option.some.injEq] at hu
    subst hu
    exact h'.neB (show Blk w g' cur ty from hg) ht
theorem OwR.neD {α : Type} {e : Enc α} {ty : TypeId} {B : Nat} {G : Nat → Prop} {w : World} {xs : List α} {u : Value} (h : OwR e ty B G w xs u) {D : List Nat} (hD : Ds D w) {d : Nat} (hd : d ∈ D) : u.ownBlock ≠ some d := fun hu => by
  obtain ⟨cs, h1, _⟩ := h.own
  rcases h1.2 with ⟨rfl, _⟩ | ⟨g', cap, cur, rfl, _, hg, _⟩
  · simp [Value.ownBlock] at hu
  · simp only [Value.ownBlock, Option.some.injEq] at hu
    subst hu
    exact hD.ne (show Blk w g' cur ty from hg) hd
theorem Chg.of_gro {w w' : World} {row : Option Nat} (hg : w.grownBy w' row) : Chg (fun b => row = some b) w w' := ⟨hg.os, hg.tape, hg.output, hg.size, fun b hb hn => hg.block b hb (fun h => hn h.symm)⟩

def bfn (b2 b3 b4 b5 b6 : Nat) : Value := .func (.func 55) #[] #[.pointer (some ⟨b2, 0, none⟩), .pointer (some ⟨b3, 0, none⟩), .pointer (some ⟨b4, 0, none⟩), .pointer (some ⟨b5, 0, none⟩), .pointer (some ⟨b6, 0, none⟩)]
/-- what stays as it is while the closure runs -/
structure BK (fs : List BS) (t : List (Int × BS)) (B0 b2 b3 b4 b5 b6 : Nat) (fv tv : Value) (w : World) : Prop where
  t0 : Tab w
  hv : (Dv (slE setE) (fun b => B0 ≤ b) fs).p fv w
  ht : (Dv treeE (fun b => B0 ≤ b) t).p tv w
  f : Blk w b2 #[fv] 107
  t : Blk w b3 #[tv] 23
  s : Blk w b6 #[bfn b2 b3 b4 b5 b6] 110
theorem BK.ch {fs : List BS} {t : List (Int × BS)} {B0 b2 b3 b4 b5 b6 : Nat} {fv tv : Value} {w w' : World} {S : Nat → Prop} (h : BK fs t B0 b2 b3 b4 b5 b6 fv tv w) (c : Chg S w w') (hS : ∀ b, S b → B0 ≤ b ∧ b ≠ 0 ∧ b ≠ b2 ∧ b ≠ b3 ∧ b ≠ b6) : BK fs t B0 b2 b3 b4 b5 b6 fv tv w' :=
  ⟨h.t0.ch c fun hh => (hS _ hh).2.1 rfl, Dv.ch h.hv c fun b hb => (hS b hb).1, Dv.ch h.ht c fun b hb => (hS b hb).1, h.f.ch c fun hh => (hS _ hh).2.2.1 rfl, h.t.ch c fun hh => (hS _ hh).2.2.2.1 rfl, h.s.ch c fun hh => (hS _ hh).2.2.2.2 rfl⟩
theorem BK.ext {fs : List BS} {t : List (Int × BS)} {B0 b2 b3 b4 b5 b6 : Nat} {fv tv : Value} {w w' : World} (h : BK fs t B0 b2 b3 b4 b5 b6 fv tv w) (e : Ext w w') : BK fs t B0 b2 b3 b4 b5 b6 fv tv w' :=
  ⟨h.t0.ext e, Dv.ex h.hv e, Dv.ex h.ht e, h.f.ext e, h.t.ext e, h.s.ext e⟩
theorem BK.gr {fs : List BS} {t : List (Int × BS)} {B0 b2 b3 b4 b5 b6 : Nat} {fv tv : Value} {w w' : World} {b : Nat} (h : BK fs t B0 b2 b3 b4 b5 b6 fv tv w) (hg : w.grownBy w' (some b)) (hb : B0 ≤ b ∧ b ≠ 0 ∧ b ≠ b2 ∧ b ≠ b3 ∧ b ≠ b6) : BK fs t B0 b2 b3 b4 b5 b6 fv tv w' :=
  h.ch (Chg.of_gro hg) fun c hc => by cases hc; exact hb
/-- what it has made so far -/
structure BSt (fs : List BS) (t : List (Int × BS)) (B0 b4 b5 : Nat) (L : List (Int × BS)) (ut ua : Value) (w : World) : Prop where
  a : Blk w b4 #[ut] 23
  b : Blk w b5 #[ua] 59
  ht : OwR bagE 70 B0 Go.Mono.G0 w (L.map (bagOf fs t)) ut
  ha : OwR intE 3 B0 Go.Mono.G0 w (L.map (atOf fs)) ua
theorem BSt.ext {fs : List BS} {t : List (Int × BS)} {B0 b4 b5 : Nat} {L : List (Int × BS)} {ut ua : Value} {w w' : World} (h : BSt fs t B0 b4 b5 L ut ua w) (e : Ext w w') : BSt fs t B0 b4 b5 L ut ua w' := ⟨h.a.ext e, h.b.ext e, h.ht.ext e, h.ha.ext e⟩
/-- the blocks that it may change -/
def SB (b4 b5 : Nat) (ut ua : Value) (b : Nat) : Prop := b = b4 ∨ b = b5 ∨ ut.ownBlock = some b ∨ ua.ownBlock = some b
theorem BSt.ch {fs : List BS} {t : List (Int × BS)} {B0 b4 b5 : Nat} {L : List (Int × BS)} {ut ua : Value} {w w' : World} {S : Nat → Prop} (h : BSt fs t B0 b4 b5 L ut ua w) (c : Chg S w w') (hS : ∀ b, S b → ¬SB b4 b5 ut ua b) : BSt fs t B0 b4 b5 L ut ua w' :=
  ⟨h.a.ch c fun hh => hS _ hh (.inl rfl), h.b.ch c fun hh => hS _ hh (.inr (.inl rfl)), h.ht.chE c fun b hb hh => hS _ hh (.inr (.inr (.inl hb))), h.ha.chE c fun b hb hh => hS _ hh (.inr (.inr (.inr hb)))⟩
theorem BSt.lt {fs : List BS} {t : List (Int × BS)} {B0 b4 b5 : Nat} {L : List (Int × BS)} {ut ua : Value} {w : World} (h : BSt fs t B0 b4 b5 L ut ua w) : ∀ b, SB b4 b5 ut ua b → b < w.heap.size := by
  rintro b (rfl | rfl | hb | hb)
  · exact h.a.lt
  · exact h.b.lt
  · exact (h.ht.lt hb).2
  · exact (h.ha.lt hb).2
theorem BSt.ge {fs : List BS} {t : List (Int × BS)} {B0 b4 b5 : Nat} {L : List (Int × BS)} {ut ua : Value} {w : World} (h : BSt fs t B0 b4 b5 L ut ua w) (h4 : B0 ≤ b4) (h5 : B0 ≤ b5) : ∀ b, SB b4 b5 ut ua b → B0 ≤ b := by
  rintro b (rfl | rfl | hb | hb)
  · exact h4
  · exact h5
  · exact (h.ht.lt hb).1
  · exact (h.ha.lt hb).1
/-- another block of cells is none of them -/
theorem BSt.ne {fs : List BS} {t : List (Int × BS)} {B0 b4 b5 : Nat} {L : List (Int × BS)} {ut ua : Value} {w : World} (h : BSt fs t B0 b4 b5 L ut ua w) {b : Nat} {cs : Array Value} {ty : TypeId} (hb : Blk w b cs ty) (h4 : b ≠ b4) (h5 : ty ≠ 59) (h6 : ty ≠ 70) (h7 : ty ≠ 3) : ¬SB b4 b5 ut ua b := by
  rintro (rfl | rfl | hh | hh)
  · exact h4 rfl
  · exact Blk.ne hb h.b h5 rfl
  · exact h.ht.neB hb h6 hh
  · exact h.ha.neB hb h7 hh
theorem BSt.neD {fs : List BS} {t : List (Int × BS)} {B0 b4 b5 : Nat} {L : List (Int × BS)} {ut ua : Value} {w : World} (h : BSt fs t B0 b4 b5 L ut ua w) {D : List Nat} (hD : Ds D w) {d : Nat} (hd : d ∈ D) : ¬SB b4 b5 ut ua d := by
  rintro (rfl | rfl | hh | hh)
  · exact hD.ne h.a hd
  · exact hD.ne h.b hd
  · exact h.ht.neD hD hd hh
  · exact h.ha.neD hD hd hh
theorem BSt.k {fs : List BS} {t : List (Int × BS)} {B0 b2 b3 b4 b5 b6 : Nat} {fv tv : Value} {L : List (Int × BS)} {ut ua : Value} {w : World} (h : BSt fs t B0 b4 b5 L ut ua w) (K : BK fs t B0 b2 b3 b4 b5 b6 fv tv w) (h0 : 0 < B0) (h4 : B0 ≤ b4) (h5 : B0 ≤ b5) (h34 : b3 ≠ b4) : ∀ b, SB b4 b5 ut ua b → B0 ≤ b ∧ b ≠ 0 ∧ b ≠ b2 ∧ b ≠ b3 ∧ b ≠ b6 := fun b hb => by
  have h1 := h.ge h4 h5 b hb
  refine ⟨h1, by omega, ?_, ?_, ?_⟩
  · rintro rfl; exact h.ne K.f (Blk.ne K.f h.a (by decide)) (by decide) (by decide) (by decide) hb
  · rintro rfl; exact h.ne K.t h34 (by decide) (by decide) (by decide) hb
  · rintro rfl; exact h.ne K.s (Blk.ne K.s h.a (by decide)) (by decide) (by decide) (by decide) hb

/-- where the loop over the bags outside stands -/
structure BJ (W : World) (fs : List BS) (t : List (Int × BS)) (B0 b2 b3 b4 b5 b6 b7 b9 b11 : Nat) (fv tv ut ua : Value) (L : List (Int × BS)) (part : BS) (c : Nat) (s : List Nat) (w : World) : Prop where
  e : Ext W w
  k : BK fs t B0 b2 b3 b4 b5 b6 fv tv w
  st : BSt fs t B0 b4 b5 L ut ua w
  b7 : Blk w b7 (setC part) 67
  b9 : Blk w b9 (setC (outM fs part)) 67
  b11 : Blk w b11 (setC (hasTo t c s)) 67
theorem BJ.kp {W : World} {fs : List BS} {t : List (Int × BS)} {B0 b2 b3 b4 b5 b6 b7 b9 b11 : Nat} {fv tv ut ua : Value} {L : List (Int × BS)} {part : BS} {c : Nat} {s : List Nat} {B : Nat} {w w' : World} (h : BJ W fs t B0 b2 b3 b4 b5 b6 b7 b9 b11 fv tv ut ua L part c s w) (k : Kp B w w') (hW : W.heap.size ≤ B) (h0 : 0 < B) (hB0 : B0 ≤ B) (l : b2 < B ∧ b3 < B ∧ b6 < B ∧ b7 < B ∧ b9 < B ∧ b11 < B) (hS : ∀ b, SB b4 b5 ut ua b → b < B) :
    BJ W fs t B0 b2 b3 b4 b5 b6 b7 b9 b11 fv tv ut ua L part c s w' :=
  have no : ∀ {b}, b < B → ¬Hole B b := fun h hh => by have := hh.1; omega
  ⟨h.e.kp k hW, h.k.ch k.chg fun b hb => by have := hb.1; omega, h.st.ch k.chg fun b hb hs => no (hS b hs) hb, h.b7.kp k (no l.2.2.2.1), h.b9.kp k (no l.2.2.2.2.1), h.b11.kp k (no l.2.2.2.2.2)⟩

theorem balc_spec {T : Tr} {fs : List BS} (F : Fo fs T) (t : List (Int × BS)) (htl : t.length = T.n) (B0 b2 b3 b4 b5 b6 : Nat) (fv tv : Value) (h0 : 0 < B0) (h4 : B0 ≤ b4) (h5 : B0 ≤ b5) (h34 : b3 ≠ b4) :
    ∀ (f : Nat) (part : BS) (up : Int) (L : List (Int × BS)) (ut ua : Value) (W : World), Pt fs T part → card part ≤ f → L.length + card part ≤ 3000 → BK fs t B0 b2 b3 b4 b5 b6 fv tv W → BSt fs t B0 b4 b5 L ut ua W →
    Calls Tryz.prog 55 #[setV part, I up, .pointer (some ⟨b2, 0, none⟩), .pointer (some ⟨b3, 0, none⟩), .pointer (some ⟨b4, 0, none⟩), .pointer (some ⟨b5, 0, none⟩), .pointer (some ⟨b6, 0, none⟩)] W
      (fun e w' => ∃ v, e = .returned v ∧ Chg (SB b4 b5 ut ua) W w' ∧ Any.p v w' ∧ ∃ ut' ua', BSt fs t B0 b4 b5 (balL fs f part up L) ut' ua' w' ∧ ∀ b, SB b4 b5 ut' ua' b → SB b4 b5 ut ua b ∨ W.heap.size ≤ b) := by
  intro f
  induction f with
  | zero =>
    intro part up L ut ua W hP hc
    obtain ⟨k, hk⟩ := hP.ne
    have := card_pos hk
    omega
  | succ f ih =>
    intro part up L ut ua W hP hc hL K St
    obtain ⟨p0, hp0⟩ := hP.ne
    have hin := hP.inn
    have hle := F.le
    have SP := hP.spl F
    have hinO : ∀ i, (outM fs part).getLsbD i = true → i < T.n := fun i hi => ((out_bit F hin i).1 hi).1
    have hcn : splitter fs part < t.length := by rw [htl]; exact hin _ SP.mem
    have hsc := subs_card F hP
    have l2 := K.f.lt
    have l3 := K.t.lt
    have l6 := K.s.lt
    have hSl := St.lt
    have hBW : B0 ≤ W.heap.size := by have := K.f; have := hSl b4 (.inl rfl); omega
    have h1 := one_cells (Dv.slOne K.hv)
    refine enterM (args := [setV part, I up, .pointer (some ⟨b2, 0, none⟩), .pointer (some ⟨b3, 0, none⟩), .pointer (some ⟨b4, 0, none⟩), .pointer (some ⟨b5, 0, none⟩), .pointer (some ⟨b6, 0, none⟩)]) (As := [E (setV part), E (I up), E (.pointer (some ⟨b2, 0, none⟩)), E (.pointer (some ⟨b3, 0, none⟩)), E (.pointer (some ⟨b4, 0, none⟩)), E (.pointer (some ⟨b5, 0, none⟩)), E (.pointer (some ⟨b6, 0, none⟩))]) Tryz.func55 rfl Tryz.ntmps55 (Nat.le_of_ble_eq_true rfl) ?_ (fun a hf => ?_) (Nat.le_of_ble_eq_true rfl)
    · exact argC rfl (argC rfl (argC rfl (argC rfl (argC rfl (argC rfl (argC rfl argZ))))))
    dsimp only [params, Nat.reduceAdd] at hf
    have e := Ext.rfl' W
    have hnot : ∀ b, W.heap.size ≤ b → ∀ c, (fun c => some b = some c) c → ¬SB b4 b5 ut ua c := fun b hb c hc hs => by cases hc; have := hSl _ hs; omega
    repeat refine seq ?_
    refine regn0 ?_
    refine tl_box hf rfl (by decide) fun a b7 w v7 hv7 e' hb7 hs7 B7 hf => ?_
    have hle7 := Nat.le_trans e.size (Nat.le_of_eq hb7.symm)
    replace K := K.ext e'
    replace St := St.ext e'
    replace e := Ext.tr e e'
    clear e'
    refine tl_nil ?_
    cases hv7
    replace B7 : Blk w b7 (setC part) 67 := B7
    have n7 : W.heap.size ≤ b7 := by omega
    replace hf := hf.keep [1, 2, 3, 4, 5, 6, 7]
    dsimp only [keep, List.filterMap, look, Nat.beq, Option.map] at hf
    repeat refine seq ?_
    refine regn 3 hf (by decide +kernel) ?_
    refine st (ld1 T107 rfl K.f rfl) ?_
    refine st (ldW T67 rfl B7 rfl) ?_
    refine st (call2 En56 rfl rfl (fun v u w he h h' => by cases h; cases h'; exact out_spec fs part fv w (K.t0.ext he) (Dv.ex K.hv he) (fun i hi => by rw [F.len]; exact hin i (mem_elems.1 hi).2))) ?_
    refine en fun a w e' hf => ?_
    replace K := K.ext e'
    replace St := St.ext e'
    replace e := Ext.tr e e'
    replace B7 := B7.ext e'
    clear e'
    refine tl_alloc I67 hf (by decide) fun a b9 w e' hb9 hs9 B9 hf => ?_
    have hle9 := Nat.le_trans e.size (Nat.le_of_eq hb9.symm)
    have lt9_B7 := B7.lt
    replace K := K.ext e'
    replace St := St.ext e'
    replace e := Ext.tr e e'
    replace B7 := B7.ext e'
    clear e'
    replace hf := hf.keep [1, 2, 3, 4, 5, 6, 7, 9, 18]
    dsimp only [keep, List.filterMap, look, Nat.beq, Option.map] at hf
    have n9 : W.heap.size ≤ b9 ∧ b9 ≠ b7 := by have := B7.lt; omega
    haveI hinr : ∀ G0, InR (GB W G0) (some b9) := fun G0 => InR.gb (by omega)
    refine tl_stW T67 hf rfl rfl (wordsC_one _) B9 rfl (rfl) fun w hg hsz B9 hf => ?_
    replace K := K.gr hg (by omega)
    replace St := St.ch (Chg.of_gro hg) (hnot _ (by omega))
    replace e := e.gr hg (by omega)
    replace B7 := B7.gr hg (by omega)
    clear hg
    refine tl_nil ?_
    replace B9 : Blk w b9 (setC (outM fs part)) 67 := B9
    replace hf := hf.keep [1, 2, 3, 4, 5, 6, 7, 9]
    dsimp only [keep, List.filterMap, look, Nat.beq, Option.map] at hf
    repeat refine seq ?_
    refine regn 4 hf (by decide +kernel) ?_
    refine st (ld1 T107 rfl K.f rfl) ?_
    refine st (ldW T67 rfl B7 rfl) ?_
    refine st (ldW T67 rfl B9 rfl) ?_
    refine st (call3 (A := E (I (splitter fs part : Nat))) En57 rfl rfl rfl (fun v u s w he h h' h'' => by cases h; cases h'; cases h''; exact spl_spec F part fv w (K.t0.ext he) (Dv.ex K.hv he) hin hP.conn hp0)) ?_
    refine en fun a w e' hf => ?_
    replace K := K.ext e'
    replace St := St.ext e'
    replace e := Ext.tr e e'
    replace B7 := B7.ext e'
    replace B9 := B9.ext e'
    clear e'
    refine tl_as hf rfl (by decide) fun a hf => ?_
    refine tl_nil ?_
    replace hf := hf.keep [1, 2, 3, 4, 5, 6, 7, 9, 10]
    dsimp only [keep, List.filterMap, look, Nat.beq, Option.map] at hf
    have hbc := bg_get hcn
    repeat refine seq ?_
    refine regn0 ?_
    refine tl_op hf (by decide) (ld1 T23 rfl K.t rfl) fun a w e' hf => ?_
    replace K := K.ext e'
    replace St := St.ext e'
    replace e := Ext.tr e e'
    replace B7 := B7.ext e'
    replace B9 := B9.ext e'
    clear e'
    refine tl_op hf (by decide) (mv rfl) fun a w e' hf => ?_
    replace K := K.ext e'
    replace St := St.ext e'
    replace e := Ext.tr e e'
    replace B7 := B7.ext e'
    replace B9 := B9.ext e'
    clear e'
    refine tl_op hf (by decide) (idxD Tryz.underlying23 S70 (isE rfl K.ht) rfl (by omega) (hbc)) fun a w e' hf => ?_
    replace K := K.ext e'
    replace St := St.ext e'
    replace e := Ext.tr e e'
    replace B7 := B7.ext e'
    replace B9 := B9.ext e'
    clear e'
    refine tl_op hf (by decide) (fldD Tryz.underlying70 rfl T67 (by decide) (Fld.snd Fld.refl rfl) (isR rfl)) fun a w e' hf => ?_
    replace K := K.ext e'
    replace St := St.ext e'
    replace e := Ext.tr e e'
    replace B7 := B7.ext e'
    replace B9 := B9.ext e'
    clear e'
    refine tl_op hf (by decide) (ldS T67 (isR rfl)) fun a w e' hf => ?_
    replace K := K.ext e'
    replace St := St.ext e'
    replace e := Ext.tr e e'
    replace B7 := B7.ext e'
    replace B9 := B9.ext e'
    clear e'
    refine tl_alloc I67 hf (by decide) fun a b11 w e' hb11 hs11 B11 hf => ?_
    have hle11 := Nat.le_trans e.size (Nat.le_of_eq hb11.symm)
    have lt11_B7 := B7.lt
    have lt11_B9 := B9.lt
    replace K := K.ext e'
    replace St := St.ext e'
    replace e := Ext.tr e e'
    replace B7 := B7.ext e'
    replace B9 := B9.ext e'
    clear e'
    have n11 : W.heap.size ≤ b11 ∧ b11 ≠ b7 ∧ b11 ≠ b9 := by have := B7.lt; have := B9.lt; omega
    replace hf := hf.keep [1, 2, 3, 4, 5, 6, 7, 9, 10, 11, 27]
    dsimp only [keep, List.filterMap, look, Nat.beq, Option.map] at hf
    haveI hinr : ∀ G0, InR (GB W G0) (some b11) := fun G0 => InR.gb (by omega)
    refine tl_stW T67 hf rfl rfl (wordsC_one _) B11 rfl (rfl) fun w hg hsz B11 hf => ?_
    replace K := K.gr hg (by omega)
    replace St := St.ch (Chg.of_gro hg) (hnot _ (by omega))
    replace e := e.gr hg (by omega)
    replace B7 := B7.gr hg (by omega)
    replace B9 := B9.gr hg (by omega)
    clear hg
    refine tl_nil ?_
    replace B11 : Blk w b11 (setC (hasTo t (splitter fs part) [])) 67 := B11
    replace hf := hf.keep [1, 2, 3, 4, 5, 6, 7, 9, 10, 11]
    dsimp only [keep, List.filterMap, look, Nat.beq, Option.map] at hf
    obtain ⟨Nz, hNz⟩ : ∃ Nz, Nz = w.heap.size := ⟨_, rfl⟩
    obtain ⟨c0, hsp0⟩ : ∃ c0, splitter fs part = c0 := ⟨_, rfl⟩
    obtain ⟨out, hout⟩ : ∃ out, outM fs part = out := ⟨_, rfl⟩
    rw [hsp0] at hf B11
    rw [hout] at B9
    repeat refine seq ?_
    refine regn 2 hf (by decide +kernel) ?_
    refine st (ldW T67 rfl B9 rfl) ?_
    refine st (call1 (A := SeqA Nz out) En58 rfl (fun v w' he h => by cases h; exact Calls.mono (all_spec _ w') (fun en w2 ⟨u, h1, h2, b', h3, h4, h5⟩ => ⟨u, h1, h2, b', by have := he.size; omega, h4, h5⟩))) ?_
    refine en fun a w e' hf => ?_
    replace K := K.ext e'
    replace St := St.ext e'
    replace e := Ext.tr e e'
    replace B7 := B7.ext e'
    replace B9 := B9.ext e'
    replace B11 := B11.ext e'
    clear e'
    refine tl_nil ?_
    obtain ⟨v, ⟨b29, h29, rfl, BS⟩, hf⟩ := hf.fix 29 rfl
    replace hf := hf.keep [1, 2, 3, 4, 5, 6, 7, 9, 10, 11, 29]
    dsimp only [keep, List.filterMap, look, Nat.beq, Option.map] at hf
    have hWw : W.heap.size ≤ w.heap.size := e.size
    have h0w : 0 < w.heap.size := by omega
    have ll : b2 < w.heap.size ∧ b3 < w.heap.size ∧ b6 < w.heap.size ∧ b7 < w.heap.size ∧ b9 < w.heap.size ∧ b11 < w.heap.size := ⟨K.f.lt, K.t.lt, K.s.lt, B7.lt, B9.lt, B11.lt⟩
    have hSw : ∀ b, SB b4 b5 ut ua b → b < w.heap.size := fun b hb => Nat.lt_of_lt_of_le (hSl b hb) hWw
    have hBw : B0 ≤ w.heap.size := Nat.le_trans hBW hWw
    repeat refine seq ?_
    refine blk ?_
    have hJ0 : ∀ s w1, BJ W fs t B0 b2 b3 b4 b5 b6 b7 b9 b11 fv tv ut ua L part c0 s w1 → Tab w1 := fun s w1 h => h.k.t0
    refine range_all3 (S := out) hf rfl BS (by decide) (fun s w1 => BJ W fs t B0 b2 b3 b4 b5 b6 b7 b9 b11 fv tv ut ua L part c0 s w1) (fun _ _ => False) hJ0
      ⟨e, K, St, B7, by rw [hout]; exact B9, B11⟩ (fun s w1 w2 h hs k => h.kp k hWw h0w hBw ll hSw) (fun _ _ _ h => h.elim) ?_ ?_ (fun _ _ _ _ _ _ h => h.elim)
    · intro l s x rest a1 w1 hs hJ hlw hf
      have hxo : out.getLsbD x = true := (mem_elems.1 (by rw [hs]; simp)).2
      have hxt : x < t.length := by rw [htl]; exact hinO x (by rw [hout]; exact hxo)
      have hbx := bg_get hxt
      generalize hBz : w.heap.size = Bz at *
      refine regn0 ?_
      refine tl_as hf rfl (by decide) fun a hf => ?_
      refine tl_nil ?_
      simp only [Exit.then]
      refine ⟨Kh.rfl' _ _, fun w3 k3 hsz3 => ?_⟩
      have hJ3 := hJ.kp k3 hWw h0w hBw ll hSw
      clear e K St B7 B9 B11 BS hJ
      replace hf := hf.pure w3
      obtain ⟨e, K, St, B7, B9, B11⟩ := hJ3
      have kh := Kh.rfl' Bz w3
      replace hf := hf.keep [3, 11, 12]
      dsimp only [keep, List.filterMap, look, Nat.beq, Option.map] at hf
      repeat refine seq ?_
      refine blk ?_
      repeat refine seq ?_
      refine reg 7 Mix.mix hf (by decide +kernel) ?_
      refine st (ldW T67 rfl B11 rfl) ?_
      refine st (ld1 (v := tv) T23 rfl K.t rfl) ?_
      refine st (mv rfl) ?_
      refine st (idxD Tryz.underlying23 S70 (isE rfl K.ht) rfl (by omega) (hbx)) ?_
      refine st (fldD Tryz.underlying70 rfl T67 (by decide) (Fld.snd Fld.refl rfl) (isR rfl)) ?_
      refine st (ldS T67 (isR rfl)) ?_
      refine st (call2 En59 rfl rfl (fun v u w he h h' => by cases h; cases h'; exact union_spec _ _ w)) ?_
      refine en fun a w e' hf => ?_
      replace K := K.ext e'
      replace St := St.ext e'
      replace kh := kh.tr (Kh.ext e')
      replace e := Ext.tr e e'
      replace B7 := B7.ext e'
      replace B9 := B9.ext e'
      replace B11 := B11.ext e'
      clear e'
      replace hf := hf.keep [3, 11, 12, 37]
      dsimp only [keep, List.filterMap, look, Nat.beq, Option.map] at hf
      haveI hinr : ∀ G0, InR (GB W G0) (some b11) := fun G0 => InR.gb (by omega)
      refine tl_stW T67 hf rfl rfl (wordsC_one _) B11 rfl (rfl) fun w hg hsz B11 hf => ?_
      replace K := K.gr hg (by omega)
      replace St := St.ch (Chg.of_gro hg) (hnot _ (by omega))
      replace kh := kh.tr (Kh.gr hg (fun hh => by have := hh.1; omega))
      replace e := e.gr hg (by omega)
      replace B7 := B7.gr hg (by omega)
      replace B9 := B9.gr hg (by omega)
      clear hg
      refine tl_nil ?_
      simp only [Exit.inBlock]
      exact ⟨⟨e, K, St, B7, B9, by rw [hasTo_app]; exact B11⟩, kh⟩
    · intro a' w' hf' hJ hsz hDn
      simp only [Exit.inBlock, ↓reduceIte, Exit.then]
      have hD : Ds [w.heap.size] w' := (Ds.nil w').cons hDn (by simp)
      have hf : FrD 64 (marks [w.heap.size]) a' w' [(1, E (I up)), (2, E (.pointer (some ⟨b2, 0, none⟩))), (4, E (.pointer (some ⟨b4, 0, none⟩))), (5, E (.pointer (some ⟨b5, 0, none⟩))), (6, E (.pointer (some ⟨b6, 0, none⟩))), (7, E (.pointer (some ⟨b7, 0, none⟩))), (10, E (I (c0 : Nat))), (11, E (.pointer (some ⟨b11, 0, none⟩)))] := hf'.keep [1, 2, 4, 5, 6, 7, 10, 11]
      have hDW : ∀ d ∈ [w.heap.size], W.heap.size ≤ d := fun d hd => by rw [List.mem_singleton] at hd; omega
      have hwW : w.heap.size ≤ w'.heap.size := hsz
      clear hf' e K St B7 B9 B11 BS hDn
      obtain ⟨e, K, St, B7, B9, B11⟩ := hJ
      clear ll hSw hBw hWw h0w h29 hsz hNz
      generalize [w.heap.size] = D at *
      clear hwW
      generalize w' = w at *
      have hhas : hasTo t c0 (elems out) = hasB fs t part := by rw [hasB, hsp0, hout]
      rw [hhas] at B11
      repeat refine seq ?_
      refine regn 2 hf (by decide +kernel) ?_
      refine st (ld1 (v := ut) T23 rfl St.a rfl) ?_
      refine st ((lenD Tryz.underlying23 (isE rfl St.ht.sl)).eq (congrArg (Value.int .i64) (congrArg (fun n : Nat => (n : Int)) (show (L.map (bagOf fs t)).length = L.length by simp)))) ?_
      refine en fun a w e' hf => ?_
      replace K := K.ext e'
      replace St := St.ext e'
      replace e := Ext.tr e e'
      replace B7 := B7.ext e'
      replace B11 := B11.ext e'
      replace hD := hD.ext e'
      clear e'
      refine tl_as hf rfl (by decide) fun a hf => ?_
      refine tl_nil ?_
      replace hf := hf.keep [1, 2, 4, 5, 6, 7, 10, 11, 13]
      dsimp only [keep, List.filterMap, look, Nat.beq, Option.map] at hf
      have hS0 := St.k K h0 h4 h5 h34
      repeat refine seq ?_
      refine regn 5 hf (by decide +kernel) ?_
      refine st (ld1 (v := ut) T23 rfl St.a rfl) ?_
      refine st (mv rfl) ?_
      refine st (ldW T67 rfl B11 rfl) ?_
      refine st (bld2 (e1 := intE) (e2 := setE) (a := up) (b := hasB fs t part) (G := GO Go.Mono.G0 ut) Tryz.underlying70 rfl rfl rfl S3 S67 I70 rfl (isI rfl) (isS rfl)) ?_
      refine st (bsl1 (e := bagE) (G := GO Go.Mono.G0 ut) Tryz.underlying23 I70 rfl (by decide) rfl St.ht.avs (isR rfl)) ?_
      refine en fun a w e' hf => ?_
      replace K := K.ext e'
      replace St := St.ext e'
      replace e := Ext.tr e e'
      replace B7 := B7.ext e'
      replace B11 := B11.ext e'
      replace hD := hD.ext e'
      clear e'
      have hLl : L.length ≤ 3000 := by omega
      refine tl_app Tryz.underlying23 I70 rfl rfl hf (by decide) rfl St.ht (isR rfl) (by simp only [List.length_singleton, List.length_map]; omega) (by simp only [List.length_singleton, List.length_map, maxLen]; omega) fun a ut1 w hg hat Hn hf => ?_
      have cg := Chg.of_gro hg
      have c := (e.chg (SB b4 b5 ut ua)).tr (cg.to fun b _ hb => .inr (.inr (.inl hb)))
      have n7u : ut.ownBlock ≠ some b7 := St.ht.neB B7 (by decide)
      have HA := St.ha.chE cg fun b hb hh => St.ht.neO St.ha (by decide) hh hb
      have hrt : ∀ g, ut1.ownBlock = some g → ut.ownBlock = some g ∨ W.heap.size ≤ g := fun g hg' => by
        rcases hat with h | h
        · rw [h] at hg'; exact .inl hg'
        · rw [h] at hg'; cases hg'; exact .inr e.size
      replace B7 := B7.ch cg fun hh => n7u hh
      have B5 := St.b.ch cg fun hh => St.ht.neB St.b (by decide) hh
      have B4 := St.a.ch cg fun hh => St.ht.neB St.a (by decide) hh
      replace hD := hD.ch cg fun d hd hh => St.ht.neD hD hd hh
      replace K := K.ch cg fun b hb => hS0 b (.inr (.inr (.inl hb)))
      clear cg hg hat e B11
      replace hf := hf.keep [1, 2, 4, 5, 6, 7, 10, 13, 45]
      dsimp only [keep, List.filterMap, look, Nat.beq, Option.map] at hf
      have n45 : b5 ≠ b4 := Blk.ne B5 B4 (by decide)
      have n74 : b7 ≠ b4 := by have := hSl b4 (.inl rfl); omega
      have n75 : b7 ≠ b5 := by have := hSl b5 (.inr (.inl rfl)); omega
      have n4u : ut1.ownBlock ≠ some b4 := Hn.neB B4 (by decide)
      have n4a : ua.ownBlock ≠ some b4 := HA.neB B4 (by decide)
      have n4D : ∀ d ∈ D, ¬some b4 = some d := fun d hd hh => by cases hh; exact hD.ne B4 hd
      refine tl_st1 T23 hf rfl rfl Hn.one B4 Nat.zero_lt_one fun w hg hsz B4 hf => ?_
      replace B4 : Blk w b4 #[ut1] 23 := B4
      have cg := Chg.of_gro hg
      replace c := c.tr (cg.to fun b _ hb => by cases hb; exact .inl rfl)
      replace Hn := Hn.chE cg fun b hb hh => by cases hh; exact n4u hb
      replace HA := HA.chE cg fun b hb hh => by cases hh; exact n4a hb
      replace B7 := B7.ch cg fun hh => by cases hh; exact n74 rfl
      replace B5 := B5.ch cg fun hh => by cases hh; exact n45 rfl
      replace hD := hD.ch cg n4D
      replace K := K.ch cg fun b hb => by cases hb; exact hS0 b4 (.inl rfl)
      clear cg hg n4u n4a n4D
      refine tl_nil ?_
      replace hf := hf.keep [1, 2, 4, 5, 6, 7, 10, 13]
      dsimp only [keep, List.filterMap, look, Nat.beq, Option.map] at hf
      repeat refine seq ?_
      refine regn 3 hf (by decide +kernel) ?_
      refine st (ld1 (v := ua) T59 rfl B5 rfl) ?_
      refine st (mv rfl) ?_
      refine st (bsl1 (e := intE) (G := GO Go.Mono.G0 ua) Tryz.underlying59 I3 rfl (by decide) rfl HA.avs (isI rfl)) ?_
      refine en fun a w e' hf => ?_
      replace K := K.ext e'
      replace c := c.ext e'
      replace Hn := Hn.ext e'
      replace HA := HA.ext e'
      replace B7 := B7.ext e'
      replace B4 := B4.ext e'
      replace B5 := B5.ext e'
      replace hD := hD.ext e'
      clear e'
      have n7u : ua.ownBlock ≠ some b7 := HA.neB B7 (by decide)
      have n4u : ua.ownBlock ≠ some b4 := HA.neB B4 (by decide)
      have n5u : ua.ownBlock ≠ some b5 := HA.neB B5 (by decide)
      have hwc := c.size
      have hSa : ∀ b, ua.ownBlock = some b → SB b4 b5 ut ua b := fun b hb => .inr (.inr (.inr hb))
      refine tl_app Tryz.underlying59 I3 rfl rfl hf (by decide) rfl HA (isR rfl) (by simp only [List.length_singleton, List.length_map]; omega) (by simp only [List.length_singleton, List.length_map, maxLen]; omega) fun a ua1 w hg hat Hm hf => ?_
      have cg := Chg.of_gro hg
      have hra : ∀ g, ua1.ownBlock = some g → ua.ownBlock = some g ∨ W.heap.size ≤ g := fun g hg' => by
        rcases hat with h | h
        · rw [h] at hg'; exact .inl hg'
        · rw [h] at hg'; cases hg'; exact .inr hwc
      have nua : ∀ b, ua.ownBlock = some b → ut1.ownBlock ≠ some b := fun b hb hh => Hn.neO HA (by decide) hh hb
      have naD : ∀ d ∈ D, ¬ua.ownBlock = some d := fun d hd hh => HA.neD hD hd hh
      replace c := c.tr (cg.to fun b _ hb => hSa b hb)
      replace Hn := Hn.chE cg fun b hb hh => nua b hh hb
      replace B7 := B7.ch cg n7u
      replace B4 := B4.ch cg n4u
      replace B5 := B5.ch cg n5u
      replace hD := hD.ch cg naD
      replace K := K.ch cg fun b hb => hS0 b (hSa b hb)
      clear cg hg hat n7u n4u n5u naD nua hwc HA
      replace hf := hf.keep [1, 2, 4, 5, 6, 7, 10, 13, 49]
      dsimp only [keep, List.filterMap, look, Nat.beq, Option.map] at hf
      have n5u : ut1.ownBlock ≠ some b5 := Hn.neB B5 (by decide)
      have n5a : ua1.ownBlock ≠ some b5 := Hm.neB B5 (by decide)
      have n5D : ∀ d ∈ D, ¬some b5 = some d := fun d hd hh => by cases hh; exact hD.ne B5 hd
      refine tl_st1 T59 hf rfl rfl Hm.one B5 Nat.zero_lt_one fun w hg hsz B5 hf => ?_
      replace B5 : Blk w b5 #[ua1] 59 := B5
      have cg := Chg.of_gro hg
      replace c := c.tr (cg.to fun b _ hb => by cases hb; exact .inr (.inl rfl))
      replace Hn := Hn.chE cg fun b hb hh => by cases hh; exact n5u hb
      replace Hm := Hm.chE cg fun b hb hh => by cases hh; exact n5a hb
      replace B7 := B7.ch cg fun hh => by cases hh; exact n75 rfl
      replace B4 := B4.ch cg fun hh => by cases hh; exact n45 rfl
      replace hD := hD.ch cg n5D
      replace K := K.ch cg fun b hb => by cases hb; exact hS0 b5 (.inr (.inl rfl))
      clear cg hg n5u n5a n5D
      refine tl_nil ?_
      have S1 : BSt fs t B0 b4 b5 (L ++ [(up, part)]) ut1 ua1 w := ⟨B4, B5, by rw [List.map_append]; exact Hn, by rw [List.map_append]; rw [← hsp0] at Hm; exact Hm⟩
      have hr1 : ∀ b, SB b4 b5 ut1 ua1 b → SB b4 b5 ut ua b ∨ W.heap.size ≤ b := by
        rintro b (hb | hb | hb | hb)
        · exact .inl (.inl hb)
        · exact .inl (.inr (.inl hb))
        · exact (hrt b hb).imp (fun h => .inr (.inr (.inl h))) id
        · exact (hra b hb).imp (fun h => .inr (.inr (.inr h))) id
      clear Hn Hm B4 B5 hrt hra St
      replace hf := hf.keep [2, 6, 7, 10, 13]
      dsimp only [keep, List.filterMap, look, Nat.beq, Option.map] at hf
      obtain ⟨ls, hls⟩ : ∃ ls, subs fs part = ls := ⟨_, rfl⟩
      have hls' : partsB fs (del part (c0 : Int)) = ls := by rw [← hsp0]; exact hls
      have hlsP : ∀ C ∈ ls, Pt fs T C ∧ card C ≤ f := fun C hC => by
        rw [← hls] at hC
        have := hP.step F hC
        exact ⟨this.1, by omega⟩
      rw [hls] at hsc
      have hll : ls.length ≤ 1024 := by
        have h1 := (parts_some F (del_in hin (c0 : Int))).2.1
        have h2 := card_le_n (S := del part (c0 : Int)) (n := 1024) fun i hi => bit_lt hi
        rw [hls'] at h1; omega
      have hcW := c.size
      obtain ⟨N1, hN1⟩ : ∃ N1, N1 = w.heap.size := ⟨_, rfl⟩
      have hSN : ∀ b, SB b4 b5 ut1 ua1 b → b < N1 := fun b hb => by rw [hN1]; exact S1.lt b hb
      have hW1 : W.heap.size ≤ N1 := by omega
      have hN1w : N1 ≤ w.heap.size := by omega
      repeat refine seq ?_
      refine regn 6 hf (by decide +kernel) ?_
      refine st (ld1 (v := fv) T107 rfl K.f rfl) ?_
      refine st (ldW T67 rfl B7 rfl) ?_
      refine st (mv rfl) ?_
      refine st (call3 (A := Dv (slE setE) (fun b => b < N1) ls) En60 rfl rfl rfl (fun v u s w he h h' h'' => by cases h; cases h'; cases h''; rw [← hls']; exact split_spec F part c0 fv w (K.t0.ext he) (Dv.ex K.hv he) hin (fun b hb => by have := he.size; omega))) ?_
      refine st (lenD Tryz.underlying106 (isR rfl)) ?_
      refine st (mv rfl) ?_
      refine en fun a w e' hf => ?_
      replace K := K.ext e'
      replace c := c.ext e'
      replace S1 := S1.ext e'
      replace hN1w := Nat.le_trans hN1w e'.size
      replace B7 := B7.ext e'
      replace hD := hD.ext e'
      clear e'
      refine tl_nil ?_
      obtain ⟨lv, hlv, hf⟩ := hf.fix 53 rfl
      obtain ⟨N0, hN0⟩ : ∃ N0, N0 = w.heap.size := ⟨_, rfl⟩
      have HL : (Dv (slE setE) (fun b => b < N1 ∨ N0 ≤ b) ls).p lv w := Dv.weak hlv fun b hb hg => hg.elim id fun hg => absurd hb (Nat.not_lt.2 (by omega))
      have hN01 : N1 ≤ N0 := by omega
      have hNw : N0 ≤ w.heap.size := by omega
      have hS1 : ∀ b, SB b4 b5 ut1 ua1 b → b < N1 ∨ N0 ≤ b := fun b hb => .inl (hSN b hb)
      clear hlv hN0 hN1 B7
      have hbal : balL fs (f + 1) part up L = balK fs f (L.length : Int) (ls.take ls.length) (L ++ [(up, part)]) := by
        rw [List.take_length, ← hls]; rfl
      rw [hbal]
      have S1' : BSt fs t B0 b4 b5 (balK fs f (L.length : Int) (ls.take 0) (L ++ [(up, part)])) ut1 ua1 w := S1
      replace hf := hf.keep [6, 13, 53, 54, 55]
      dsimp only [keep, List.filterMap, look, Nat.beq, Option.map] at hf
      repeat refine seq ?_
      refine blk (loopN (fun r0 a w => ∃ (k : Nat) (utk uak : Value), r0 = ls.length - k ∧ k ≤ ls.length ∧ FrD 64 (marks D) a w [(6, E (.pointer (some ⟨b6, 0, none⟩))), (13, E (I (L.length : Nat))), (53, E lv), (54, E (I (ls.length : Nat))), (55, E (I k))] ∧
        Chg (SB b4 b5 ut ua) W w ∧ BK fs t B0 b2 b3 b4 b5 b6 fv tv w ∧ BSt fs t B0 b4 b5 (balK fs f (L.length : Int) (ls.take k) (L ++ [(up, part)])) utk uak w ∧ (Dv (slE setE) (fun b => b < N1 ∨ N0 ≤ b) ls).p lv w ∧ Ds D w ∧
        (∀ b, SB b4 b5 utk uak b → (SB b4 b5 ut ua b ∨ W.heap.size ≤ b) ∧ (b < N1 ∨ N0 ≤ b)) ∧ N0 ≤ w.heap.size) ls.length ⟨0, ut1, ua1, rfl, by omega, hf, c, K, S1', HL, hD, fun b hb => ⟨hr1 b hb, hS1 b hb⟩, hNw⟩ ?_)
      clear hf c K S1 S1' HL hD hr1 hS1 hSN hNw hcW hN1w
      rintro r0 a w ⟨k, utk, uak, rfl, hk, hf, c, K, Sk, HL, hD, hrk, hNw⟩
      repeat refine seq ?_
      refine regn 1 hf (by decide +kernel) ?_
      refine st (lss rfl rfl) ?_
      refine en fun a w e' hf => ?_
      replace K := K.ext e'
      replace c := c.ext e'
      replace Sk := Sk.ext e'
      replace HL := Dv.ex HL e'
      replace hNw := Nat.le_trans hNw e'.size
      replace hD := hD.ext e'
      clear e'
      refine tl_nil ?_
      repeat refine seq ?_
      refine ifc hf rfl (fun hc => wskip ?_) (fun hc => wexit ?_)
      · have hlt : k < ls.length := by have := of_decide_eq_true hc; omega
        clear hc
        simp only [Exit.then, Exit.inBlock, ↓reduceIte]
        obtain ⟨C, hC⟩ : ∃ C, ls[k]? = some C := ⟨_, List.getElem?_eq_getElem hlt⟩
        obtain ⟨hCp, hCf⟩ := hlsP C (List.mem_of_getElem? hC)
        have hlenk := balK_len (u := (L.length : Int)) F (ls.take k) (L ++ [(up, part)]) fun D hD => hlsP D (List.mem_of_mem_take hD)
        have hst := sum_take_succ hC
        have hsle := sum_take_le ls (k + 1)
        rw [List.length_append, List.length_singleton] at hlenk
        repeat refine seq ?_
        refine blk ?_
        repeat refine seq ?_
        refine regn0 ?_
        refine tl_op hf (by decide) (idxD Tryz.underlying106 S67 (isE rfl HL) rfl (by omega) (hC)) fun a w e' hf => ?_
        replace K := K.ext e'
        replace c := c.ext e'
        replace Sk := Sk.ext e'
        replace HL := Dv.ex HL e'
        replace hNw := Nat.le_trans hNw e'.size
        replace hD := hD.ext e'
        clear e'
        refine tl_op hf (by decide) (ldS T67 (isR rfl)) fun a w e' hf => ?_
        replace K := K.ext e'
        replace c := c.ext e'
        replace Sk := Sk.ext e'
        replace HL := Dv.ex HL e'
        replace hNw := Nat.le_trans hNw e'.size
        replace hD := hD.ext e'
        clear e'
        replace hf := hf.keep [6, 13, 53, 54, 55, 58]
        dsimp only [keep, List.filterMap, look, Nat.beq, Option.map] at hf
        have hSlt := Sk.lt
        have hDlt : ∀ d ∈ D, d < w.heap.size := fun d hd => hD.lt hd
        have hBw2 : B0 ≤ w.heap.size := by omega
        refine tl_alloc I67 hf (by decide) fun a b15 w e' hb15 hs15 B15 hf => ?_
        have lo15_hNw := Nat.le_trans hNw (Nat.le_of_eq hb15.symm)
        replace K := K.ext e'
        replace c := c.ext e'
        replace Sk := Sk.ext e'
        replace HL := Dv.ex HL e'
        replace hNw := Nat.le_trans hNw e'.size
        replace hD := hD.ext e'
        clear e'
        have hkb15 : ¬SB b4 b5 utk uak b15 := fun h => by have := hSlt _ h; omega
        have hkD : ¬ b15 ∈ D := fun h => by have := hDlt _ h; omega
        have hN15 : N0 ≤ b15 := by omega
        haveI hav : AvL b15 [] := inferInstance
        refine tl_stW T67 hf rfl rfl (wordsC_one _) B15 rfl (setC_size _) fun w hg hsz B15 hf => ?_
        replace K := K.gr hg (by omega)
        replace c := c.gr hg (.inr (by omega))
        replace Sk := Sk.ch (Chg.of_gro hg) (fun b hb hs => by cases hb; exact hkb15 hs)
        replace HL := Dv.gr HL hg (.inr (by omega))
        replace hNw := Nat.le_trans hNw (Nat.le_of_eq hsz.symm)
        replace hD := hD.gr hg hkD
        clear hg
        refine tl_nil ?_
        replace B15 : Blk w b15 (setC C) 67 := B15
        replace hf := hf.keep [6, 13, 15, 53, 54, 55]
        dsimp only [keep, List.filterMap, look, Nat.beq, Option.map] at hf
        repeat refine seq ?_
        refine regn 3 hf (by decide +kernel) ?_
        refine st (ld1 T110 rfl K.s rfl) ?_
        refine st (ldW T67 rfl B15 rfl) ?_
        refine st (mv rfl) ?_
        refine en fun a w e' hf => ?_
        replace K := K.ext e'
        replace c := c.ext e'
        replace Sk := Sk.ext e'
        replace HL := Dv.ex HL e'
        replace hNw := Nat.le_trans hNw e'.size
        replace hD := hD.ext e'
        replace B15 := B15.ext e'
        clear e'
        have v60 : a.eval (.tmp 60) = setV C := hf.val 60 _ rfl
        have v61 : a.eval (.tmp 61) = I (L.length : Nat) := hf.val 61 _ rfl
        have hkS := Sk.k K h0 h4 h5 h34
        have hkDD : ∀ d ∈ D, ¬SB b4 b5 utk uak d := fun d hd => Sk.neD hD hd
        refine tl_callV (S := SB b4 b5 utk uak) (F := fun w' => ∃ ut' ua', BSt fs t B0 b4 b5 (balL fs f C (L.length : Int) (balK fs f (L.length : Int) (ls.take k) (L ++ [(up, part)]))) ut' ua' w' ∧ ∀ b, SB b4 b5 ut' ua' b → SB b4 b5 utk uak b ∨ w.heap.size ≤ b) (A := Any) hf (by decide) En55 rfl ?_ fun a w' hc hF hf => ?_
        · have := ih C (L.length : Int) (balK fs f (L.length : Int) (ls.take k) (L ++ [(up, part)])) utk uak w hCp hCf (by omega) K Sk
          simpa [v60, v61] using this
        obtain ⟨ut', ua', Sk', hr'⟩ := hF
        replace hr' : ∀ b, SB b4 b5 ut' ua' b → (SB b4 b5 ut ua b ∨ W.heap.size ≤ b) ∧ (b < N1 ∨ N0 ≤ b) := fun b hb => by
          rcases hr' b hb with h | h
          · exact hrk b h
          · have := c.size
            exact ⟨.inr (by omega), .inr (by omega)⟩
        replace K := K.ch hc hkS
        replace c := c.tr2 hc fun b hb => (hrk b hb).1
        replace HL := Dv.ch HL hc fun b hb => (hrk b hb).2
        replace hD := hD.ch hc hkDD
        replace hNw := Nat.le_trans hNw hc.size
        rw [← balK_succ fs f (L.length : Int) ls (L ++ [(up, part)]) hC] at Sk'
        clear hc Sk B15 hrk hkS hkDD v60 v61
        refine tl_nil ?_
        try simp only [Exit.then, Exit.inBlock, ↓reduceIte]
        replace hf := hf.keep [6, 13, 53, 54, 55]
        dsimp only [keep, List.filterMap, look, Nat.beq, Option.map] at hf
        repeat refine seq ?_
        refine regn 1 hf (by decide +kernel) ?_
        refine st ((add rfl rfl (by omega)).eq (congrArg (Value.int .i64) (show (k : Int) + 1 = ((k + 1 : Nat) : Int) from rfl))) ?_
        refine en fun a w e' hf => ?_
        replace K := K.ext e'
        replace c := c.ext e'
        replace Sk' := Sk'.ext e'
        replace HL := Dv.ex HL e'
        replace hNw := Nat.le_trans hNw e'.size
        replace hD := hD.ext e'
        clear e'
        refine tl_op hf (by decide) (mv rfl) fun a w e' hf => ?_
        replace K := K.ext e'
        replace c := c.ext e'
        replace Sk' := Sk'.ext e'
        replace HL := Dv.ex HL e'
        replace hNw := Nat.le_trans hNw e'.size
        replace hD := hD.ext e'
        clear e'
        refine tl_nil ?_
        replace hf := hf.keep [6, 13, 53, 54, 55]
        dsimp only [keep, List.filterMap, look, Nat.beq, Option.map] at hf
        exact ⟨ls.length - (k + 1), by omega, k + 1, ut', ua', rfl, by omega, hf, c, K, Sk', HL, hD, hr', hNw⟩
      · obtain rfl : k = ls.length := by have := of_decide_eq_false hc; omega
        clear hc
        simp only [Exit.then, Exit.inBlock, ↓reduceIte]
        have cs := chg_shut D w
        refine ret0M rfl hf hD ⟨_, rfl, c.tr2 cs fun b hb => .inr (hDW b hb), trivial, utk, uak, Sk.ch cs fun d hd => Sk.neD hD hd, fun b hb => (hrk b hb).1⟩
end Go.Mono

namespace Go.Mono
open Go Go.Proofs Go.RowKit

def belowB (n : Nat) : BS := BitVec.ofNat 1024 (2 ^ n - 1)
theorem below_bit (n i : Nat) (hi : i < 1024) : (belowB n).getLsbD i = decide (i < n) := by
  rw [belowB, BitVec.getLsbD_ofNat, Nat.testBit_two_pow_sub_one]
  simp [hi]
theorem ones_low : ∀ m, m ≤ 64 → ∀ j, j < 64 → ((1#64 <<< m) - 1#64).getLsbD j = decide (j < m) := by decide +kernel
theorem word_below (n i : Nat) (hi : i < 16) : word (belowB n) i = (1#64 <<< (max 0 (min ((n : Int) - 64 * (i : Int)) 64)).toNat) - 1#64 := by
  refine BitVec.eq_of_getLsbD_eq fun j hj => ?_
  rw [word_bit _ _ _ hj, below_bit _ _ (by omega), ones_low _ (by omega) j hj, decide_eq_decide]
  omega

theorem below_spec' (n : Nat) (W : World) (hn : n ≤ 1024) : Calls Tryz.prog 61 #[I (n : Nat)] W (Post (E (setV (belowB n))) W) := by
  refine enter (args := [I (n : Nat)]) (As := [E (I (n : Nat))]) Tryz.func61 rfl Tryz.ntmps61 (Nat.le_of_ble_eq_true rfl) ?_ (fun a hf => ?_) (Nat.le_of_ble_eq_true rfl)
  rotate_left
  dsimp only [params, Nat.reduceAdd] at hf
  rotate_right
  · exact arg1 rfl
  have e := Ext.rfl' W
  repeat refine seq ?_
  refine regn0 ?_
  refine tl_alloc I67 hf (by decide) fun a b2 w e' hb2 hs2 B2 hf => ?_
  have hle2 := Nat.le_trans e.size (Nat.le_of_eq hb2.symm)
  replace e := Ext.tr e e'
  clear e'
  refine tl_nil ?_
  simp only [Value.cells, zeroC] at B2
  repeat refine seq ?_
  refine regn0 ?_
  refine tl_alloc I67 hf (by decide) fun a b3 w e' hb3 hs3 B3 hf => ?_
  have hle3 := Nat.le_trans e.size (Nat.le_of_eq hb3.symm)
  have lt3_B2 := B2.lt
  replace e := Ext.tr e e'
  replace B2 := B2.ext e'
  clear e'
  refine tl_nil ?_
  simp only [Value.cells, zeroC] at B3
  have n32 : b3 ≠ b2 := by omega
  replace hf := hf.keep [0, 2, 3]
  dsimp only [keep, List.filterMap, look, Nat.beq, Option.map] at hf
  repeat refine seq ?_
  refine regn 3 hf (by decide +kernel) ?_
  refine st (mv rfl) ?_
  refine st (min2 rfl rfl) ?_
  refine st ((max2 rfl rfl).eq (congrArg (Value.int .i64) (show max (0 : Int) (min (n : Int) 1024) = (n : Int) by omega))) ?_
  refine en fun a w e' hf => ?_
  replace e := Ext.tr e e'
  replace B2 := B2.ext e'
  replace B3 := B3.ext e'
  clear e'
  refine tl_as hf rfl (by decide) fun a hf => ?_
  refine tl_nil ?_
  repeat refine seq ?_
  refine regn 1 hf (by decide +kernel) ?_
  refine st (mv rfl) ?_
  refine en fun a w e' hf => ?_
  replace e := Ext.tr e e'
  replace B2 := B2.ext e'
  replace B3 := B3.ext e'
  clear e'
  refine tl_nil ?_
  replace hf := hf.keep [0, 2, 3, 8]
  dsimp only [keep, List.filterMap, look, Nat.beq, Option.map] at hf
  repeat refine seq ?_
  refine blk (loopN (fun r a w => ∃ k : Nat, r = 16 - k ∧ k ≤ 16 ∧ Fr 23 a w [(0, E (I (n : Nat))), (2, E (.pointer (some ⟨b2, 0, none⟩))), (3, E (.pointer (some ⟨b3, 0, none⟩))), (8, E (I k))] ∧ Ext W w ∧
    Blk w b2 (setC 0) 67 ∧ Blk w b3 (wordsC fun i => if i < k then word (belowB n) i else 0) 67) 16 ⟨0, rfl, by omega, hf, e, B2, ?_⟩ ?_)
  · have e0 : (wordsC fun i => if i < 0 then word (belowB n) i else 0) = setC 0 := by
      rw [setC_zero]
      exact wordsC_congr fun i _ => if_neg (Nat.not_lt_zero i)
    rw [e0]; exact B3
  clear hf e B2 B3
  rintro r a w ⟨k, rfl, hk, hf, e, B2, B3⟩
  by_cases hlt : k < 16
  · repeat refine seq ?_
    refine regn 1 hf (by decide +kernel) ?_
    refine st ((lss rfl rfl).eq (congrArg Value.bool (show decide ((k : Int) < 16) = true from decide_eq_true (by omega)))) ?_
    refine en fun a w e' hf => ?_
    replace e := Ext.tr e e'
    replace B2 := B2.ext e'
    replace B3 := B3.ext e'
    clear e'
    refine tl_nil ?_
    repeat refine seq ?_
    refine ifc hf rfl (fun _ => wskip ?_) (fun h => by cases h)
    repeat refine seq ?_
    refine blk ?_
    repeat refine seq ?_
    refine regn 1 hf (by decide +kernel) ?_
    refine st (mv rfl) ?_
    refine en fun a w e' hf => ?_
    replace e := Ext.tr e e'
    replace B2 := B2.ext e'
    replace B3 := B3.ext e'
    clear e'
    refine tl_as hf rfl (by decide) fun a hf => ?_
    refine tl_nil ?_
    have hwb := word_below n k hlt
    repeat refine seq ?_
    refine regn 10 hf (by decide +kernel) ?_
    refine st (mv rfl) ?_
    refine st (mv rfl) ?_
    refine st (mv rfl) ?_
    refine st (mul rfl rfl (by omega)) ?_
    refine st (sub rfl rfl (by omega)) ?_
    refine st (min2 rfl rfl) ?_
    refine st (max2 rfl rfl) ?_
    refine st (shlW (u := 1#64) rfl rfl (by omega)) ?_
    refine st ((subW (v := 1#64) rfl rfl).eq (show Mono.W _ = Mono.W (word (belowB n) k) from by rw [hwb])) ?_
    refine st (idxA Tryz.underlying67 ⟨_, T65⟩ rfl rfl (by omega)) ?_
    refine en fun a w e' hf => ?_
    replace e := Ext.tr e e'
    replace B2 := B2.ext e'
    replace B3 := B3.ext e'
    clear e'
    refine tl_st1 T65 hf rfl rfl rfl B3 (by rw [wordsC_size]; simp; omega) fun w hg hsz B3 hf => ?_
    replace e := e.gr hg (by omega)
    replace B2 := B2.gr hg (by omega)
    clear hg
    refine tl_nil ?_
    replace B3 : Blk w b3 (wordsC fun i => if i < k + 1 then word (belowB n) i else 0) 67 := by
      have : (wordsC fun i => if i < k then word (belowB n) i else 0).setIfInBounds k (Mono.W (word (belowB n) k)) = wordsC fun i => if i < k + 1 then word (belowB n) i else 0 := by
        rw [wordsC_set]
        refine wordsC_congr fun i hi => ?_
        by_cases h1 : i = k
        · subst h1; simp
        · simp only [h1, if_false]
          by_cases h2 : i < k
          · simp [h2, show i < k + 1 by omega]
          · simp [h2, show ¬ i < k + 1 by omega]
      rw [← this]
      simpa using B3
    replace hf := hf.keep [0, 2, 3, 8]
    dsimp only [keep, List.filterMap, look, Nat.beq, Option.map] at hf
    repeat refine seq ?_
    refine regn 1 hf (by decide +kernel) ?_
    refine st (add rfl rfl (by omega)) ?_
    refine en fun a w e' hf => ?_
    replace e := Ext.tr e e'
    replace B2 := B2.ext e'
    replace B3 := B3.ext e'
    clear e'
    refine tl_op hf (by decide) (mv rfl) fun a w e' hf => ?_
    replace e := Ext.tr e e'
    replace B2 := B2.ext e'
    replace B3 := B3.ext e'
    clear e'
    refine tl_nil ?_
    replace hf := hf.keep [0, 2, 3, 8]
    dsimp only [keep, List.filterMap, look, Nat.beq, Option.map] at hf
    exact ⟨16 - (k + 1), by omega, k + 1, rfl, by omega, by simpa using hf, e, B2, B3⟩
  · obtain rfl : k = 16 := by omega
    repeat refine seq ?_
    refine regn 1 hf (by decide +kernel) ?_
    refine st ((lss rfl rfl).eq (congrArg Value.bool (show decide (((16 : Nat) : Int) < 16) = false from rfl))) ?_
    refine en fun a w e' hf => ?_
    replace e := Ext.tr e e'
    replace B2 := B2.ext e'
    replace B3 := B3.ext e'
    clear e'
    refine tl_nil ?_
    repeat refine seq ?_
    refine ifc hf rfl (fun h => by cases h) (fun _ => wexit ?_)
    simp only [Exit.then, Exit.inBlock, ↓reduceIte]
    have hC : (wordsC fun i => if i < 16 then word (belowB n) i else 0) = setC (belowB n) := wordsC_congr fun i hi => by
      simp only [hi, if_true]
    rw [hC] at B3
    repeat refine seq ?_
    refine regn 1 hf (by decide +kernel) ?_
    refine st (ldW T67 rfl (by assumption) rfl) ?_
    refine en fun a w e' hf => ?_
    replace e := Ext.tr e e'
    replace B2 := B2.ext e'
    replace B3 := B3.ext e'
    clear e'
    haveI hinr : ∀ G0, InR (GB W G0) (some b2) := fun G0 => InR.gb (by omega)
    refine tl_stW T67 hf rfl rfl (wordsC_one _) B2 rfl (rfl) fun w hg hsz B2 hf => ?_
    replace e := e.gr hg (by omega)
    replace B3 := B3.gr hg (by omega)
    clear hg
    refine tl_nil ?_
    refine wret (retS rfl T67 hf rfl B2 e rfl)
end Go.Mono

namespace Go.Mono
open Go Go.Proofs Go.RowKit

/-- a part of the tree t that hangs together -/
noncomputable def partE (t : List (Int × BS)) (part : BS) : Int :=
  if chkR (toT t) ≠ 0 then chkR (toT t)
  else if minOf part = none ∨ part &&& ~~~belowB t.length ≠ 0 ∨ compB (adjL t) part ((minOf part).getD 0) ≠ part then 3 else 0
/-- the tree's forest stands for a tree -/
def FoT (t : List (Int × BS)) : Prop := chkR (toT t) = 0 → ∃ T : Tr, Fo (adjL t) T
theorem adjL_len (t : List (Int × BS)) : (adjL t).length = t.length := by simp [adjL]
noncomputable def ChA (t : List (Int × BS)) (part : BS) (G : Nat → Prop) : VA := ⟨fun v w => (partE t part = 0 ∧ (Dv (slE setE) G (adjL t)).p v w) ∨ (partE t part ≠ 0 ∧ v = .slice none 0 0), fun v w w' e h => h.imp (fun h => ⟨h.1, Dv.ex h.2 e⟩) id⟩

theorem checked_spec {G : Nat → Prop} (t : List (Int × BS)) (part : BS) (v : Value) (W : World) (hT : Tab W) (h : (Dv treeE G t).p v W) (hl : t.length ≤ 1000) (hF : FoT t) :
    Calls Tryz.prog 119 #[v, setV part] W (Post (Tup [ChA t part Go.Mono.G0, E (I (partE t part))]) W) := by
  have hT0 := hT.lt
  refine enter (args := [v, setV part]) (As := [Dv treeE (GB W Go.Mono.G0) t, E (setV part)]) Tryz.func119 rfl Tryz.ntmps119 (Nat.le_of_ble_eq_true rfl) ?_ (fun a hf => ?_) (Nat.le_of_ble_eq_true rfl)
  rotate_left
  dsimp only [params, Nat.reduceAdd] at hf
  rotate_right
  · exact arg2 (Dv.toB (Dv.weak h fun b _ hb => hb.elim)) rfl
  have e := Ext.rfl' W
  obtain ⟨tv, HV, hf⟩ := hf.fix 0 rfl
  clear h
  replace hf := hf.keep [0, 1]
  dsimp only [keep, List.filterMap, look, Nat.beq, Option.map] at hf
  repeat refine seq ?_
  refine regn0 ?_
  refine tl_box hf rfl (by decide) fun a b3 w v3 hv3 e' hb3 hs3 B3 hf => ?_
  have hle3 := Nat.le_trans e.size (Nat.le_of_eq hb3.symm)
  replace hT := hT.ext e'
  replace HV := Dv.ex HV e'
  replace e := Ext.tr e e'
  clear e'
  refine tl_as hf rfl (by decide) fun a hf => ?_
  refine tl_as hf rfl (by decide) fun a hf => ?_
  refine tl_nil ?_
  cases hv3
  replace B3 : Blk w b3 (setC part) 67 := B3
  repeat refine seq ?_
  refine regn 5 hf (by decide +kernel) ?_
  refine st (mv rfl) ?_
  refine st (call1 En54 rfl (fun v w he h => by cases h; exact nb_spec t tv w (hT.ext he) (Dv.ex HV he) hl)) ?_
  refine st (mv rfl) ?_
  refine st (ext_ rfl rfl) ?_
  refine st (ext_ rfl rfl) ?_
  refine en fun a w e' hf => ?_
  replace hT := hT.ext e'
  replace HV := Dv.ex HV e'
  replace e := Ext.tr e e'
  replace B3 := B3.ext e'
  clear e'
  refine tl_as hf rfl (by decide) fun a hf => ?_
  refine tl_as hf rfl (by decide) fun a hf => ?_
  refine tl_nil ?_
  replace hf := hf.keep [0, 3, 6, 7]
  dsimp only [keep, List.filterMap, look, Nat.beq, Option.map] at hf
  repeat refine seq ?_
  refine regn 2 hf (by decide +kernel) ?_
  refine st (mv rfl) ?_
  refine st (neq rfl rfl) ?_
  refine en fun a w e' hf => ?_
  replace hT := hT.ext e'
  replace HV := Dv.ex HV e'
  replace e := Ext.tr e e'
  replace B3 := B3.ext e'
  clear e'
  refine tl_nil ?_
  repeat refine seq ?_
  refine ifc hf rfl (fun hb => ?_) (fun hb => ?_)
  · have hb' : chkR (toT t) ≠ 0 := by simpa using hb
    repeat refine seq ?_
    refine regn 1 hf (by decide +kernel) ?_
    refine st (mv rfl) ?_
    refine en fun a w e' hf => ?_
    replace hT := hT.ext e'
    replace HV := Dv.ex HV e'
    replace e := Ext.tr e e'
    replace B3 := B3.ext e'
    clear e'
    refine tl_as hf rfl (by decide) fun a hf => ?_
    refine tl_as hf rfl (by decide) fun a hf => ?_
    refine tl_nil ?_
    have hpe : partE t part = chkR (toT t) := if_pos hb'
    refine wret (ret2 rfl hf rfl rfl ?_)
    rintro _ _ rfl rfl
    exact ⟨_, rfl, e, Tup.two (.inr ⟨by rw [hpe]; exact hb', rfl⟩) (by rw [hpe]; rfl)⟩
  have hb' : chkR (toT t) = 0 := by simpa using hb
  clear hb
  obtain ⟨T, F⟩ := hF hb'
  have hn : T.n = t.length := by rw [← F.len, adjL_len]
  obtain ⟨fv, hfv, hf⟩ := hf.fix 6 rfl
  have HF : (Dv (slE setE) Go.Mono.G0 (adjL t)).p fv w := hfv.elim (·.2) (fun h => absurd hb' h.1)
  clear hfv
  refine wskip ?_
  try simp only [Exit.then, Exit.inBlock, ↓reduceIte]
  replace hf := hf.keep [0, 3, 6]
  dsimp only [keep, List.filterMap, look, Nat.beq, Option.map] at hf
  repeat refine seq ?_
  refine regn 5 hf (by decide +kernel) ?_
  refine st (ldW T67 rfl B3 rfl) ?_
  refine st (call1 En114 rfl (fun v w he h => by cases h; exact min_spec _ w (hT.ext he))) ?_
  refine st (mv rfl) ?_
  refine st (ext_ rfl rfl) ?_
  refine st (ext_ rfl rfl) ?_
  refine en fun a w e' hf => ?_
  replace hT := hT.ext e'
  replace HV := Dv.ex HV e'
  replace HF := Dv.ex HF e'
  replace e := Ext.tr e e'
  replace B3 := B3.ext e'
  clear e'
  refine tl_as hf rfl (by decide) fun a hf => ?_
  refine tl_as hf rfl (by decide) fun a hf => ?_
  refine tl_nil ?_
  replace hf := hf.keep [0, 3, 6, 8, 9]
  dsimp only [keep, List.filterMap, look, Nat.beq, Option.map] at hf
  have hpe : partE t part = if minOf part = none ∨ part &&& ~~~belowB t.length ≠ 0 ∨ compB (adjL t) part ((minOf part).getD 0) ≠ part then 3 else 0 := if_neg (fun h => h hb')
  obtain ⟨c, hc⟩ : ∃ c : Bool, c = decide (minOf part = none ∨ part &&& ~~~belowB t.length ≠ 0 ∨ compB (adjL t) part ((minOf part).getD 0) ≠ part) := ⟨_, rfl⟩
  have hsub : (part &&& ~~~belowB t.length == 0) = true → ∀ i, part.getLsbD i = true → i < T.n := fun h i hi => by
    have h0 := eq_of_beq h
    rw [hn]
    apply Classical.byContradiction
    intro hlt
    have h1 : (part &&& ~~~belowB t.length).getLsbD i = true := (bit_diff _ _ i).2 ⟨hi, by rw [below_bit _ _ (bit_lt hi)]; simpa using hlt⟩
    rw [h0] at h1
    exact bit_zero i h1
  repeat refine seq ?_
  refine cut (J := fun a w => Fr 42 a w [(6, E fv), (40, E (B c))] ∧ Ext W w ∧ (Dv (slE setE) Go.Mono.G0 (adjL t)).p fv w) ?_ (fun a w hJ => ?_)
  · cases h1 : minOf part with
    | none =>
      rw [h1] at hf hc
      repeat refine seq ?_
      refine reg 18 Mix.mix hf (by decide +kernel) ?_
      refine st (mv rfl) ?_
      refine st (notp rfl) ?_
      refine st (mv rfl) ?_
      refine sn rfl rfl rfl ?_
      refine sn rfl rfl rfl ?_
      refine sn rfl rfl rfl ?_
      refine sn rfl rfl rfl ?_
      refine sn rfl rfl rfl ?_
      refine sn rfl rfl rfl ?_
      refine st (pkT rfl rfl) ?_
      refine st (mv rfl) ?_
      refine sn rfl rfl rfl ?_
      refine sn rfl rfl rfl ?_
      refine sn rfl rfl rfl ?_
      refine sn rfl rfl rfl ?_
      refine sn rfl rfl rfl ?_
      refine sn rfl rfl rfl ?_
      refine st ((pkT rfl rfl).eq (show Value.bool _ = B c from congrArg Value.bool (by rw [hc]; simp))) ?_
      refine en fun a w e' hf => ?_
      replace hT := hT.ext e'
      replace HV := Dv.ex HV e'
      replace HF := Dv.ex HF e'
      replace e := Ext.tr e e'
      replace B3 := B3.ext e'
      clear e'
      refine tl_nil ?_
      replace hf := hf.keep [6, 40]
      dsimp only [keep, List.filterMap, look, Nat.beq, Option.map] at hf
      exact ⟨rfl, hf, e, HF⟩
    | some k =>
      rw [h1] at hf hc
      cases h2 : (part &&& ~~~belowB t.length == 0)
      · have hcv : c = true := by
          rw [hc]
          refine decide_eq_true (.inr (.inl fun h => ?_))
          rw [h, beq_self_eq_true] at h2; cases h2
        repeat refine seq ?_
        refine reg 18 Mix.mix hf (by decide +kernel) ?_
        refine st (mv rfl) ?_
        refine st (notp rfl) ?_
        refine st (mv rfl) ?_
        refine sy rfl rfl (ldW T67 rfl B3 rfl) ?_
        refine sy rfl rfl (mv rfl) ?_
        refine sy rfl rfl (lenD Tryz.underlying23 (isE rfl HV)) ?_
        refine sy rfl rfl (call1 En61 rfl (fun v w he h => by cases h; exact below_spec' t.length w (by omega))) ?_
        refine sy rfl rfl ((call2 En73 rfl rfl (fun v u w he h h' => by cases h; cases h'; exact subset_spec _ _ w)).eq (congrArg Value.bool (h2))) ?_
        refine sy rfl rfl (notp rfl) ?_
        refine st (pkF rfl rfl) ?_
        refine st (mv rfl) ?_
        refine sn rfl rfl rfl ?_
        refine sn rfl rfl rfl ?_
        refine sn rfl rfl rfl ?_
        refine sn rfl rfl rfl ?_
        refine sn rfl rfl rfl ?_
        refine sn rfl rfl rfl ?_
        refine st ((pkT rfl rfl).eq (show Value.bool _ = B c from congrArg Value.bool hcv.symm)) ?_
        refine en fun a w e' hf => ?_
        replace hT := hT.ext e'
        replace HV := Dv.ex HV e'
        replace HF := Dv.ex HF e'
        replace e := Ext.tr e e'
        replace B3 := B3.ext e'
        clear e'
        refine tl_nil ?_
        replace hf := hf.keep [6, 40]
        dsimp only [keep, List.filterMap, look, Nat.beq, Option.map] at hf
        exact ⟨rfl, hf, e, HF⟩
      · have hin := hsub h2
        have hcv : (!(compB (adjL t) part k == part)) = c := by
          rw [hc, Bool.eq_iff_iff, decide_eq_true_eq, Bool.not_eq_true', beq_eq_false_iff_ne]
          have h0 := eq_of_beq h2
          constructor
          · intro h; exact .inr (.inr h)
          · rintro (h | h | h)
            · cases h
            · exact absurd h0 h
            · exact h
        repeat refine seq ?_
        refine reg 18 Mix.mix hf (by decide +kernel) ?_
        refine st (mv rfl) ?_
        refine st (notp rfl) ?_
        refine st (mv rfl) ?_
        refine sy rfl rfl (ldW T67 rfl B3 rfl) ?_
        refine sy rfl rfl (mv rfl) ?_
        refine sy rfl rfl (lenD Tryz.underlying23 (isE rfl HV)) ?_
        refine sy rfl rfl (call1 En61 rfl (fun v w he h => by cases h; exact below_spec' t.length w (by omega))) ?_
        refine sy rfl rfl ((call2 En73 rfl rfl (fun v u w he h h' => by cases h; cases h'; exact subset_spec _ _ w)).eq (congrArg Value.bool (h2))) ?_
        refine sy rfl rfl (notp rfl) ?_
        refine st (pkF rfl rfl) ?_
        refine st (mv rfl) ?_
        refine sy rfl rfl (mv rfl) ?_
        refine sy rfl rfl (mv rfl) ?_
        refine sy rfl rfl (ldW T67 rfl B3 rfl) ?_
        refine sy rfl rfl (call3 (A := E (setV (compB (adjL t) part k))) En118 rfl rfl rfl (fun v u s w he h h' h'' => by cases h; cases h'; cases h''; exact comp_spec2 F k part fv w (hT.ext he) (Dv.ex HF he) hin (minOf_mem h1))) ?_
        refine sy rfl rfl (ldW T67 rfl B3 rfl) ?_
        refine sy rfl rfl ((neqS Tryz.underlying67 Tryz.underlying65 T65 (by decide +kernel) rfl rfl).eq (congrArg Value.bool (hcv))) ?_
        refine st (pkF rfl rfl) ?_
        refine en fun a w e' hf => ?_
        replace hT := hT.ext e'
        replace HV := Dv.ex HV e'
        replace HF := Dv.ex HF e'
        replace e := Ext.tr e e'
        replace B3 := B3.ext e'
        clear e'
        refine tl_nil ?_
        replace hf := hf.keep [6, 40]
        dsimp only [keep, List.filterMap, look, Nat.beq, Option.map] at hf
        exact ⟨rfl, hf, e, HF⟩
  clear hf e HF
  obtain ⟨hf, e, HF⟩ := hJ
  try simp only [Exit.then]
  repeat refine seq ?_
  refine ifc hf rfl (fun hb => ?_) (fun hb => ?_)
  · repeat refine seq ?_
    refine regn0 ?_
    refine tl_as hf rfl (by decide) fun a hf => ?_
    refine tl_as hf rfl (by decide) fun a hf => ?_
    refine tl_nil ?_
    rw [hb] at hc
    have hp3 : partE t part = 3 := by rw [hpe, if_pos (of_decide_eq_true hc.symm)]
    refine wret (ret2 rfl hf rfl rfl ?_)
    rintro _ _ rfl rfl
    exact ⟨_, rfl, e, Tup.two (.inr ⟨by rw [hp3]; decide, rfl⟩) (by rw [hp3]; rfl)⟩
  · refine wskip ?_
    try simp only [Exit.then, Exit.inBlock, ↓reduceIte]
    repeat refine seq ?_
    refine regn 1 hf (by decide +kernel) ?_
    refine st (mv rfl) ?_
    refine en fun a w e' hf => ?_
    replace HF := Dv.ex HF e'
    replace e := Ext.tr e e'
    clear e'
    refine tl_as hf rfl (by decide) fun a hf => ?_
    refine tl_as hf rfl (by decide) fun a hf => ?_
    refine tl_nil ?_
    rw [hb] at hc
    have hp0 : partE t part = 0 := by rw [hpe, if_neg (of_decide_eq_false hc.symm)]
    refine wret (ret2 rfl hf rfl rfl ?_)
    rintro _ _ rfl rfl
    exact ⟨_, rfl, e, Tup.two (.inl ⟨hp0, HF⟩) (by rw [hp0]; rfl)⟩

theorem partE_ok {t : List (Int × BS)} {part : BS} (h : partE t part = 0) {T : Tr} (F : Fo (adjL t) T) : chkR (toT t) = 0 ∧ (∀ i, part.getLsbD i = true → i < T.n) ∧ T.conn (bits part) ∧ ∃ p, part.getLsbD p = true := by
  have hn : T.n = t.length := by rw [← F.len, adjL_len]
  unfold partE at h
  have h0 : chkR (toT t) = 0 := by
    apply Classical.byContradiction
    intro hh
    rw [if_pos hh] at h
    exact hh h
  rw [if_neg (fun hh => hh h0)] at h
  have h2 : ¬(minOf part = none ∨ part &&& ~~~belowB t.length ≠ 0 ∨ compB (adjL t) part ((minOf part).getD 0) ≠ part) := by
    intro hh
    rw [if_pos hh] at h
    cases h
  have hin : ∀ i, part.getLsbD i = true → i < T.n := fun i hi => by
    rw [hn]
    apply Classical.byContradiction
    intro hlt
    have h1 : (part &&& ~~~belowB t.length).getLsbD i = true := (bit_diff _ _ i).2 ⟨hi, by rw [below_bit _ _ (bit_lt hi)]; simpa using hlt⟩
    refine h2 (.inr (.inl fun h0 => ?_))
    rw [h0] at h1
    exact bit_zero i h1
  cases hm : minOf part with
  | none => exact absurd (.inl hm) h2
  | some k =>
    have hk := minOf_mem hm
    refine ⟨h0, hin, (comp_conn F hin hk).1 ?_, k, hk⟩
    apply Classical.byContradiction
    intro hc
    refine h2 (.inr (.inr ?_))
    rw [hm]; exact hc

noncomputable def cenR (t : List (Int × BS)) (part : BS) : Int := if partE t part = 0 then (cenB (adjL t) part : Int) else 0
theorem centroid_spec {G : Nat → Prop} (t : List (Int × BS)) (part : BS) (v : Value) (W : World) (hT : Tab W) (h : (Dv treeE G t).p v W) (hl : t.length ≤ 1000) (hF : FoT t) :
    Calls Tryz.prog 62 #[v, setV part] W (Post (Tup [E (I (cenR t part)), E (I (partE t part))]) W) := by
  have hT0 := hT.lt
  refine enter (args := [v, setV part]) (As := [Dv treeE (GB W Go.Mono.G0) t, E (setV part)]) Tryz.func62 rfl Tryz.ntmps62 (Nat.le_of_ble_eq_true rfl) ?_ (fun a hf => ?_) (Nat.le_of_ble_eq_true rfl)
  rotate_left
  dsimp only [params, Nat.reduceAdd] at hf
  rotate_right
  · exact arg2 (Dv.toB (Dv.weak h fun b _ hb => hb.elim)) rfl
  have e := Ext.rfl' W
  obtain ⟨tv, HV, hf⟩ := hf.fix 0 rfl
  clear h
  replace hf := hf.keep [0, 1]
  dsimp only [keep, List.filterMap, look, Nat.beq, Option.map] at hf
  repeat refine seq ?_
  refine regn0 ?_
  refine tl_box hf rfl (by decide) fun a b3 w v3 hv3 e' hb3 hs3 B3 hf => ?_
  have hle3 := Nat.le_trans e.size (Nat.le_of_eq hb3.symm)
  replace hT := hT.ext e'
  replace HV := Dv.ex HV e'
  replace e := Ext.tr e e'
  clear e'
  refine tl_as hf rfl (by decide) fun a hf => ?_
  refine tl_as hf rfl (by decide) fun a hf => ?_
  refine tl_nil ?_
  cases hv3
  replace B3 : Blk w b3 (setC part) 67 := B3
  replace hf := hf.keep [0, 3]
  dsimp only [keep, List.filterMap, look, Nat.beq, Option.map] at hf
  repeat refine seq ?_
  refine regn 6 hf (by decide +kernel) ?_
  refine st (mv rfl) ?_
  refine st (ldW T67 rfl B3 rfl) ?_
  refine st (call2 En119 rfl rfl (fun v u w he h h' => by cases h; cases h'; exact checked_spec t part tv w (hT.ext he) (Dv.ex HV he) hl hF)) ?_
  refine st (mv rfl) ?_
  refine st (ext_ rfl rfl) ?_
  refine st (ext_ rfl rfl) ?_
  refine en fun a w e' hf => ?_
  replace hT := hT.ext e'
  replace HV := Dv.ex HV e'
  replace e := Ext.tr e e'
  replace B3 := B3.ext e'
  clear e'
  refine tl_as hf rfl (by decide) fun a hf => ?_
  refine tl_as hf rfl (by decide) fun a hf => ?_
  refine tl_nil ?_
  replace hf := hf.keep [3, 6, 7]
  dsimp only [keep, List.filterMap, look, Nat.beq, Option.map] at hf
  repeat refine seq ?_
  refine regn 2 hf (by decide +kernel) ?_
  refine st (mv rfl) ?_
  refine st (neq rfl rfl) ?_
  refine en fun a w e' hf => ?_
  replace hT := hT.ext e'
  replace HV := Dv.ex HV e'
  replace e := Ext.tr e e'
  replace B3 := B3.ext e'
  clear e'
  refine tl_nil ?_
  repeat refine seq ?_
  refine ifc hf rfl (fun hb => ?_) (fun hb => ?_)
  · have hb' : partE t part ≠ 0 := by simpa using hb
    have hz : cenR t part = 0 := if_neg hb'
    repeat refine seq ?_
    refine regn 1 hf (by decide +kernel) ?_
    refine st (mv rfl) ?_
    refine en fun a w e' hf => ?_
    replace hT := hT.ext e'
    replace HV := Dv.ex HV e'
    replace e := Ext.tr e e'
    replace B3 := B3.ext e'
    clear e'
    refine tl_as hf rfl (by decide) fun a hf => ?_
    refine tl_as hf rfl (by decide) fun a hf => ?_
    refine tl_nil ?_
    refine wret (ret2 rfl hf rfl rfl ?_)
    rintro _ _ rfl rfl
    exact ⟨_, rfl, e, Tup.two (by rw [hz]; rfl) rfl⟩
  · have hb' : partE t part = 0 := by simpa using hb
    have hz : cenR t part = (cenB (adjL t) part : Int) := if_pos hb'
    have h0 : chkR (toT t) = 0 := by
      apply Classical.byContradiction
      intro hh
      rw [partE, if_pos hh] at hb'
      exact hh hb'
    obtain ⟨T, F⟩ := hF h0
    obtain ⟨_, hin, _, p, hp⟩ := partE_ok hb' F
    obtain ⟨fv, hfv, hf⟩ := hf.fix 6 rfl
    have HF : (Dv (slE setE) Go.Mono.G0 (adjL t)).p fv w := hfv.elim (·.2) (fun h => absurd hb' h.1)
    clear hfv
    refine wskip ?_
    try simp only [Exit.then, Exit.inBlock, ↓reduceIte]
    replace hf := hf.keep [3, 6]
    dsimp only [keep, List.filterMap, look, Nat.beq, Option.map] at hf
    repeat refine seq ?_
    refine regn 3 hf (by decide +kernel) ?_
    refine st (mv rfl) ?_
    refine st (ldW T67 rfl B3 rfl) ?_
    refine st ((call2 En113 rfl rfl (fun v u w he h h' => by cases h; cases h'; exact cen_spec F part fv w (hT.ext he) (Dv.ex HF he) hin)).eq (congrArg I (cen_ok hp).2.1)) ?_
    refine en fun a w e' hf => ?_
    replace hT := hT.ext e'
    replace HF := Dv.ex HF e'
    replace e := Ext.tr e e'
    replace B3 := B3.ext e'
    clear e'
    refine tl_as hf rfl (by decide) fun a hf => ?_
    refine tl_as hf rfl (by decide) fun a hf => ?_
    refine tl_nil ?_
    refine wret (ret2 rfl hf rfl rfl ?_)
    rintro _ _ rfl rfl
    exact ⟨_, rfl, e, Tup.two (by rw [hz]; rfl) (by rw [hb']; rfl)⟩

end Go.Mono

namespace Go.Mono
open Go Go.Proofs Go.RowKit

/-- the parts that Balance comes to -/
def parts0 (t : List (Int × BS)) : List (Int × BS) := balL (adjL t) t.length (belowB t.length) (-1) []
noncomputable def balT (t : List (Int × BS)) : List (Int × BS) := if chkR (toT t) = 0 then (parts0 t).map (bagOf (adjL t) t) else []
noncomputable def balAt (t : List (Int × BS)) : List Int := if chkR (toT t) = 0 then (parts0 t).map (atOf (adjL t)) else []
theorem below_bit' (n i : Nat) (hn : n ≤ 1024) : (belowB n).getLsbD i = true ↔ i < n := by
  by_cases hi : i < 1024
  · rw [below_bit _ _ hi, decide_eq_true_eq]
  · constructor
    · intro h; exact absurd (bit_lt h) hi
    · intro h; omega
theorem Pt.all {t : List (Int × BS)} {T : Tr} (F : Fo (adjL t) T) (h0 : 0 < t.length) : Pt (adjL t) T (belowB t.length) ∧ card (belowB t.length) ≤ t.length := by
  have hn : T.n = t.length := by rw [← F.len, adjL_len]
  have hle := F.le
  have hb : ∀ i, (belowB t.length).getLsbD i = true ↔ i < T.n := fun i => by rw [below_bit' _ _ (by omega), hn]
  have hbits : bits (belowB t.length) = fun i => i < T.n := by funext i; exact propext (hb i)
  refine ⟨⟨fun i hi => (hb i).1 hi, by rw [hbits]; exact Tr.conn_all, ⟨0, (hb 0).2 (by omega)⟩, ?_⟩, card_le_n fun i hi => by rw [← hn]; exact (hb i).1 hi⟩
  have : outM (adjL t) (belowB t.length) = 0 := set_ext' fun k => by
    rw [out_bit F (fun i hi => (hb i).1 hi)]
    constructor
    · rintro ⟨h1, h2, _⟩; exact absurd ((hb k).2 h1) h2
    · intro h; exact absurd h (bit_zero k)
  rw [this, card_zero]; omega

theorem balance_spec {G : Nat → Prop} (t : List (Int × BS)) (v : Value) (W : World) (hT : Tab W) (h : (Dv treeE G t).p v W) (hl : t.length ≤ 1000) (hF : FoT t) :
    Calls Tryz.prog 23 #[v] W (Post (Tup [Dv treeE Go.Mono.G0 (balT t), Dv (slE intE) Go.Mono.G0 (balAt t), E (I (chkR (toT t)))]) W) := by
  have hT0 := hT.lt
  refine enter (args := [v]) (As := [Dv treeE (GB W Go.Mono.G0) t]) Tryz.func23 rfl Tryz.ntmps23 (Nat.le_of_ble_eq_true rfl) ?_ (fun a hf => ?_) (Nat.le_of_ble_eq_true rfl)
  rotate_left
  dsimp only [params, Nat.reduceAdd] at hf
  rotate_right
  · exact arg1 (Dv.toB (Dv.weak h fun b _ hb => hb.elim))
  have e := Ext.rfl' W
  obtain ⟨tv, HV, hf⟩ := hf.fix 0 rfl
  clear h
  have h1 := one_cells (Dv.slOne HV)
  replace hf := hf.keep [0]
  dsimp only [keep, List.filterMap, look, Nat.beq, Option.map] at hf
  repeat refine seq ?_
  refine regn0 ?_
  refine tl_box hf rfl (by decide) fun a b1 w v1 hv1 e' hb1 hs1 B1 hf => ?_
  have hle1 := Nat.le_trans e.size (Nat.le_of_eq hb1.symm)
  replace hT := hT.ext e'
  replace HV := Dv.ex HV e'
  replace e := Ext.tr e e'
  clear e'
  refine tl_as hf rfl (by decide) fun a hf => ?_
  refine tl_as hf rfl (by decide) fun a hf => ?_
  refine tl_as hf rfl (by decide) fun a hf => ?_
  refine tl_nil ?_
  cases hv1
  rw [h1] at B1
  replace hf := hf.keep [1]
  dsimp only [keep, List.filterMap, look, Nat.beq, Option.map] at hf
  repeat refine seq ?_
  refine regn 5 hf (by decide +kernel) ?_
  refine st (ld1 T23 rfl B1 rfl) ?_
  refine st (call1 En54 rfl (fun v w he h => by cases h; exact nb_spec t tv w (hT.ext he) (Dv.ex HV he) hl)) ?_
  refine st (mv rfl) ?_
  refine st (ext_ rfl rfl) ?_
  refine st (ext_ rfl rfl) ?_
  refine en fun a w e' hf => ?_
  replace hT := hT.ext e'
  replace HV := Dv.ex HV e'
  replace e := Ext.tr e e'
  replace B1 := B1.ext e'
  clear e'
  obtain ⟨fv, hfv, hf⟩ := hf.fix 13 rfl
  have hfo : fv.oneCell' = true := hfv.elim (fun h => Dv.slOne h.2) (fun h => by rw [h.2]; rfl)
  have hNw : W.heap.size ≤ w.heap.size := e.size
  obtain ⟨N0, hN0⟩ : ∃ N0, N0 = w.heap.size := ⟨_, rfl⟩
  have HF : (NbA t (fun b => N0 ≤ b)).p fv w := hfv.imp (fun h => ⟨h.1, Dv.weak h.2 fun b hb hg => absurd hb (Nat.not_lt.2 (by omega))⟩) id
  have HFx : ∀ {w w' : World}, (NbA t (fun b => N0 ≤ b)).p fv w → Ext w w' → (NbA t (fun b => N0 ≤ b)).p fv w' := fun h e => (NbA t _).st _ _ _ e h
  have HFg : ∀ {w w' : World} {b : Nat}, (NbA t (fun b => N0 ≤ b)).p fv w → w.grownBy w' (some b) → N0 ≤ b → (NbA t (fun b => N0 ≤ b)).p fv w' := fun h hg hb => h.imp (fun h => ⟨h.1, Dv.gr h.2 hg hb⟩) id
  have l1 := B1.lt
  clear hfv
  have hNN : N0 ≤ w.heap.size := by omega
  replace hf := hf.keep [1, 13, 14]
  dsimp only [keep, List.filterMap, look, Nat.beq, Option.map] at hf
  refine tl_alloc I107 hf (by decide) fun a b5 w e' hb5 hs5 B5 hf => ?_
  have hle5 := Nat.le_trans e.size (Nat.le_of_eq hb5.symm)
  have lo5_hNN := Nat.le_trans hNN (Nat.le_of_eq hb5.symm)
  have lt5_B1 := B1.lt
  replace hT := hT.ext e'
  replace HV := Dv.ex HV e'
  replace HF := HFx HF e'
  replace hNN := Nat.le_trans hNN e'.size
  replace e := Ext.tr e e'
  replace B1 := B1.ext e'
  clear e'
  haveI hinr : ∀ G0, InR (GB W G0) (some b5) := fun G0 => InR.gb (by omega)
  refine tl_st1 T107 hf rfl rfl (hfo) B5 (by exact Nat.zero_lt_one) fun w hg hsz B5 hf => ?_
  replace hT := hT.gr hg (by omega)
  replace HV := Dv.gr HV hg (.inr (by omega))
  replace HF := HFg HF hg (by omega)
  replace hNN := Nat.le_trans hNN (Nat.le_of_eq hsz.symm)
  replace e := e.gr hg (by omega)
  replace B1 := B1.gr hg (by omega)
  clear hg
  refine tl_as hf rfl (by decide) fun a hf => ?_
  refine tl_nil ?_
  replace B5 : Blk w b5 #[fv] 107 := B5
  have n5 : N0 ≤ b5 ∧ W.heap.size ≤ b5 ∧ b5 ≠ b1 := by omega
  replace hf := hf.keep [1, 5, 6]
  dsimp only [keep, List.filterMap, look, Nat.beq, Option.map] at hf
  repeat refine seq ?_
  refine regn 2 hf (by decide +kernel) ?_
  refine st (mv rfl) ?_
  refine st (neq rfl rfl) ?_
  refine en fun a w e' hf => ?_
  replace hT := hT.ext e'
  replace HV := Dv.ex HV e'
  replace HF := HFx HF e'
  replace hNN := Nat.le_trans hNN e'.size
  replace e := Ext.tr e e'
  replace B1 := B1.ext e'
  replace B5 := B5.ext e'
  clear e'
  refine tl_nil ?_
  repeat refine seq ?_
  refine ifc hf rfl (fun hb => ?_) (fun hb => ?_)
  · have hb' : chkR (toT t) ≠ 0 := by simpa using hb
    have e1 : balT t = [] := if_neg hb'
    have e2 : balAt t = [] := if_neg hb'
    repeat refine seq ?_
    refine regn 1 hf (by decide +kernel) ?_
    refine st (mv rfl) ?_
    refine en fun a w e' hf => ?_
    replace hT := hT.ext e'
    replace HV := Dv.ex HV e'
    replace HF := HFx HF e'
    replace hNN := Nat.le_trans hNN e'.size
    replace e := Ext.tr e e'
    replace B1 := B1.ext e'
    replace B5 := B5.ext e'
    clear e'
    refine tl_as hf rfl (by decide) fun a hf => ?_
    refine tl_as hf rfl (by decide) fun a hf => ?_
    refine tl_as hf rfl (by decide) fun a hf => ?_
    refine tl_nil ?_
    refine wret (ret3 rfl hf rfl rfl rfl ?_)
    rintro _ _ _ rfl rfl rfl
    exact ⟨_, rfl, e, Tup.three (by rw [e1]; exact Dv.nil) (by rw [e2]; exact Dv.nil) rfl⟩
  have hb' : chkR (toT t) = 0 := by simpa using hb
  clear hb
  have e1 : balT t = (parts0 t).map (bagOf (adjL t) t) := if_pos hb'
  have e2 : balAt t = (parts0 t).map (atOf (adjL t)) := if_pos hb'
  obtain ⟨h0, _⟩ := chkR_ok.1 hb'
  rw [toT_len] at h0
  obtain ⟨T, F⟩ := hF hb'
  have hn : T.n = t.length := by rw [← F.len, adjL_len]
  obtain ⟨PA, hPc⟩ := Pt.all F h0
  have HV2 : (Dv treeE (fun b => N0 ≤ b) t).p tv w := Dv.weak HV fun b _ hb => .inr (by omega)
  replace HF : (Dv (slE setE) (fun b => N0 ≤ b) (adjL t)).p fv w := HF.elim (·.2) (fun h => absurd hb' h.1)
  clear HFx HFg hfo
  refine wskip ?_
  try simp only [Exit.then, Exit.inBlock, ↓reduceIte]
  replace hf := hf.keep [1, 5]
  dsimp only [keep, List.filterMap, look, Nat.beq, Option.map] at hf
  repeat refine seq ?_
  refine regn0 ?_
  refine tl_alloc I23 hf (by decide) fun a b7 w e' hb7 hs7 B7 hf => ?_
  have hle7 := Nat.le_trans e.size (Nat.le_of_eq hb7.symm)
  have lo7_hNN := Nat.le_trans hNN (Nat.le_of_eq hb7.symm)
  have lt7_B1 := B1.lt
  have lt7_B5 := B5.lt
  replace hT := hT.ext e'
  replace HV2 := Dv.ex HV2 e'
  replace HF := Dv.ex HF e'
  replace hNN := Nat.le_trans hNN e'.size
  replace e := Ext.tr e e'
  replace B1 := B1.ext e'
  replace B5 := B5.ext e'
  clear e'
  refine tl_nil ?_
  replace B7 : Blk w b7 #[.slice none 0 0] 23 := B7
  have n7 : N0 ≤ b7 ∧ W.heap.size ≤ b7 ∧ b7 ≠ b1 ∧ b7 ≠ b5 := by have := B5.lt; have := B1.lt; omega
  replace hf := hf.keep [1, 5, 7]
  dsimp only [keep, List.filterMap, look, Nat.beq, Option.map] at hf
  repeat refine seq ?_
  refine regn0 ?_
  refine tl_alloc I59 hf (by decide) fun a b8 w e' hb8 hs8 B8 hf => ?_
  have hle8 := Nat.le_trans e.size (Nat.le_of_eq hb8.symm)
  have lo8_hNN := Nat.le_trans hNN (Nat.le_of_eq hb8.symm)
  have lt8_B1 := B1.lt
  have lt8_B5 := B5.lt
  have lt8_B7 := B7.lt
  replace hT := hT.ext e'
  replace HV2 := Dv.ex HV2 e'
  replace HF := Dv.ex HF e'
  replace hNN := Nat.le_trans hNN e'.size
  replace e := Ext.tr e e'
  replace B1 := B1.ext e'
  replace B5 := B5.ext e'
  replace B7 := B7.ext e'
  clear e'
  refine tl_nil ?_
  replace B8 : Blk w b8 #[.slice none 0 0] 59 := B8
  have n8 : N0 ≤ b8 ∧ W.heap.size ≤ b8 ∧ b8 ≠ b1 ∧ b8 ≠ b5 ∧ b8 ≠ b7 := by have := B5.lt; have := B1.lt; have := B7.lt; omega
  replace hf := hf.keep [1, 5, 7, 8]
  dsimp only [keep, List.filterMap, look, Nat.beq, Option.map] at hf
  repeat refine seq ?_
  refine regn0 ?_
  refine tl_alloc I110 hf (by decide) fun a b9 w e' hb9 hs9 B9 hf => ?_
  have hle9 := Nat.le_trans e.size (Nat.le_of_eq hb9.symm)
  have lo9_hNN := Nat.le_trans hNN (Nat.le_of_eq hb9.symm)
  have lt9_B1 := B1.lt
  have lt9_B5 := B5.lt
  have lt9_B7 := B7.lt
  have lt9_B8 := B8.lt
  replace hT := hT.ext e'
  replace HV2 := Dv.ex HV2 e'
  replace HF := Dv.ex HF e'
  replace hNN := Nat.le_trans hNN e'.size
  replace e := Ext.tr e e'
  replace B1 := B1.ext e'
  replace B5 := B5.ext e'
  replace B7 := B7.ext e'
  replace B8 := B8.ext e'
  clear e'
  refine tl_nil ?_
  have n9 : N0 ≤ b9 ∧ W.heap.size ≤ b9 ∧ b9 ≠ b1 ∧ b9 ≠ b5 ∧ b9 ≠ b7 ∧ b9 ≠ b8 := by have := B5.lt; have := B1.lt; have := B7.lt; have := B8.lt; omega
  replace hf := hf.keep [1, 5, 7, 8, 9]
  dsimp only [keep, List.filterMap, look, Nat.beq, Option.map] at hf
  repeat refine seq ?_
  refine regn 1 hf (by decide +kernel) ?_
  refine st (makeF5 rfl rfl rfl rfl rfl) ?_
  refine en fun a w e' hf => ?_
  replace hT := hT.ext e'
  replace HV2 := Dv.ex HV2 e'
  replace HF := Dv.ex HF e'
  replace hNN := Nat.le_trans hNN e'.size
  replace e := Ext.tr e e'
  replace B1 := B1.ext e'
  replace B5 := B5.ext e'
  replace B7 := B7.ext e'
  replace B8 := B8.ext e'
  replace B9 := B9.ext e'
  clear e'
  haveI hinr : ∀ G0, InR (GB W G0) (some b9) := fun G0 => InR.gb (by omega)
  refine tl_st1 T110 hf rfl rfl rfl B9 (by exact Nat.zero_lt_one) fun w hg hsz B9 hf => ?_
  replace hT := hT.gr hg (by omega)
  replace HV2 := Dv.gr HV2 hg (by omega)
  replace HF := Dv.gr HF hg (by omega)
  replace hNN := Nat.le_trans hNN (Nat.le_of_eq hsz.symm)
  replace e := e.gr hg (by omega)
  replace B1 := B1.gr hg (by omega)
  replace B5 := B5.gr hg (by omega)
  replace B7 := B7.gr hg (by omega)
  replace B8 := B8.gr hg (by omega)
  clear hg
  refine tl_nil ?_
  replace B9 : Blk w b9 #[bfn b5 b1 b7 b8 b9] 110 := B9
  replace hf := hf.keep [1, 5, 7, 8, 9]
  dsimp only [keep, List.filterMap, look, Nat.beq, Option.map] at hf
  repeat refine seq ?_
  refine reg 4 Mix.mix hf (by decide +kernel) ?_
  refine st (ld1 T110 rfl B9 rfl) ?_
  refine st (ld1 T23 rfl B1 rfl) ?_
  refine st (lenD Tryz.underlying23 (isE rfl HV2)) ?_
  refine st (call1 En61 rfl (fun v w he h => by cases h; exact below_spec' t.length w (by omega))) ?_
  refine en fun a w e' hf => ?_
  replace hT := hT.ext e'
  replace HV2 := Dv.ex HV2 e'
  replace HF := Dv.ex HF e'
  replace hNN := Nat.le_trans hNN e'.size
  replace e := Ext.tr e e'
  replace B1 := B1.ext e'
  replace B5 := B5.ext e'
  replace B7 := B7.ext e'
  replace B8 := B8.ext e'
  replace B9 := B9.ext e'
  clear e'
  have v22 : a.eval (.tmp 22) = setV (belowB t.length) := hf.val 22 _ rfl
  have vc : a.eval (.const (I (-1))) = I (-1) := rfl
  have hN0p : 0 < N0 := by omega
  have K : BK (adjL t) t N0 b5 b1 b7 b8 b9 fv tv w := ⟨hT, HF, HV2, B5, B1, B9⟩
  have St : BSt (adjL t) t N0 b7 b8 [] (.slice none 0 0) (.slice none 0 0) w := ⟨B7, B8, OwR.nil bagE _ hNN (fun b hb => hb.elim), OwR.nil intE _ hNN (fun b hb => hb.elim)⟩
  refine tl_callV (S := SB b7 b8 (.slice none 0 0) (.slice none 0 0)) (F := fun w' => ∃ ut' ua', BSt (adjL t) t N0 b7 b8 (parts0 t) ut' ua' w' ∧ ∀ b, SB b7 b8 ut' ua' b → SB b7 b8 (.slice none 0 0) (.slice none 0 0) b ∨ w.heap.size ≤ b) (A := Any) hf (by decide) En55 rfl ?_ fun a w' hc hFF hf => ?_
  · have := balc_spec F t hn.symm N0 b5 b1 b7 b8 b9 fv tv hN0p n7.1 n8.1 (Ne.symm n7.2.2.1) t.length (belowB t.length) (-1) [] _ _ w PA hPc (by simp; omega) K St
    unfold parts0
    simpa [v22, vc] using this
  obtain ⟨ut', ua', St', _⟩ := hFF
  replace e := e.ch hc fun b hb => by
    rcases hb with rfl | rfl | hb | hb
    · exact n7.2.1
    · exact n8.2.1
    · simp [Value.ownBlock] at hb
    · simp [Value.ownBlock] at hb
  clear hc K St v22 vc
  refine tl_nil ?_
  replace hf := hf.keep [7, 8]
  dsimp only [keep, List.filterMap, look, Nat.beq, Option.map] at hf
  generalize w' = w at *
  have H1 := St'.ht.sl
  have H2 := St'.ha.sl
  repeat refine seq ?_
  refine reg 5 Mix.mix hf (by decide +kernel) ?_
  refine st (ld1 (v := ut') T23 rfl St'.a rfl) ?_
  refine st (ld1 (v := ua') T59 rfl St'.b rfl) ?_
  refine st (asg rfl) ?_
  refine st (asg rfl) ?_
  refine st (asg rfl) ?_
  refine en fun a w e' hf => ?_
  replace H1 := Dv.ex H1 e'
  replace H2 := Dv.ex H2 e'
  replace e := Ext.tr e e'
  clear e'
  refine tl_nil ?_
  refine wret (ret3 rfl hf rfl rfl rfl ?_)
  rintro _ _ _ rfl rfl rfl
  exact ⟨_, rfl, e, Tup.three (by rw [e1]; exact H1) (by rw [e2]; exact H2) (by rw [hb']; rfl)⟩
end Go.Mono

namespace Go.Mono

theorem foldl_bit_or {α : Type} (i : Nat) (f : BS → α → BS) (q : α → Prop) : ∀ (l : List α) (S : BS), (∀ S, ∀ x ∈ l, (f S x).getLsbD i = true ↔ S.getLsbD i = true ∨ q x) → ((l.foldl f S).getLsbD i = true ↔ S.getLsbD i = true ∨ ∃ x ∈ l, q x)
  | [], S, _ => by simp
  | x :: l, S, h => by
    rw [List.foldl_cons, foldl_bit_or i f q l (f S x) fun S y hy => h S y (by simp [hy]), h S x (by simp)]
    clear h
    constructor
    · rintro ((h | h) | ⟨y, hy, h⟩)
      · exact .inl h
      · exact .inr ⟨x, by simp, h⟩
      · exact .inr ⟨y, by simp [hy], h⟩
    · rintro (h | ⟨y, hy, h⟩)
      · exact .inl (.inl h)
      · rcases List.mem_cons.1 hy with rfl | hy
        · exact .inl (.inr h)
        · exact .inr ⟨y, hy, h⟩
theorem adjK_bit (t : List (Int × BS)) (n j i : Nat) (hj : j < 1024) (hi : i < 1024) (hr : ∀ r, r < n → (bg t r).1 < 1024) (hs : ∀ r, r < n → (bg t r).1 ≠ (r : Int)) (hn : n ≤ 1024) :
    (adjK t n j).getLsbD i = true ↔ ∃ r, r < n ∧ 0 ≤ (bg t r).1 ∧ (((bg t r).1 = (j : Int) ∧ i = r) ∨ (j = r ∧ (bg t r).1 = (i : Int))) := by
  unfold adjK
  rw [foldl_bit_or i _ (fun r => 0 ≤ (bg t r).1 ∧ (((bg t r).1 = (j : Int) ∧ i = r) ∨ (j = r ∧ (bg t r).1 = (i : Int))))]
  · constructor
    · rintro (h | ⟨r, hr, h⟩)
      · exact absurd h (bit_zero i)
      · exact ⟨r, List.mem_range.1 hr, h⟩
    · rintro ⟨r, hr, h⟩
      exact .inr ⟨r, List.mem_range.2 hr, h⟩
  · intro S r hrm
    have hrn := List.mem_range.1 hrm
    by_cases h1 : (bg t r).1 < 0
    · rw [if_pos h1]
      exact ⟨.inl, fun h => h.elim id fun h => by omega⟩
    · rw [if_neg h1]
      have hlt := hr r hrn
      by_cases h2 : (bg t r).1 = (j : Int)
      · rw [if_pos h2, bit_ins S (by omega)]
        constructor
        · rintro (h | rfl)
          · exact .inl h
          · exact .inr ⟨by omega, .inl ⟨h2, rfl⟩⟩
        · rintro (h | ⟨_, ⟨_, h⟩ | ⟨h3, h4⟩⟩)
          · exact .inl h
          · exact .inr h
          · exact absurd (h2.trans (by rw [h3])) (hs r hrn)
      · rw [if_neg h2]
        by_cases h3 : r = j
        · obtain ⟨q, hq⟩ : ∃ q : Nat, (bg t r).1 = (q : Int) := ⟨(bg t r).1.toNat, by omega⟩
          rw [if_pos h3, hq, bit_ins S (by omega)]
          constructor
          · rintro (h | rfl)
            · exact .inl h
            · exact .inr ⟨by omega, .inr ⟨h3.symm, rfl⟩⟩
          · rintro (h | ⟨_, ⟨h, _⟩ | ⟨_, h⟩⟩)
            · exact .inl h
            · rw [hq] at h2; exact absurd h h2
            · exact .inr (by omega)
        · rw [if_neg h3]
          exact ⟨.inl, fun h => h.elim id fun ⟨_, h⟩ => by
            rcases h with ⟨h, _⟩ | ⟨h, _⟩
            · exact absurd h h2
            · exact absurd h.symm h3⟩
/-- the tree that the numbers above make -/
noncomputable def trOf (xs : List RB) (V : Vals xs) : Tr where
  n := xs.length
  par i := if up xs i < 0 then none else some (up xs i).toNat
  dep := depthR xs
  lt := fun {i j} hi h => by
    have := V.range i hi
    split at h
    · cases h
    · cases h; omega
  dp := fun {i j} hi h => by
    split at h
    · cases h
    · cases h; exact depth_step V hi (by omega)
  one := fun {i j} hi hj h1 h2 => by
    have u1 : up xs i < 0 := by
      apply Classical.byContradiction
      intro h; rw [if_neg h] at h1; cases h1
    have u2 : up xs j < 0 := by
      apply Classical.byContradiction
      intro h; rw [if_neg h] at h2; cases h2
    have hl := (selN_two (p := fun i => decide (up xs i < 0)) (n := xs.length)).1 (by rw [V.root]; exact Nat.le_refl _)
    rcases Nat.lt_trichotomy i j with h | h | h
    · exact absurd ⟨decide_eq_true u2, decide_eq_true u1⟩ (hl i j h hj)
    · exact h
    · exact absurd ⟨decide_eq_true u1, decide_eq_true u2⟩ (hl j i h hi)
theorem trOf_par {xs : List RB} (V : Vals xs) {i j : Nat} (hi : i < xs.length) : (trOf xs V).par i = some j ↔ up xs i = (j : Int) := by
  have := V.range i hi
  show (if up xs i < 0 then none else some (up xs i).toNat) = some j ↔ _
  by_cases h : up xs i < 0
  · rw [if_pos h]
    exact ⟨fun h => (by cases h), fun h' => by omega⟩
  · rw [if_neg h]
    constructor
    · intro h'; cases h'; omega
    · intro h'; rw [h']; rfl
theorem fo_tree {t : List (Int × BS)} (hl : t.length ≤ 1000) (V : Vals (toT t)) : Fo (adjL t) (trOf (toT t) V) := by
  have hn : (trOf (toT t) V).n = t.length := toT_len t
  refine ⟨by rw [hn, adjL_len], by omega, fun {j i} hj => ?_⟩
  have hjt : j < t.length := by omega
  have hup : ∀ r, r < t.length → up (toT t) r = (bg t r).1 := fun r hr => toT_up hr
  have hrg : ∀ r, r < t.length → -1 ≤ (bg t r).1 ∧ (bg t r).1 < t.length := fun r hr => by
    have := V.range r (by rw [toT_len]; exact hr)
    rw [hup r hr, toT_len] at this
    exact this
  have hself : ∀ r, r < t.length → (bg t r).1 ≠ (r : Int) := fun r hr h => up_ne V (by rw [toT_len]; exact hr) (by rw [hup r hr]; exact h) rfl
  have hsg : sg (adjL t) j = adjK t t.length j := by
    have : (adjL t)[j]? = some (adjK t t.length j) := by rw [adjL, List.getElem?_map, List.getElem?_range hjt]; rfl
    rw [sg, this]
  have par : ∀ r k, r < t.length → ((trOf (toT t) V).par r = some k ↔ (bg t r).1 = (k : Int)) := fun r k hr => by
    rw [trOf_par V (by rw [toT_len]; exact hr), hup r hr]
  rw [hsg, hn]
  by_cases hi : i < 1024
  · rw [adjK_bit t t.length j i (by omega) hi (fun r hr => by have := hrg r hr; omega) hself (by omega)]
    constructor
    · rintro ⟨r, hr, h0, ⟨h1, rfl⟩ | ⟨rfl, h1⟩⟩
      · exact ⟨hr, .inr ((par _ _ hr).2 h1)⟩
      · have := hrg _ hr
        exact ⟨by omega, .inl ((par _ _ hr).2 h1)⟩
    · rintro ⟨hit, h | h⟩
      · have := (par _ _ hjt).1 h
        exact ⟨j, hjt, by omega, .inr ⟨rfl, this⟩⟩
      · have := (par _ _ hit).1 h
        exact ⟨i, hit, by omega, .inl ⟨this, rfl⟩⟩
  · constructor
    · intro h; exact absurd (bit_lt h) hi
    · rintro ⟨h, _⟩; omega
/-- each tree of bags has its forest -/
theorem foT {t : List (Int × BS)} (hl : t.length ≤ 1000) : FoT t := fun h => ⟨_, fo_tree hl (chkR_ok.1 h).2⟩
end Go.Mono

namespace Go.Mono
open Go Go.Proofs Go.RowKit

theorem idxStr {P : Program} {w0 : World} {L : Env} {dst : Option Tmp} {ty : TypeId} {pos : String} {aft : Array Edge} {g : Option (Nat × Bool)} {x y : Operand} {t : TypeId} {s : _} {k : IntKind} {i : Int} {z : Nat} (ht : P.underlying t = some .string) (hx : opd L x = some (E (.string s))) (hy : opd L y = some (E (.int k i))) (hi : 0 ≤ i) (hc : (s[i.toNat]?).map (·.toNat) = some z) :
    OpC P w0 L ⟨dst, .index t x y, ty, pos, aft, g⟩ (E (.int .u8 (z : Int))) :=
  opc_pure fun ρ w _ hv => by
    have h1 := opE hv (x := x) (by simp [Op.operands]) hx
    have h2 := opE hv (x := y) (by simp [Op.operands]) hy
    refine ⟨_, ?_, rfl⟩
    cases hb : s[i.toNat]? with
    | none => rw [hb] at hc; cases hc
    | some b =>
      rw [hb] at hc
      cases hc
      simp [execOp, h1, h2, Instr.index, asIntOf, run_underlying ht, hi, hb]
theorem dg_shift : ∀ (k n : Nat), 2 ^ k ≤ n → dg n = k + dg (n / 2 ^ k)
  | 0, n, _ => by simp
  | k + 1, n, h => by
    have h1 : 0 < 2 ^ k := Nat.pow_pos (by decide)
    rw [Nat.pow_succ] at h
    rw [dg_step (by omega), dg_shift k (n / 2) (by omega), Nat.pow_succ, Nat.mul_comm (2 ^ k) 2, ← Nat.div_div_eq_div_mul]
    omega
def hfN (k n : Nat) : Nat := if 2 ^ k ≤ n then n / 2 ^ k else n
def hfA (k n : Nat) : Nat := if 2 ^ k ≤ n then k else 0
theorem hf_dg (k n : Nat) : dg n = hfA k n + dg (hfN k n) := by
  unfold hfA hfN
  split
  · rw [dg_shift k n ‹_›]
  · omega
theorem hf_lt {k n : Nat} (h : n < 2 ^ k * 2 ^ k) : hfN k n < 2 ^ k := by
  unfold hfN
  split
  · exact Nat.div_lt_of_lt_mul h
  · omega
def tabL : List Nat := (List.range 256).map dg
theorem hf_bv (k : Nat) (x : BitVec 64) : (if 2 ^ k ≤ x.toNat then x >>> k else x).toNat = hfN k x.toNat := by
  unfold hfN
  split
  · rw [BitVec.toNat_ushiftRight, Nat.shiftRight_eq_div_pow]
  · rfl
theorem tab_get : ∀ n, n < 256 → tabL[n]? = some (dg n) := fun n hn => by rw [tabL, List.getElem?_map, List.getElem?_range hn]; rfl
theorem dg_8 {n : Nat} (h : n < 256) : dg n ≤ 8 := by
  have := dg_mono 255 n (by omega)
  have e : dg 255 = 8 := by decide +kernel
  omega

theorem len64_spec (x : BitVec 64) (W : World) : Calls Tryz.prog 157 #[Mono.W x] W (Post (E (I (dg x.toNat : Nat))) W) := by
  refine enter (args := [Mono.W x]) (As := [E (Mono.W x)]) Tryz.func157 rfl Tryz.ntmps157 (Nat.le_of_ble_eq_true rfl) ?_ (fun a hf => ?_) (Nat.le_of_ble_eq_true rfl)
  rotate_left
  dsimp only [params, Nat.reduceAdd] at hf
  rotate_right
  · exact arg1 rfl
  have e := Ext.rfl' W
  have hx := x.isLt
  repeat refine seq ?_
  refine regn0 ?_
  refine tl_as hf rfl (by decide) fun a hf => ?_
  refine tl_nil ?_
  repeat refine seq ?_
  refine regn 2 hf (by decide +kernel) ?_
  refine st (mv rfl) ?_
  refine st (geq (b := 4294967296) rfl rfl) ?_
  refine en fun a w e' hf => ?_
  replace e := Ext.tr e e'
  clear e'
  refine tl_nil ?_
  obtain ⟨x1, hx1⟩ : ∃ x1 : BitVec 64, x1 = if 2 ^ 32 ≤ x.toNat then x >>> 32 else x := ⟨_, rfl⟩
  have e1 : x1.toNat = hfN 32 x.toNat := by rw [hx1, hf_bv]
  have l1 : x1.toNat < 2 ^ 32 := by rw [e1]; exact hf_lt (by omega)
  obtain ⟨a1, ha1⟩ : ∃ a1, a1 = hfA 32 x.toNat := ⟨_, rfl⟩
  have m1 : a1 ≤ 32 := by rw [ha1, hfA]; split <;> omega
  repeat refine seq ?_
  refine cut (J := fun a w => Fr 25 a w [(0, E (Mono.W x1)), (2, E (I (a1 : Nat)))] ∧ Ext W w ∧ True) ?_ (fun a w hJ => ?_)
  · repeat refine seq ?_
    refine ifc hf rfl (fun hb => ?_) (fun hb => ?_)
    · have hb' : 2 ^ 32 ≤ x.toNat := by have := of_decide_eq_true hb; omega
      rw [if_pos hb'] at hx1
      have ha1' : a1 = 32 := by rw [ha1, hfA, if_pos hb']
      repeat refine seq ?_
      refine regn 2 hf (by decide +kernel) ?_
      refine st (mv rfl) ?_
      refine st ((shrW rfl rfl (by omega)).eq (congrArg Mono.W hx1.symm)) ?_
      refine en fun a w e' hf => ?_
      replace e := Ext.tr e e'
      clear e'
      refine tl_as hf rfl (by decide) fun a hf => ?_
      refine tl_nil ?_
      repeat refine seq ?_
      refine regn0 ?_
      refine tl_as hf rfl (by decide) fun a hf => ?_
      refine tl_nil ?_
      rw [show (Value.int .i64 32) = Value.int .i64 ((a1 : Nat) : Int) from by rw [ha1']; rfl] at hf
      replace hf := hf.keep [0, 2]
      dsimp only [keep, List.filterMap, look, Nat.beq, Option.map] at hf
      exact ⟨rfl, hf, e, trivial⟩
    · have hb' : ¬2 ^ 32 ≤ x.toNat := by have := of_decide_eq_false hb; omega
      rw [if_neg hb'] at hx1
      have ha1' : a1 = 0 := by rw [ha1, hfA, if_neg hb']
      refine wskip ?_
      rw [show (Value.int .i64 0) = Value.int .i64 ((a1 : Nat) : Int) from by rw [ha1']; rfl, ← hx1] at hf
      replace hf := hf.keep [0, 2]
      dsimp only [keep, List.filterMap, look, Nat.beq, Option.map] at hf
      exact ⟨rfl, hf, e, trivial⟩
  clear hf e 
  obtain ⟨hf, e, _⟩ := hJ
  try simp only [Exit.then]
  clear hx1
  repeat refine seq ?_
  refine regn 2 hf (by decide +kernel) ?_
  refine st (mv rfl) ?_
  refine st (geq (b := 65536) rfl rfl) ?_
  refine en fun a w e' hf => ?_
  replace e := Ext.tr e e'
  clear e'
  refine tl_nil ?_
  obtain ⟨x2, hx2⟩ : ∃ x2 : BitVec 64, x2 = if 2 ^ 16 ≤ x1.toNat then x1 >>> 16 else x1 := ⟨_, rfl⟩
  have e2 : x2.toNat = hfN 16 x1.toNat := by rw [hx2, hf_bv]
  have l2 : x2.toNat < 2 ^ 16 := by rw [e2]; exact hf_lt (by omega)
  obtain ⟨a2, ha2⟩ : ∃ a2, a2 = hfA 16 x1.toNat := ⟨_, rfl⟩
  have m2 : a2 ≤ 16 := by rw [ha2, hfA]; split <;> omega
  repeat refine seq ?_
  refine cut (J := fun a w => Fr 25 a w [(0, E (Mono.W x2)), (2, E (I (a1 + a2 : Nat)))] ∧ Ext W w ∧ True) ?_ (fun a w hJ => ?_)
  · repeat refine seq ?_
    refine ifc hf rfl (fun hb => ?_) (fun hb => ?_)
    · have hb' : 2 ^ 16 ≤ x1.toNat := by have := of_decide_eq_true hb; omega
      rw [if_pos hb'] at hx2
      have ha2' : a2 = 16 := by rw [ha2, hfA, if_pos hb']
      repeat refine seq ?_
      refine regn 2 hf (by decide +kernel) ?_
      refine st (mv rfl) ?_
      refine st ((shrW rfl rfl (by omega)).eq (congrArg Mono.W hx2.symm)) ?_
      refine en fun a w e' hf => ?_
      replace e := Ext.tr e e'
      clear e'
      refine tl_as hf rfl (by decide) fun a hf => ?_
      refine tl_nil ?_
      repeat refine seq ?_
      refine regn 2 hf (by decide +kernel) ?_
      refine st (mv rfl) ?_
      refine st ((add rfl rfl (by omega)).eq (congrArg (Value.int .i64) (show (a1 : Int) + 16 = ((a1 + a2 : Nat) : Int) by rw [ha2']; rfl))) ?_
      refine en fun a w e' hf => ?_
      replace e := Ext.tr e e'
      clear e'
      refine tl_as hf rfl (by decide) fun a hf => ?_
      refine tl_nil ?_
      replace hf := hf.keep [0, 2]
      dsimp only [keep, List.filterMap, look, Nat.beq, Option.map] at hf
      exact ⟨rfl, hf, e, trivial⟩
    · have hb' : ¬2 ^ 16 ≤ x1.toNat := by have := of_decide_eq_false hb; omega
      rw [if_neg hb'] at hx2
      have ha2' : a2 = 0 := by rw [ha2, hfA, if_neg hb']
      refine wskip ?_
      rw [show (I (a1 : Nat)) = I (a1 + a2 : Nat) from by rw [ha2']; rfl, ← hx2] at hf
      replace hf := hf.keep [0, 2]
      dsimp only [keep, List.filterMap, look, Nat.beq, Option.map] at hf
      exact ⟨rfl, hf, e, trivial⟩
  clear hf e 
  obtain ⟨hf, e, _⟩ := hJ
  try simp only [Exit.then]
  clear hx2
  repeat refine seq ?_
  refine regn 2 hf (by decide +kernel) ?_
  refine st (mv rfl) ?_
  refine st (geq (b := 256) rfl rfl) ?_
  refine en fun a w e' hf => ?_
  replace e := Ext.tr e e'
  clear e'
  refine tl_nil ?_
  obtain ⟨x3, hx3⟩ : ∃ x3 : BitVec 64, x3 = if 2 ^ 8 ≤ x2.toNat then x2 >>> 8 else x2 := ⟨_, rfl⟩
  have e3 : x3.toNat = hfN 8 x2.toNat := by rw [hx3, hf_bv]
  have l3 : x3.toNat < 2 ^ 8 := by rw [e3]; exact hf_lt (by omega)
  obtain ⟨a3, ha3⟩ : ∃ a3, a3 = hfA 8 x2.toNat := ⟨_, rfl⟩
  have m3 : a3 ≤ 8 := by rw [ha3, hfA]; split <;> omega
  repeat refine seq ?_
  refine cut (J := fun a w => Fr 25 a w [(0, E (Mono.W x3)), (2, E (I (a1 + a2 + a3 : Nat)))] ∧ Ext W w ∧ True) ?_ (fun a w hJ => ?_)
  · repeat refine seq ?_
    refine ifc hf rfl (fun hb => ?_) (fun hb => ?_)
    · have hb' : 2 ^ 8 ≤ x2.toNat := by have := of_decide_eq_true hb; omega
      rw [if_pos hb'] at hx3
      have ha3' : a3 = 8 := by rw [ha3, hfA, if_pos hb']
      repeat refine seq ?_
      refine regn 2 hf (by decide +kernel) ?_
      refine st (mv rfl) ?_
      refine st ((shrW rfl rfl (by omega)).eq (congrArg Mono.W hx3.symm)) ?_
      refine en fun a w e' hf => ?_
      replace e := Ext.tr e e'
      clear e'
      refine tl_as hf rfl (by decide) fun a hf => ?_
      refine tl_nil ?_
      repeat refine seq ?_
      refine regn 2 hf (by decide +kernel) ?_
      refine st (mv rfl) ?_
      refine st ((add rfl rfl (by omega)).eq (congrArg (Value.int .i64) (show ((a1 + a2 : Nat) : Int) + 8 = ((a1 + a2 + a3 : Nat) : Int) by rw [ha3']; rfl))) ?_
      refine en fun a w e' hf => ?_
      replace e := Ext.tr e e'
      clear e'
      refine tl_as hf rfl (by decide) fun a hf => ?_
      refine tl_nil ?_
      replace hf := hf.keep [0, 2]
      dsimp only [keep, List.filterMap, look, Nat.beq, Option.map] at hf
      exact ⟨rfl, hf, e, trivial⟩
    · have hb' : ¬2 ^ 8 ≤ x2.toNat := by have := of_decide_eq_false hb; omega
      rw [if_neg hb'] at hx3
      have ha3' : a3 = 0 := by rw [ha3, hfA, if_neg hb']
      refine wskip ?_
      rw [show (I (a1 + a2 : Nat)) = I (a1 + a2 + a3 : Nat) from by rw [ha3']; rfl, ← hx3] at hf
      replace hf := hf.keep [0, 2]
      dsimp only [keep, List.filterMap, look, Nat.beq, Option.map] at hf
      exact ⟨rfl, hf, e, trivial⟩
  clear hf e 
  obtain ⟨hf, e, _⟩ := hJ
  try simp only [Exit.then]
  clear hx3
  have l8 : x3.toNat < 256 := l3
  have t3 := tab_get x3.toNat l8
  have t8 := dg_8 l8
  have hd := hf_dg 32 x.toNat
  have hd2 := hf_dg 16 x1.toNat
  have hd3 := hf_dg 8 x2.toNat
  rw [← e1, ← ha1] at hd
  rw [← e2, ← ha2] at hd2
  rw [← e3, ← ha3] at hd3
  repeat refine seq ?_
  refine regn 6 hf (by decide +kernel) ?_
  refine st (mv rfl) ?_
  refine st (mv rfl) ?_
  refine st ((convI Tryz.underlying65 Tryz.underlying5 rfl).eq (congrArg (Value.int .u8) (IntWalk.u8_in (x3.toNat : Int) (by omega)))) ?_
  refine st (idxStr (z := dg x3.toNat) Tryz.underlying9 rfl rfl (by omega) (by rw [Int.toNat_natCast]; generalize x3.toNat = n at l8 ⊢; revert l8; revert n; decide +kernel)) ?_
  refine st ((convI Tryz.underlying5 Tryz.underlying3 rfl).eq (congrArg (Value.int .i64) (IntWalk.i64_in ((dg x3.toNat : Nat) : Int) (by omega)))) ?_
  refine st ((add rfl rfl (by omega)).eq (congrArg (Value.int .i64) (show ((a1 + a2 + a3 : Nat) : Int) + (dg x3.toNat : Nat) = (dg x.toNat : Nat) by omega))) ?_
  refine en fun a w e' hf => ?_
  replace e := Ext.tr e e'
  clear e'
  refine tl_as hf rfl (by decide) fun a hf => ?_
  refine tl_nil ?_
  refine wret ?_
  try simp only [Exit.then, Exit.inBlock]
  refine ret1 rfl hf rfl ?_
  rintro _ rfl
  exact ⟨_, rfl, e, rfl⟩

theorem blen_spec (x : BitVec 64) (W : World) : Calls Tryz.prog 121 #[Mono.W x] W (Post (E (I (dg x.toNat : Nat))) W) := by
  refine enter (args := [Mono.W x]) (As := [E (Mono.W x)]) Tryz.func121 rfl Tryz.ntmps121 (Nat.le_of_ble_eq_true rfl) ?_ (fun a hf => ?_) (Nat.le_of_ble_eq_true rfl)
  rotate_left
  dsimp only [params, Nat.reduceAdd] at hf
  rotate_right
  · exact arg1 rfl
  have e := Ext.rfl' W
  repeat refine seq ?_
  refine regn0 ?_
  refine tl_as hf rfl (by decide) fun a hf => ?_
  refine tl_nil ?_
  repeat refine seq ?_
  refine ifc hf rfl (fun h => by cases h) (fun _ => ?_)
  refine wskip ?_
  try simp only [Exit.then, Exit.inBlock, ↓reduceIte]
  repeat refine seq ?_
  refine regn 2 hf (by decide +kernel) ?_
  refine st (mv rfl) ?_
  refine st (call1 En157 rfl (fun v w he h => by cases h; exact len64_spec x w)) ?_
  refine en fun a w e' hf => ?_
  replace e := Ext.tr e e'
  clear e'
  refine tl_as hf rfl (by decide) fun a hf => ?_
  refine tl_nil ?_
  refine wret ?_
  try simp only [Exit.then, Exit.inBlock]
  refine ret1 rfl hf rfl ?_
  rintro _ rfl
  exact ⟨_, rfl, e, rfl⟩

theorem bitLen_spec (n : Int) (W : World) (hn : n < 9223372036854775808) : Calls Tryz.prog 64 #[I n] W (Post (E (I (dg n.toNat : Nat))) W) := by
  refine enter (args := [I n]) (As := [E (I n)]) Tryz.func64 rfl Tryz.ntmps64 (Nat.le_of_ble_eq_true rfl) ?_ (fun a hf => ?_) (Nat.le_of_ble_eq_true rfl)
  rotate_left
  dsimp only [params, Nat.reduceAdd] at hf
  rotate_right
  · exact arg1 rfl
  have e := Ext.rfl' W
  have hW : Value.int .u64 (IntKind.u64.wrap (max 0 n)) = Mono.W (BitVec.ofNat 64 n.toNat) := by
    rw [Mono.W, BitVec.toNat_ofNat, Nat.mod_eq_of_lt (by omega), IntWalk.u64_in _ (by omega)]
    congr 1
    omega
  have hb : (BitVec.ofNat 64 n.toNat).toNat = n.toNat := by rw [BitVec.toNat_ofNat, Nat.mod_eq_of_lt (by omega)]
  repeat refine seq ?_
  refine regn0 ?_
  refine tl_as hf rfl (by decide) fun a hf => ?_
  refine tl_nil ?_
  repeat refine seq ?_
  refine regn 4 hf (by decide +kernel) ?_
  refine st (mv rfl) ?_
  refine st (max2 rfl rfl) ?_
  refine st ((convI Tryz.underlying3 Tryz.underlying171 rfl).eq (hW)) ?_
  refine st (call1 (A := E (I (dg n.toNat : Nat))) En121 rfl (fun v w he h => by cases h; have := blen_spec (BitVec.ofNat 64 n.toNat) w; rwa [hb] at this)) ?_
  refine en fun a w e' hf => ?_
  replace e := Ext.tr e e'
  clear e'
  refine tl_as hf rfl (by decide) fun a hf => ?_
  refine tl_nil ?_
  refine wret ?_
  try simp only [Exit.then, Exit.inBlock]
  refine ret1 rfl hf rfl ?_
  rintro _ rfl
  exact ⟨_, rfl, e, rfl⟩
end Go.Mono

namespace Go.Mono
open Go Go.Proofs Go.RowKit

def maxTo (l : List Int) (k : Nat) : Int := (l.take k).foldl max (l.getD 0 0)
theorem maxTo_succ {l : List Int} {k : Nat} {x : Int} (h : l[k]? = some x) : maxTo l (k + 1) = max (maxTo l k) x := by
  rw [maxTo, List.take_add_one, h, List.foldl_append]; rfl
theorem maxTo_mem {l : List Int} {k : Nat} (h0 : 0 < l.length) : maxTo l k ∈ l := by
  have : ∀ (m : List Int) (x : Int), x ∈ l → (∀ y ∈ m, y ∈ l) → m.foldl max x ∈ l := by
    intro m
    induction m with
    | nil => intro x hx _; exact hx
    | cons y m ih =>
      intro x hx hm
      rw [List.foldl_cons]
      refine ih _ ?_ fun z hz => hm z (by simp [hz])
      rcases Int.le_total x y with h | h
      · rw [Int.max_eq_right h]; exact hm y (by simp)
      · rw [Int.max_eq_left h]; exact hx
  refine this _ _ ?_ fun y hy => List.mem_of_mem_take hy
  match l, h0 with
  | x :: l, _ => simp

theorem smax_spec {G : Nat → Prop} (l : List Int) (v : Value) (W : World) (h : (Dv (slE intE) G l).p v W) (h0 : 0 < l.length) (hl : l.length ≤ 100000) :
    Calls Tryz.prog 120 #[v] W (Post (E (I (maxTo l l.length))) W) := by
  refine enter (args := [v]) (As := [Dv (slE intE) G l]) Tryz.func120 rfl Tryz.ntmps120 (Nat.le_of_ble_eq_true rfl) ?_ (fun a hf => ?_) (Nat.le_of_ble_eq_true rfl)
  rotate_left
  dsimp only [params, Nat.reduceAdd] at hf
  rotate_right
  · exact arg1 h
  have e := Ext.rfl' W
  obtain ⟨x0, hx0⟩ : ∃ x0, l[0]? = some x0 := ⟨_, List.getElem?_eq_getElem h0⟩
  have hm1 : maxTo l 1 = x0 := by
    match l, hx0 with
    | x :: l, hx0 => cases hx0; show max _ _ = _; exact Int.max_self _
  repeat refine seq ?_
  refine regn0 ?_
  refine tl_as hf rfl (by decide) fun a hf => ?_
  refine tl_nil ?_
  repeat refine seq ?_
  refine regn 3 hf (by decide +kernel) ?_
  refine st (mv rfl) ?_
  refine st (lenD Tryz.underlying59 (isR rfl)) ?_
  refine st ((lss rfl rfl).eq (congrArg Value.bool (decide_eq_false (by omega)))) ?_
  refine en fun a w e' hf => ?_
  replace e := Ext.tr e e'
  clear e'
  refine tl_nil ?_
  repeat refine seq ?_
  refine ifc hf rfl (fun h => by cases h) (fun _ => ?_)
  refine wskip ?_
  try simp only [Exit.then, Exit.inBlock, ↓reduceIte]
  replace hf := hf.keep [0]
  dsimp only [keep, List.filterMap, look, Nat.beq, Option.map] at hf
  repeat refine seq ?_
  refine regn 3 hf (by decide +kernel) ?_
  refine st (mv rfl) ?_
  refine st (idxD (j := 0) Tryz.underlying59 S3 (isR rfl) rfl rfl hx0) ?_
  refine st ((ldI T3 (isR rfl)).eq (congrArg I hm1.symm)) ?_
  refine en fun a w e' hf => ?_
  replace e := Ext.tr e e'
  clear e'
  refine tl_as hf rfl (by decide) fun a hf => ?_
  refine tl_nil ?_
  repeat refine seq ?_
  refine regn0 ?_
  refine tl_as hf rfl (by decide) fun a hf => ?_
  refine tl_nil ?_
  replace hf := hf.keep [0, 3, 4]
  dsimp only [keep, List.filterMap, look, Nat.beq, Option.map] at hf
  repeat refine seq ?_
  refine blk (loopN (fun r0 a w => ∃ k : Nat, r0 = l.length - k ∧ 1 ≤ k ∧ k ≤ l.length ∧ Fr 25 a w [(0, Dv (slE intE) G l), (3, E (I (maxTo l k))), (4, E (I k))] ∧ Ext W w) (l.length - 1) ⟨1, rfl, by omega, by omega, hf, e⟩ ?_)
  clear hf e
  rintro r0 a w ⟨k, rfl, hk1, hk, hf, e⟩
  repeat refine seq ?_
  refine regn 4 hf (by decide +kernel) ?_
  refine st (mv rfl) ?_
  refine st (mv rfl) ?_
  refine st (lenD Tryz.underlying59 (isR rfl)) ?_
  refine st (lss rfl rfl) ?_
  refine en fun a w e' hf => ?_
  replace e := Ext.tr e e'
  clear e'
  refine tl_nil ?_
  repeat refine seq ?_
  refine ifc hf rfl (fun hc => wskip ?_) (fun hc => wexit ?_)
  · have hlt : k < l.length := by have := of_decide_eq_true hc; omega
    clear hc
    simp only [Exit.then, Exit.inBlock, ↓reduceIte]
    obtain ⟨x, hx⟩ : ∃ x, l[k]? = some x := ⟨_, List.getElem?_eq_getElem hlt⟩
    repeat refine seq ?_
    refine blk ?_
    replace hf := hf.keep [0, 3, 4]
    dsimp only [keep, List.filterMap, look, Nat.beq, Option.map] at hf
    repeat refine seq ?_
    refine regn 6 hf (by decide +kernel) ?_
    refine st (mv rfl) ?_
    refine st (mv rfl) ?_
    refine st (mv rfl) ?_
    refine st (idxD Tryz.underlying59 S3 (isR rfl) rfl (by omega) (hx)) ?_
    refine st (ldI T3 (isR rfl)) ?_
    refine st ((max2 rfl rfl).eq (congrArg I (maxTo_succ hx).symm)) ?_
    refine en fun a w e' hf => ?_
    replace e := Ext.tr e e'
    clear e'
    refine tl_as hf rfl (by decide) fun a hf => ?_
    refine tl_nil ?_
    try simp only [Exit.then, Exit.inBlock, ↓reduceIte]
    replace hf := hf.keep [0, 3, 4]
    dsimp only [keep, List.filterMap, look, Nat.beq, Option.map] at hf
    repeat refine seq ?_
    refine regn 2 hf (by decide +kernel) ?_
    refine st (mv rfl) ?_
    refine st ((add rfl rfl (by omega)).eq (congrArg (Value.int .i64) (show (k : Int) + 1 = ((k + 1 : Nat) : Int) from rfl))) ?_
    refine en fun a w e' hf => ?_
    replace e := Ext.tr e e'
    clear e'
    refine tl_as hf rfl (by decide) fun a hf => ?_
    refine tl_nil ?_
    replace hf := hf.keep [0, 3, 4]
    dsimp only [keep, List.filterMap, look, Nat.beq, Option.map] at hf
    exact ⟨l.length - (k + 1), by omega, k + 1, rfl, by omega, by omega, hf, e⟩
  · obtain rfl : k = l.length := by have := of_decide_eq_false hc; omega
    simp only [Exit.then, Exit.inBlock, ↓reduceIte]
    replace hf := hf.keep [3]
    dsimp only [keep, List.filterMap, look, Nat.beq, Option.map] at hf
    repeat refine seq ?_
    refine regn 1 hf (by decide +kernel) ?_
    refine st (mv rfl) ?_
    refine en fun a w e' hf => ?_
    replace e := Ext.tr e e'
    clear e'
    refine tl_as hf rfl (by decide) fun a hf => ?_
    refine tl_nil ?_
    refine wret ?_
    try simp only [Exit.then, Exit.inBlock]
    refine ret1 rfl hf rfl ?_
    rintro _ rfl
    exact ⟨_, rfl, e, rfl⟩

open Classical in
/-- the number of bags on the longest way down -/
noncomputable def depT (t : List (Int × BS)) : Int := if chkR (toT t) = 0 then maxTo (depthsF t t.length (rootN t)).1 t.length + 1 else 0
theorem depthsF_len (t : List (Int × BS)) (f : Nat) (l : List Nat) : (depthsF t f l).1.length = t.length := by
  rw [depthsF, foldl_dn_len]; simp
theorem dnF_all (ks : Nat → List Nat) (Q : Int → Prop) : ∀ (f b : Nat) (deep : Int) (s : List Int × Int), (∀ x ∈ s.1, Q x) → (∀ d : Int, deep ≤ d → d ≤ deep + f → Q d) → ∀ x ∈ (dnF ks f b deep s).1, Q x
  | 0, b, deep, s, h, hd => by
    intro x hx
    rw [dnF] at hx
    rcases List.mem_or_eq_of_mem_set hx with h1 | h1
    · exact h x h1
    · rw [h1]; exact hd deep (by omega) (by omega)
  | f + 1, b, deep, s, h, hd => by
    rw [dnF]
    have : ∀ (l : List Nat) (s : List Int × Int), (∀ x ∈ s.1, Q x) → ∀ x ∈ (l.foldl (fun s k => dnF ks f k (deep + 1) s) s).1, Q x := by
      intro l
      induction l with
      | nil => intro s h; exact h
      | cons k l ih => intro s h; rw [List.foldl_cons]; exact ih _ (dnF_all ks Q f k (deep + 1) s h fun d h1 h2 => hd d (by omega) (by omega))
    refine this _ _ fun x hx => ?_
    rcases List.mem_or_eq_of_mem_set hx with h1 | h1
    · exact h x h1
    · rw [h1]; exact hd deep (by omega) (by omega)
theorem depthsF_all {t : List (Int × BS)} {f : Nat} {Q : Int → Prop} (h : ∀ d : Int, 0 ≤ d → d ≤ f → Q d) (l : List Nat) : ∀ x ∈ (depthsF t f l).1, Q x := by
  have : ∀ (l : List Nat) (s : List Int × Int), (∀ x ∈ s.1, Q x) → ∀ x ∈ (l.foldl (fun s b => dnF (kN t) f b 0 s) s).1, Q x := by
    intro l
    induction l with
    | nil => intro s h; exact h
    | cons k l ih => intro s hs; rw [List.foldl_cons]; exact ih _ (dnF_all _ Q _ _ _ _ hs fun d h1 h2 => h d h1 (by omega))
  refine this _ _ (fun y hy => ?_)
  rw [List.eq_of_mem_replicate hy]
  exact h 0 (by omega) (by omega)

theorem depth_spec {G : Nat → Prop} (t : List (Int × BS)) (v : Value) (W : World) (h : (Dv treeE G t).p v W) (hl : t.length ≤ 4096) :
    Calls Tryz.prog 63 #[v] W (Post (E (I (depT t))) W) := by
  have hd : Rng t → (rootN t).length = 1 → Dp t t.length := fun h1 h2 => Dp.mk' (by omega) h1 h2
  have hck : chkT t t.length = chkR (toT t) := chkT_eq
  refine enter (args := [v]) (As := [Dv treeE (GB W Go.Mono.G0) t]) Tryz.func63 rfl Tryz.ntmps63 (Nat.le_of_ble_eq_true rfl) ?_ (fun a hf => ?_) (Nat.le_of_ble_eq_true rfl)
  rotate_left
  dsimp only [params, Nat.reduceAdd] at hf
  rotate_right
  · exact arg1 (Dv.toB (Dv.weak h fun b _ hb => hb.elim))
  have e := Ext.rfl' W
  repeat refine seq ?_
  refine regn0 ?_
  refine tl_as hf rfl (by decide) fun a hf => ?_
  refine tl_nil ?_
  repeat refine seq ?_
  refine regn 3 hf (by decide +kernel) ?_
  refine st (mv rfl) ?_
  refine st ((call1 En25 rfl (fun v w he h => chkT_spec t t.length _ w h (by omega) hd)).eq (congrArg (Value.int .i64) hck)) ?_
  refine st (neq rfl rfl) ?_
  refine en fun a w e' hf => ?_
  replace e := Ext.tr e e'
  clear e'
  refine tl_nil ?_
  repeat refine seq ?_
  refine ifc hf rfl (fun hb => ?_) (fun hb => ?_)
  · have hb' : chkR (toT t) ≠ 0 := by simpa using hb
    have e0 : depT t = 0 := if_neg hb'
    repeat refine seq ?_
    refine regn0 ?_
    refine tl_as hf rfl (by decide) fun a hf => ?_
    refine tl_nil ?_
    refine wret ?_
    try simp only [Exit.then, Exit.inBlock]
    refine ret1 rfl hf rfl ?_
    rintro _ rfl
    exact ⟨_, rfl, e, congrArg I e0.symm⟩
  have hb' : chkR (toT t) = 0 := by simpa using hb
  obtain ⟨h0, V⟩ := chkR_ok.1 hb'
  rw [toT_len] at h0
  have e0 : depT t = maxTo (depthsF t t.length (rootN t)).1 t.length + 1 := if_pos hb'
  have hr : Rng t := fun i hi => by have := V.range i (by rw [toT_len]; exact hi); rwa [toT_up hi, toT_len] at this
  have hr1 : (rootN t).length = 1 := by
    apply Classical.byContradiction
    intro hh
    have hck0 := hck
    rw [hb', chkT, if_neg (by omega), if_neg (Classical.not_not.2 hr), if_pos hh] at hck0
    cases hck0
  have D := hd hr hr1
  have hlen := depthsF_len t t.length (rootN t)
  have hbd : 0 ≤ maxTo (depthsF t t.length (rootN t)).1 t.length ∧ maxTo (depthsF t t.length (rootN t)).1 t.length ≤ 5000 :=
    depthsF_all (Q := fun x => 0 ≤ x ∧ x ≤ 5000) (fun d h1 h2 => ⟨h1, by omega⟩) (rootN t) _ (maxTo_mem (by omega))
  clear hb
  refine wskip ?_
  try simp only [Exit.then, Exit.inBlock, ↓reduceIte]
  replace hf := hf.keep [0]
  dsimp only [keep, List.filterMap, look, Nat.beq, Option.map] at hf
  repeat refine seq ?_
  refine regn 5 hf (by decide +kernel) ?_
  refine st (mv rfl) ?_
  refine st (call1 En68 rfl (fun v w he h => depths_spec (G := Go.Mono.G0) t t.length _ w (Dv.weak h fun b _ hb => hb.elim) (fun b hb => hb.elim) (by omega) hr D.hh D.fb D.le)) ?_
  refine st (mv rfl) ?_
  refine st (ext_ rfl rfl) ?_
  refine st (ext_ rfl rfl) ?_
  refine en fun a w e' hf => ?_
  replace e := Ext.tr e e'
  clear e'
  refine tl_as hf rfl (by decide) fun a hf => ?_
  refine tl_as hf rfl (by decide) fun a hf => ?_
  refine tl_nil ?_
  replace hf := hf.keep [3]
  dsimp only [keep, List.filterMap, look, Nat.beq, Option.map] at hf
  repeat refine seq ?_
  refine regn 3 hf (by decide +kernel) ?_
  refine st (mv rfl) ?_
  refine st (call1 (A := E (I (maxTo (depthsF t t.length (rootN t)).1 t.length))) En120 rfl (fun v w he h => by have := smax_spec (G := Go.Mono.G0) _ v w h (by rw [hlen]; omega) (by rw [hlen]; omega); rwa [hlen] at this)) ?_
  refine st ((add rfl rfl (by omega)).eq (congrArg (Value.int .i64) e0.symm)) ?_
  refine en fun a w e' hf => ?_
  replace e := Ext.tr e e'
  clear e'
  refine tl_as hf rfl (by decide) fun a hf => ?_
  refine tl_nil ?_
  refine wret ?_
  try simp only [Exit.then, Exit.inBlock]
  refine ret1 rfl hf rfl ?_
  rintro _ rfl
  exact ⟨_, rfl, e, rfl⟩
end Go.Mono

namespace Go.Mono
open Go Go.Proofs Go.RowKit

/-- the example's tree -/
def kb : List (Int × BS) := [(-1, 0), (0, 0), (1, 0), (2, 0), (3, 0)]
def ko : List (Int × BS) := [(-1, 0), (0, 0), (1, 0), (0, 0), (3, 0)]
def k01 : BS := [(0 : Int), 1].foldl ins 0
theorem kb_all : (parts0 kb).map (fun x => (bagOf (adjL kb) kb x, atOf (adjL kb) x)) = [((-1, 0), 2), ((0, 0), 0), ((1, 0), 1), ((0, 0), 3), ((3, 0), 4)] := by decide +kernel
theorem kb_at : (parts0 kb).map (atOf (adjL kb)) = [2, 0, 1, 3, 4] := by
  have := congrArg (List.map Prod.snd) kb_all
  rw [List.map_map] at this
  exact this
theorem kb_o : (parts0 kb).map (bagOf (adjL kb) kb) = ko := by
  have := congrArg (List.map Prod.fst) kb_all
  rw [List.map_map] at this
  exact this
theorem l_zero : toL 0 = [] := by decide +kernel
theorem chk_of {t : List (Int × BS)} {xs : List RB} (h : toT t = xs) (h0 : 0 < xs.length) (V : Vals xs) : chkR (toT t) = 0 := by rw [h]; exact chkR_ok.2 ⟨h0, V⟩
theorem kb_chk : chkR (toT kb) = 0 :=
  chk_of (xs := [(-1, []), (0, []), (1, []), (2, []), (3, [])]) (by show [toB (-1, 0), toB (0, 0), toB (1, 0), toB (2, 0), toB (3, 0)] = _; simp only [toB, l_zero]) (by decide)
    ⟨by decide +kernel, by decide +kernel, by decide +kernel, by decide +kernel⟩
theorem ko_chk : chkR (toT ko) = 0 :=
  chk_of (xs := [(-1, []), (0, []), (1, []), (0, []), (3, [])]) (by show [toB (-1, 0), toB (0, 0), toB (1, 0), toB (0, 0), toB (3, 0)] = _; simp only [toB, l_zero]) (by decide)
    ⟨by decide +kernel, by decide +kernel, by decide +kernel, by decide +kernel⟩
theorem kb_balT : balT kb = ko := by rw [balT, if_pos kb_chk, kb_o]
theorem kb_balAt : balAt kb = [2, 0, 1, 3, 4] := by rw [balAt, if_pos kb_chk, kb_at]
theorem ko_dep : depT ko = 3 := by
  have : maxTo (depthsF ko ko.length (rootN ko)).1 ko.length = 2 := by decide +kernel
  rw [depT, if_pos ko_chk, this]; rfl
theorem k01_part : partE kb k01 = 0 := by
  have h : ¬(minOf k01 = none ∨ k01 &&& ~~~belowB kb.length ≠ 0 ∨ compB (adjL kb) k01 ((minOf k01).getD 0) ≠ k01) := by decide +kernel
  rw [partE, if_neg (fun hh => hh kb_chk), if_neg h]
theorem k01_cen : cenR kb k01 = 0 := by
  have : cenB (adjL kb) k01 = 0 := by decide +kernel
  rw [cenR, if_pos k01_part, this]; rfl

theorem bag_built (n : Int) : Tryz.prog.built 70 [(0, .int .i64 n)] = some (bagC (n, 0)) := by
  rw [show bagC (n, 0) = (Value.int .i64 n :: z16.toList).toArray from by
    have : setC 0 = z16 := by have := z16_eq; exact (Value.agg.inj this).symm
    rw [bagC, this]]
  kernel_rfl
theorem bldN {w0 : World} {L : Env} {dst : Option Tmp} {ty : TypeId} {pos : String} {aft : Array Edge} {g : Option (Nat × Bool)} {n : Int} {G : Nat → Prop} :
    OpC Tryz.prog w0 L ⟨dst, .build 70 #[(0, .const (.int .i64 n))], ty, pos, aft, g⟩ (E (bagV (n, 0))) :=
  opc_pure fun ρ w he hv => by
    have h1 : ρ (.const (.int .i64 n)) = .int .i64 n := hv (.const (.int .i64 n)) (by simp [Op.operands]) _ rfl
    refine ⟨.agg (bagC (n, 0)), ?_, rfl⟩
    have hr := run_build (P := Tryz.prog) w 70 #[(0, .int .i64 n)] (bagC (n, 0)) (by simpa using bag_built n)
    simp only [execOp, List.map_toArray, List.map_cons, List.map_nil, Sem.run_bind, h1, hr, Result.andThen_ok, Sem.run_pure]
section
variable {P : Program} {w0 : World} {L : Env} {dst : Option Tmp} {ty : TypeId} {pos : String} {aft : Array Edge} {g : Option (Nat × Bool)} {α : Type} {e : Enc α} {G : Nat → Prop} {t te : TypeId}
theorem bsl5 {z0 : Value} {sz bz : Nat} {x1 x2 x3 x4 x5 : Operand} {a1 a2 a3 a4 a5 : α} (ht : P.underlying t = some (.slice te)) (hi : (P.info? te).map (fun i => (i.zero, i.size, i.bytes)) = some (some z0, sz, bz)) (hk : sz = e.k) (hk2 : 5 * e.k ≤ 16777216) (hz0 : z0.cells.size = e.k) (hG : ∀ b, G b → b < w0.heap.size)
    (h1 : Is L w0 x1 (Dv e G a1)) (h2 : Is L w0 x2 (Dv e G a2)) (h3 : Is L w0 x3 (Dv e G a3)) (h4 : Is L w0 x4 (Dv e G a4)) (h5 : Is L w0 x5 (Dv e G a5)) : OpC P w0 L ⟨dst, .buildSlice t 5 #[(0, x1), (1, x2), (2, x3), (3, x4), (4, x5)], ty, pos, aft, g⟩ (Dv (slE e) G [a1, a2, a3, a4, a5]) :=
  bslN (n := 5) (xs := [x1, x2, x3, x4, x5]) ht hi hk rfl (by decide) hk2 hz0 hG ⟨h1, h2, h3, h4, h5, trivial⟩
end

theorem known_spec (W : World) (hT : Tab W) : Calls Tryz.prog 24 #[] W (Post (E (B true)) W) := by
  refine enter (args := []) (As := []) Tryz.func24 rfl Tryz.ntmps24 (Nat.le_of_ble_eq_true rfl) ?_ (fun a hf => ?_) (Nat.le_of_ble_eq_true rfl)
  · exact argZ
  dsimp only [params, Nat.reduceAdd] at hf
  have e := Ext.rfl' W
  have hg0 : ∀ {w : World}, ∀ b, Go.Mono.G0 b → b < w.heap.size := fun b hb => hb.elim
  repeat refine seq ?_
  refine regn0 ?_
  refine tl_as hf rfl (by decide) fun a hf => ?_
  refine tl_nil ?_
  repeat refine seq ?_
  refine regn 6 hf (by decide +kernel) ?_
  refine st (bldN (G := Go.Mono.G0)) ?_
  refine st (bldN (G := Go.Mono.G0)) ?_
  refine st (bldN (G := Go.Mono.G0)) ?_
  refine st (bldN (G := Go.Mono.G0)) ?_
  refine st (bldN (G := Go.Mono.G0)) ?_
  refine st (bsl5 (e := bagE) (G := Go.Mono.G0) Tryz.underlying23 I70 rfl (by decide) rfl hg0 (isBag rfl) (isBag rfl) (isBag rfl) (isBag rfl) (isBag rfl)) ?_
  refine en fun a w e' hf => ?_
  replace hT := hT.ext e'
  replace e := Ext.tr e e'
  clear e'
  refine tl_as hf rfl (by decide) fun a hf => ?_
  refine tl_nil ?_
  replace hf := hf.upd 1 rfl (B := Dv treeE Go.Mono.G0 kb) (fun v h => h)
  replace hf := hf.keep [1]
  dsimp only [keep, List.filterMap, look, Nat.beq, Option.map] at hf
  repeat refine seq ?_
  refine regn 6 hf (by decide +kernel) ?_
  refine st (mv rfl) ?_
  refine st (call1 En23 rfl (fun v w he h => balance_spec kb v w (hT.ext he) h (by decide) (foT (by decide)))) ?_
  refine st (mv rfl) ?_
  refine st (ext_ rfl rfl) ?_
  refine st (ext_ rfl rfl) ?_
  refine st (ext_ rfl rfl) ?_
  refine en fun a w e' hf => ?_
  replace hT := hT.ext e'
  replace e := Ext.tr e e'
  clear e'
  refine tl_as hf rfl (by decide) fun a hf => ?_
  refine tl_as hf rfl (by decide) fun a hf => ?_
  refine tl_as hf rfl (by decide) fun a hf => ?_
  refine tl_nil ?_
  rw [kb_balT, kb_balAt, kb_chk] at hf
  replace hf := hf.keep [1, 2, 3, 4]
  dsimp only [keep, List.filterMap, look, Nat.beq, Option.map] at hf
  repeat refine seq ?_
  refine regn 7 hf (by decide +kernel) ?_
  refine st (mv rfl) ?_
  refine st (bsl2 (e := intE) (G := Go.Mono.G0) Tryz.underlying59 I3 rfl (by decide) rfl hg0 (isI rfl) (isI rfl)) ?_
  refine st (call1 (A := E (setV k01)) En29 rfl (fun v w he h => of_spec [0, 1] v w h (by decide))) ?_
  refine st (call2 En62 rfl rfl (fun v u w he h h' => by cases h'; exact centroid_spec kb k01 v w (hT.ext he) h (by decide) (foT (by decide)))) ?_
  refine st (mv rfl) ?_
  refine st (ext_ rfl rfl) ?_
  refine st (ext_ rfl rfl) ?_
  refine en fun a w e' hf => ?_
  replace hT := hT.ext e'
  replace e := Ext.tr e e'
  clear e'
  refine tl_as hf rfl (by decide) fun a hf => ?_
  refine tl_as hf rfl (by decide) fun a hf => ?_
  refine tl_nil ?_
  rw [k01_cen, k01_part] at hf
  replace hf := hf.keep [2, 3, 4, 5, 6]
  dsimp only [keep, List.filterMap, look, Nat.beq, Option.map] at hf
  repeat refine seq ?_
  refine regn 73 hf (by decide +kernel) ?_
  refine st (mv rfl) ?_
  refine st ((eql rfl rfl).eq (congrArg Value.bool (show ((0 : Int) == 0) = true from rfl))) ?_
  refine st (mv rfl) ?_
  refine sy rfl rfl (mv rfl) ?_
  refine sy rfl rfl ((eql rfl rfl).eq (congrArg Value.bool (show ((0 : Int) == 0) = true from rfl))) ?_
  refine st (pkT rfl rfl) ?_
  refine st (mv rfl) ?_
  refine sy rfl rfl (mv rfl) ?_
  refine sy rfl rfl ((eql rfl rfl).eq (congrArg Value.bool (show ((0 : Int) == 0) = true from rfl))) ?_
  refine st (pkT rfl rfl) ?_
  refine st (mv rfl) ?_
  refine sy rfl rfl (mv rfl) ?_
  refine sy rfl rfl (lenD Tryz.underlying23 (isR rfl)) ?_
  refine sy rfl rfl ((eql rfl rfl).eq (congrArg Value.bool (show (((ko.length : Nat) : Int) == 5) = true from rfl))) ?_
  refine st (pkT rfl rfl) ?_
  refine st (mv rfl) ?_
  refine sy rfl rfl (mv rfl) ?_
  refine sy rfl rfl (lenD Tryz.underlying59 (isR rfl)) ?_
  refine sy rfl rfl ((eql rfl rfl).eq (congrArg Value.bool (show (((([2, 0, 1, 3, 4] : List Int).length : Nat) : Int) == 5) = true from rfl))) ?_
  refine st (pkT rfl rfl) ?_
  refine st (mv rfl) ?_
  refine sy rfl rfl (mv rfl) ?_
  refine sy rfl rfl (idxD (j := 0) Tryz.underlying59 S3 (isR rfl) rfl rfl rfl) ?_
  refine sy rfl rfl (ldI T3 (isR rfl)) ?_
  refine sy rfl rfl ((eql rfl rfl).eq (congrArg Value.bool (show ((2 : Int) == 2) = true from rfl))) ?_
  refine st (pkT rfl rfl) ?_
  refine st (mv rfl) ?_
  refine sy rfl rfl (mv rfl) ?_
  refine sy rfl rfl (idxD (j := 1) Tryz.underlying59 S3 (isR rfl) rfl rfl rfl) ?_
  refine sy rfl rfl (ldI T3 (isR rfl)) ?_
  refine sy rfl rfl ((eql rfl rfl).eq (congrArg Value.bool (show ((0 : Int) == 0) = true from rfl))) ?_
  refine st (pkT rfl rfl) ?_
  refine st (mv rfl) ?_
  refine sy rfl rfl (mv rfl) ?_
  refine sy rfl rfl (idxD (j := 2) Tryz.underlying59 S3 (isR rfl) rfl rfl rfl) ?_
  refine sy rfl rfl (ldI T3 (isR rfl)) ?_
  refine sy rfl rfl ((eql rfl rfl).eq (congrArg Value.bool (show ((1 : Int) == 1) = true from rfl))) ?_
  refine st (pkT rfl rfl) ?_
  refine st (mv rfl) ?_
  refine sy rfl rfl (mv rfl) ?_
  refine sy rfl rfl (idxD (j := 3) Tryz.underlying59 S3 (isR rfl) rfl rfl rfl) ?_
  refine sy rfl rfl (ldI T3 (isR rfl)) ?_
  refine sy rfl rfl ((eql rfl rfl).eq (congrArg Value.bool (show ((3 : Int) == 3) = true from rfl))) ?_
  refine st (pkT rfl rfl) ?_
  refine st (mv rfl) ?_
  refine sy rfl rfl (mv rfl) ?_
  refine sy rfl rfl (idxD (j := 4) Tryz.underlying59 S3 (isR rfl) rfl rfl rfl) ?_
  refine sy rfl rfl (ldI T3 (isR rfl)) ?_
  refine sy rfl rfl ((eql rfl rfl).eq (congrArg Value.bool (show ((4 : Int) == 4) = true from rfl))) ?_
  refine st (pkT rfl rfl) ?_
  refine st (mv rfl) ?_
  refine sy rfl rfl (mv rfl) ?_
  refine sy rfl rfl (idxD (j := 2) Tryz.underlying23 S70 (isR rfl) rfl rfl rfl) ?_
  refine sy rfl rfl (fldD Tryz.underlying70 rfl T3 (by decide) (Fld.fst Fld.refl) (isR rfl)) ?_
  refine sy rfl rfl (ldI T3 (isR rfl)) ?_
  refine sy rfl rfl ((eql rfl rfl).eq (congrArg Value.bool (show ((1 : Int) == 1) = true from rfl))) ?_
  refine st (pkT rfl rfl) ?_
  refine st (mv rfl) ?_
  refine sy rfl rfl (mv rfl) ?_
  refine sy rfl rfl (idxD (j := 3) Tryz.underlying23 S70 (isR rfl) rfl rfl rfl) ?_
  refine sy rfl rfl (fldD Tryz.underlying70 rfl T3 (by decide) (Fld.fst Fld.refl) (isR rfl)) ?_
  refine sy rfl rfl (ldI T3 (isR rfl)) ?_
  refine sy rfl rfl ((eql rfl rfl).eq (congrArg Value.bool (show ((0 : Int) == 0) = true from rfl))) ?_
  refine st (pkT rfl rfl) ?_
  refine st (mv rfl) ?_
  refine sy rfl rfl (mv rfl) ?_
  refine sy rfl rfl ((call1 En63 rfl (fun v w he h => depth_spec ko v w h (by decide))).eq (congrArg (Value.int .i64) ko_dep)) ?_
  refine sy rfl rfl ((eql rfl rfl).eq (congrArg Value.bool (show ((3 : Int) == 3) = true from rfl))) ?_
  refine st (pkT rfl rfl) ?_
  refine st (mv rfl) ?_
  refine sy rfl rfl (call1 (A := E (I 3)) En64 rfl (fun v w he h => by cases h; exact bitLen_spec 5 w (by decide))) ?_
  refine sy rfl rfl ((eql rfl rfl).eq (congrArg Value.bool (show ((3 : Int) == 3) = true from rfl))) ?_
  refine st (pkT rfl rfl) ?_
  refine en fun a w e' hf => ?_
  replace hT := hT.ext e'
  replace e := Ext.tr e e'
  clear e'
  refine tl_as hf rfl (by decide) fun a hf => ?_
  refine tl_nil ?_
  refine wret ?_
  try simp only [Exit.then, Exit.inBlock]
  refine ret1 rfl hf rfl ?_
  rintro _ rfl
  exact ⟨_, rfl, e, rfl⟩
end Go.Mono

namespace Go.Mono
open Go Go.Proofs Go.RowKit Go.ChangeShapes Go.WideShapes

theorem cellsBag : Tryz.prog.cellsOf 70 = 17 := by kernel_rfl
theorem cellsInt : Tryz.prog.cellsOf 3 = 1 := by kernel_rfl
theorem cellsSet : Tryz.prog.cellsOf 67 = 16 := by kernel_rfl
theorem cellsU64 : Tryz.prog.cellsOf 65 = 1 := by kernel_rfl
/-- sixteen words make a set -/
def ofW (f : Nat → BitVec 64) : Nat → BS
  | 0 => 0
  | n + 1 => ofW f n ||| ((f n).setWidth 1024 <<< (64 * n))
theorem word_shl (x : BitVec 64) (n i : Nat) (hi : i < 16) (hn : n < 16) : word (x.setWidth 1024 <<< (64 * n)) i = if i = n then x else 0 := by
  refine BitVec.eq_of_getLsbD_eq fun j hj => ?_
  rw [word_bit _ _ _ hj]
  have e : (x.setWidth 1024 <<< (64 * n)).getLsbD (64 * i + j) = (decide (64 * i + j < 1024) && !decide (64 * i + j < 64 * n) && (x.setWidth 1024).getLsbD (64 * i + j - 64 * n)) := BitVec.getLsbD_shiftLeft _ _
  rw [e, BitVec.getLsbD_setWidth]
  by_cases h : i = n
  · subst h
    have h1 : 64 * i + j - 64 * i = j := by omega
    have h2 : 64 * i + j < 1024 := by omega
    have h3 : ¬ 64 * i + j < 64 * i := by omega
    have h4 : j < 1024 := by omega
    simp only [h1, h2, h3, h4, decide_true, decide_false, Bool.not_false, Bool.true_and, if_true]
  · rw [if_neg h]
    by_cases h3 : i < n
    · have : 64 * i + j < 64 * n := by omega
      simp [this]
    · have h5 : 64 ≤ 64 * i + j - 64 * n := by omega
      have : x.getLsbD (64 * i + j - 64 * n) = false := BitVec.getLsbD_of_ge _ _ h5
      simp [this]
theorem ofW_word (f : Nat → BitVec 64) : ∀ n, n ≤ 16 → ∀ i, i < 16 → word (ofW f n) i = if i < n then f i else 0
  | 0, _, i, hi => by rw [ofW, word_zero]; simp
  | n + 1, hn, i, hi => by
    rw [ofW, word_or, ofW_word f n (by omega) i hi, word_shl _ _ _ hi (by omega)]
    by_cases h1 : i = n
    · subst h1; simp
    · by_cases h2 : i < n
      · rw [if_pos h2, if_neg h1, if_pos (by omega)]; simp
      · rw [if_neg h2, if_neg h1, if_neg (by omega)]; simp
theorem wordsC_ofW (f : Nat → BitVec 64) : setC (ofW f 16) = wordsC f := wordsC_congr fun i hi => by rw [ofW_word f 16 (Nat.le_refl _) i hi, if_pos hi]

section
variable {H : Type} {enc : TypeId × Value → H} {w : World} {base : Nat} {spare : Nat → Bool} {held : Bool}
theorem u64_of {z : Int} (h : (Lit.int .u64 z).wf = true) : Value.int .u64 z = Mono.W (BitVec.ofNat 64 z.toNat) := by
  have h1 : IntKind.u64.min = 0 := by decide
  have h2 : IntKind.u64.max = 18446744073709551615 := by decide
  simp only [Lit.wf, h1, h2, Bool.and_eq_true, decide_eq_true_eq] at h
  rw [Mono.W, BitVec.toNat_ofNat, Nat.mod_eq_of_lt (by omega), Int.toNat_of_nonneg h.1]
/-- the cells of one bag -/
theorem bag_cells {n : Nat} {cs : List Value} {x : DataW H × List MemPlace} (h : DataW.trod enc Tryz.prog w base spare held n 70 cs = some x) : ∃ b : Int × BS, cs = (bagC b).toList := by
  obtain ⟨y0, y1, m, _, hl, h0, h1⟩ := trod_struct2 Tryz.underlying70 h
  rw [cellsBag] at hl
  change DataW.trod enc Tryz.prog w base spare held m 3 ((cs.drop 0).take (Tryz.prog.cellsOf 3)) = some y0 at h0
  change DataW.trod enc Tryz.prog w base spare held m 67 ((cs.drop 1).take (Tryz.prog.cellsOf 67)) = some y1 at h1
  rw [cellsInt] at h0
  rw [cellsSet] at h1
  obtain ⟨z, hz, _, _⟩ := DataW.trod_int Tryz.underlying3 h0
  obtain ⟨xs, m2, _, _, hl2, hxl, hall⟩ := DataW.trod_array Tryz.underlying67 h1
  have hw : ∀ i, i < 16 → ∃ y : BitVec 64, cs[1 + i]? = some (Mono.W y) := by
    intro i hi
    have := hall i hi
    rw [cellsU64, Nat.mul_one] at this
    obtain ⟨b, hb⟩ : ∃ b, xs[i]? = some b := ⟨_, List.getElem?_eq_getElem (by omega)⟩
    rw [hb] at this
    obtain ⟨u, hu, _, hwf⟩ := DataW.trod_int Tryz.underlying65 this
    refine ⟨BitVec.ofNat 64 u.toNat, ?_⟩
    rw [← u64_of hwf]
    have h3 := congrArg (fun l : List Value => l[0]?) hu
    simp only [List.getElem?_cons_zero] at h3
    rw [List.getElem?_take, if_pos (by decide), List.getElem?_drop, Nat.add_zero, List.getElem?_take, if_pos hi, List.getElem?_drop] at h3
    exact h3
  obtain ⟨f, hf⟩ := Deep.choose_lt (n := 16) (p := fun i (y : BitVec 64) => cs[1 + i]? = some (Mono.W y)) hw
  refine ⟨(z, ofW f 16), ?_⟩
  apply List.ext_getElem?
  intro j
  simp only [bagC, wordsC_ofW]
  cases j with
  | zero =>
    have h3 := congrArg (fun l : List Value => l[0]?) hz
    simp only [List.getElem?_cons_zero] at h3
    rw [List.getElem?_take, if_pos (by decide), List.getElem?_drop] at h3
    simpa using h3
  | succ j =>
    simp only [List.getElem?_cons_succ, Array.getElem?_toList]
    by_cases hj : j < 16
    · rw [wordsC_get _ _ hj, Nat.add_comm]; exact hf j hj
    · rw [List.getElem?_eq_none (by omega), Array.getElem?_eq_none (by rw [wordsC_size]; omega)]
theorem bagC_len (b : Int × BS) : (bagC b).toList.length = 17 := by rw [Array.length_toList, bagC_size]
theorem bags_at {a : Addr} {f : Nat → Int × BS} : ∀ (n s : Nat), (∀ i, s ≤ i → i < s + n → ∀ j u, (bagC (f i)).toList[j]? = some u → w.cell? (a.add (i * 17 + j)) = some u) → ∀ j u, (((List.range' s n).map f).flatMap fun b => (bagC b).toList)[j]? = some u → w.cell? (a.add (s * 17 + j)) = some u
  | 0, s, h, j, u, hu => by simp at hu
  | n + 1, s, h, j, u, hu => by
    rw [List.range'_succ, List.map_cons, List.flatMap_cons] at hu
    by_cases hj : j < 17
    · rw [List.getElem?_append_left (by rw [bagC_len]; exact hj)] at hu
      exact h s (Nat.le_refl _) (by omega) j u hu
    · rw [List.getElem?_append_right (by rw [bagC_len]; omega), bagC_len] at hu
      have := bags_at n (s + 1) (fun i h1 h2 => h i (by omega) (by omega)) (j - 17) u hu
      rwa [show (s + 1) * 17 + (j - 17) = s * 17 + j by omega] at this
theorem bags_cells {G : Nat → Prop} : ∀ t : List (Int × BS), Cells bagE G w t (t.flatMap fun b => (bagC b).toList)
  | [] => rfl
  | b :: t => ⟨(bagC b).toList, _, rfl, ⟨[I b.1], (setC b.2).toList, rfl, rfl, rfl⟩, bags_cells t⟩
set_option maxRecDepth 100000 in
/-- THE ARGUMENT, OPENED -/
theorem open_tree {v : Value} {d : DataW H} {ps : List MemPlace} {b0 : Nat} (hok : Value.okWide Tryz.prog w .any b0 23 v) (h : DataW.Trod enc Tryz.prog w 0 spare held 23 v d ps) : ∃ t, (Dv treeE Go.Mono.G0 t).p v w := by
  obtain ⟨fuel, hf⟩ := h
  obtain ⟨a0, n0, c0, rfl⟩ := okWide_slice Tryz.underlying23 hok
  rcases Deep.open_slice Tryz.underlying23 hf with ⟨hcs, _⟩ | ⟨a, len, cap, m, n, D, Pl, hcs, _, hlc, _, hm, _, hall⟩
  · simp [Value.cells] at hcs
    obtain ⟨rfl, rfl, rfl⟩ := hcs
    exact ⟨[], Dv.nil⟩
  · simp [Value.cells] at hcs
    obtain ⟨rfl, rfl, rfl⟩ := hcs
    have hlm : n0 ≤ m := by rw [hm]; split <;> omega
    have each : ∀ i, i < n0 → ∃ b : Int × BS, ∀ j u, (bagC b).toList[j]? = some u → w.cell? (a.add (i * 17 + j)) = some u := by
      intro i hi
      obtain ⟨cs', h1, h2⟩ := hall i (by omega)
      rw [cellsBag] at h1
      obtain ⟨_, hlen, hcell⟩ := World.cells?_some h1
      obtain ⟨b, rfl⟩ := bag_cells h2
      refine ⟨b, fun j u hu => ?_⟩
      have hj : j < 17 := by have := (List.getElem?_eq_some_iff.1 hu).1; rw [bagC_len] at this; exact this
      have := hcell j hj
      rw [Deep.add_add] at this
      rw [this]; exact hu
    obtain ⟨f, hf'⟩ := Deep.choose_lt each
    by_cases h0 : n0 = 0
    · subst h0
      have hb : a.block < w.heap.size := by
        have h1 : Cell.ok Tryz.prog w .any b0 23 (.slice (some a) 0 c0) := by
          have := hok
          simpa [Value.okWide, Cell.okWide, Tryz.underlying23] using this
        have h2 : 0 ≤ c0 ∧ (c0 : Int) ≤ IntKind.i64.max ∧ w.has Tryz.prog .any b0 a 70 c0 := by
          simpa [Cell.ok, Tryz.underlying23] using h1
        have h3 := h2.2.2.2.2
        obtain ⟨row, h3⟩ := h3
        obtain ⟨cells, h3⟩ := h3
        have h4 := h3.1
        apply Classical.byContradiction
        intro hn
        have : w.heap[a.block]? = none := Array.getElem?_eq_none (by omega)
        simp [World.shape?, this] at h4
      exact ⟨[], Dv.sl.2 (.inr ⟨a, c0, [], rfl, by simp, fun hg => hg.elim, hb, rfl, fun j u hu => by simp at hu⟩)⟩
    · refine ⟨(List.range n0).map f, Dv.sl.2 (.inr ⟨a, c0, ((List.range n0).map f).flatMap fun b => (bagC b).toList, by simp, by simpa using hlc, fun hg => hg.elim, ?_, bags_cells _, fun j u hu => ?_⟩)⟩
      · have := hf' 0 (by omega) 0 (I (f 0).1) rfl
        have := World.block_lt_of_cell? w _ this
        simpa [add_block] using this
      · rw [List.range_eq_range'] at hu
        have := bags_at (w := w) (a := a) (f := f) n0 0 (fun i _ hi j u hu => hf' i (by omega) j u hu) j u hu
        simpa using this
end
end Go.Mono

namespace Go.Mono
open Go Go.Proofs Go.RowKit

/-- a slice of the call's own: the data avoid G and the slice's own block -/
structure OwX {α : Type} (e : Enc α) (ty : TypeId) (B : Nat) (G : Nat → Prop) (w : World) (xs : List α) (v : Value) : Prop where
  own : ∃ cs, w.ownsRow B ty e.k v xs.length cs ∧ Cells e (GO G v) w xs cs
  base : B ≤ w.heap.size
section
variable {α β : Type} {e : Enc α} {ty ty' : TypeId} {B B' : Nat} {G G' : Nat → Prop} {w w' : World} {xs : List α} {ys : List β} {v u : Value}
theorem OwX.lt (h : OwX e ty B G w xs v) {b : Nat} (hb : v.ownBlock = some b) : B ≤ b ∧ b < w.heap.size := by
  obtain ⟨cs, h1, _⟩ := h.own
  exact h1.lt b hb
theorem OwX.nil (e : Enc α) (ty : TypeId) {B : Nat} (hB : B ≤ w.heap.size) : OwX e ty B G w [] (.slice none 0 0) :=
  ⟨⟨[], World.ownsRow_nil _ _ _ _, rfl⟩, hB⟩
theorem OwX.weak (h : OwX e ty B G w xs v) (hG : ∀ b, b < w.heap.size → G' b → G b) : OwX e ty B G' w xs v := by
  obtain ⟨cs, h1, h2⟩ := h.own
  exact ⟨⟨cs, h1, h2.weak fun b hb h => h.imp (hG b hb) id⟩, h.base⟩
theorem OwX.ch (h : OwX e ty B G w xs v) {S : Nat → Prop} (c : Chg S w w') (hS : ∀ b, v.ownBlock = some b → ¬S b) (hG : ∀ b, S b → G b) : OwX e ty B G w' xs v := by
  obtain ⟨cs, h1, h2⟩ := h.own
  refine ⟨⟨cs, ⟨h1.1, ?_⟩, h2.pres (fun b hb hn => c.block b hb fun hs => hn (.inl (hG b hs))) c.size⟩, Nat.le_trans h.base c.size⟩
  rcases h1.2 with h3 | ⟨g, cap, cur, a1, a2, a3, a4⟩
  · exact .inl h3
  · refine .inr ⟨g, cap, cur, a1, a2, ?_, a4⟩
    rw [c.block g (Array.getElem?_eq_some_iff.1 a3).1 (hS g (by rw [a1]; rfl))]
    exact a3
theorem OwX.ext (h : OwX e ty B G w xs v) (k : Ext w w') : OwX e ty B G w' xs v := h.ch (k.chg fun _ => False) (fun _ _ h => h) fun _ h => h.elim
theorem OwX.sl (h : OwX e ty B G w xs v) (hG : ∀ b, v.ownBlock = some b → ¬G' b) (hGG : ∀ b, b < w.heap.size → G' b → G b) : (Dv (slE e) G' xs).p v w := by
  obtain ⟨cs, h1, h2⟩ := h.own
  refine Dv.sl.2 ?_
  rcases h1.2 with ⟨hv, hn⟩ | ⟨g, cap, cur, hv, hB, hg, hn, hm, hs, ht⟩
  · exact .inl ⟨hv, List.eq_nil_of_length_eq_zero hn⟩
  · refine .inr ⟨_, cap, cs, hv, hn, hG _ (by rw [hv]; rfl), (Array.getElem?_eq_some_iff.1 hg).1, h2.weak fun b hb h => .inl (hGG b hb h), h1.cells (by rw [hv]; rfl)⟩
theorem OwX.sl0 (h : OwX e ty B G w xs v) : (Dv (slE e) Go.Mono.G0 xs).p v w := h.sl (fun _ _ h => h) fun _ _ h => h.elim
theorem OwX.one (h : OwX e ty B G w xs v) : v.oneCell' = true := by
  rcases Dv.sl.1 h.sl0 with ⟨rfl, _⟩ | ⟨ad, cap, cs, rfl, _⟩ <;> rfl
end
section tail
variable {P : Program} {L : Env} {ty : TypeId} {pos : String} {aft : Array Edge} {r : Option Nat} {ds : List Deferred}
variable {ops : Array Oper} {rest : List Oper} {Q : Exit → Act → World → Prop} {n : Nat} {a : Act} {w : World} {x y : Operand}
variable {α : Type} {e : Enc α} {G : Nat → Prop} {xs ys : List α} {v : Value}
/-- a call whose post speaks of its value -/
theorem tl_callE {S : Nat → Prop} {F : Value → World → Prop} {id : FuncId} {xs : Array Operand} {tys : Array TypeId} {d : Nat} (hf : FrD n ds a w L) [hL : AvSL S L] (hd : d < n) (he : Proofs.Enters P id)
    (h : Calls P id (xs.map a.eval) w (fun e w' => ∃ v, e = .returned v ∧ Chg S w w' ∧ F v w'))
    (k : ∀ a' v w', Chg S w w' → F v w' → FrD n ds a' w' ((d, E v) :: L) → wpListIn (FW r) 0 P ops Q rest a' w') :
    wpListIn (FW r) 0 P ops Q (⟨some d, .call ⟨.value (.func id), xs, tys⟩, ty, pos, aft, none⟩ :: rest) a w :=
  wpListIn_plain rfl fun K hK => by
    have hfv : a.eval (.func id) = .func (.func id) #[] #[] := rfl
    have hrun : (execOp a.eval ⟨some d, .call ⟨.value (.func id), xs, tys⟩, ty, pos, aft, none⟩).run P w = .ok (.enter id (xs.map a.eval)) w := by
      have := he (xs.map a.eval) w
      simp [execOp, resolve, hfv, Deferred.ofValue, invoke, this]
    refine OpR.wp (R := fun v w' => Chg S w w' ∧ F v w') ?_ ?_
    · simp only [OpR, hrun]
      exact h
    · rintro v w' ⟨h1, h3⟩
      exact hK _ _ (k _ _ _ h1 h3 ((hf.ch h1).put (d := some d) (A := E v) (Ext.rfl' _) (fun k hk => by cases hk; exact hd) rfl))
end tail
end Go.Mono

namespace Go.Mono
open Go Go.RowKit
/-- A under the condition p, undefined otherwise -/
def CdP (p : Bool) (A : VA) : VA := ⟨fun v w => (p = true ∧ A.p v w) ∨ (p = false ∧ v = undef), fun v w w' e h => h.imp (fun h => ⟨h.1, A.st v w w' e h.2⟩) id⟩
instance (row : Option Nat) (p : Bool) (A : VA) [h : AvR row A] : AvR row (CdP p A) := ⟨fun v w w' hg hv => hv.imp (fun hv => ⟨hv.1, h.av v w w' hg hv.2⟩) id⟩
/-- L' : some of L's slots, those under a condition that follows from p opened -/
inductive Opn (p : Bool) (L : Env) : Env → Prop
  | n : Opn p L []
  | k (t : Nat) {A : VA} {L' : Env} (h : look L t = some A) (r : Opn p L L') : Opn p L ((t, A) :: L')
  | c (t : Nat) {q : Bool} {A : VA} {L' : Env} (h : look L t = some (CdP q A)) (hp : p = true → q = true) (r : Opn p L L') : Opn p L ((t, A) :: L')
theorem Opn.get {p : Bool} {L L' : Env} (h : Opn p L L') : ∀ t A, look L' t = some A → ∃ B, look L t = some B ∧ ∀ v w, p = true → B.p v w → A.p v w := by
  induction h with
  | n => intro t A h; simp [look] at h
  | k t0 h r ih =>
    intro t A hA
    by_cases ht : t0 = t
    · subst ht; rw [look_cons_same] at hA; obtain rfl := Option.some.inj hA; exact ⟨_, h, fun _ _ _ h => h⟩
    · rw [look_cons_ne _ _ ht] at hA; exact ih t A hA
  | c t0 h hp r ih =>
    intro t A hA
    by_cases ht : t0 = t
    · subst ht; rw [look_cons_same] at hA; obtain rfl := Option.some.inj hA
      exact ⟨_, h, fun v w hpt hB => by
        rcases hB with ⟨_, hB⟩ | ⟨hq, _⟩
        · exact hB
        · rw [hp hpt] at hq; cases hq⟩
    · rw [look_cons_ne _ _ ht] at hA; exact ih t A hA
section
variable {P : Program} {w0 : World} {L L' : Env} {ty : TypeId} {pos : String} {aft : Array Edge} {ops : Array Oper} {rest : List Oper} {K : Env → Prop} {A : VA} {op : Op} {dd : Nat}
theorem opn_vals {p : Bool} {a : Act} {w : World} {o : Oper} (hL : Opn p L L') (hp : p = true) (hv : ∀ x ∈ o.op.operands, ∀ B, opd L x = some B → B.p (a.eval x) w) : ∀ x ∈ o.op.operands, ∀ B, opd L' x = some B → B.p (a.eval x) w := by
  intro x hx B hB
  cases x with
  | tmp t =>
    obtain ⟨C, h1, h2⟩ := hL.get t B hB
    exact h2 _ _ hp (hv _ hx C h1)
  | const v => exact hv _ hx B hB
  | global g => exact hv _ hx B hB
  | func f => exact hv _ hx B hB
/-- under a guard -/
theorem sgE {i d : Nat} {want b : Bool} (hd : (ops[i]?).bind (·.dst) = some d) (hl : look L d = some (E (.bool b))) (hL : Opn (b == want) L L')
    (h : (b == want) = true → OpC P w0 L' ⟨some dd, op, ty, pos, aft, some (i, want)⟩ A) (k : RegM P ops w0 rest K ((dd, CdP (b == want) A) :: L)) : RegM P ops w0 (⟨some dd, op, ty, pos, aft, some (i, want)⟩ :: rest) K L :=
  ⟨CdP (b == want) A, fun a w he hv hgd => by
    have h1 : a.eval (.tmp d) = .bool b := hgd d _ (by simp [gdst, hd]) hl
    have h2 := yielded_of (ops := ops) hd h1
    cases hb : b == want with
    | true =>
      obtain rfl : b = want := by simpa using hb
      simp only [Region.wanted, h2, beq_self_eq_true, if_true]
      exact ((h hb).out _ w he (opn_vals hL hb hv)).mono fun v w' ⟨h1, h2⟩ => ⟨h1, .inl ⟨rfl, h2⟩⟩
    | false =>
      have h3 : (some b == some want) = false := by cases b <;> cases want <;> simp_all
      simp only [Region.wanted, h2, h3]
      exact .inr ⟨rfl, rfl⟩, k⟩
/-- under a guard that stands under a guard -/
theorem sgC {i d : Nat} {q want c : Bool} (hd : (ops[i]?).bind (·.dst) = some d) (hl : look L d = some (CdP q (E (.bool c)))) (hL : Opn (q && c == want) L L')
    (h : (q && c == want) = true → OpC P w0 L' ⟨some dd, op, ty, pos, aft, some (i, want)⟩ A) (k : RegM P ops w0 rest K ((dd, CdP (q && c == want) A) :: L)) : RegM P ops w0 (⟨some dd, op, ty, pos, aft, some (i, want)⟩ :: rest) K L :=
  ⟨CdP (q && c == want) A, fun a w he hv hgd => by
    have h1 := hgd d _ (by simp [gdst, hd]) hl
    rcases h1 with ⟨hq, h1⟩ | ⟨hq, h1⟩
    · have h2 := yielded_of (ops := ops) hd (show a.eval (.tmp d) = .bool c from h1)
      subst hq
      cases hb : c == want with
      | true =>
        have hb' : (true && c == want) = true := by rw [hb]; rfl
        obtain rfl : c = want := by simpa using hb
        simp only [Region.wanted, h2, beq_self_eq_true, if_true]
        exact ((h hb').out _ w he (opn_vals hL hb' hv)).mono fun v w' ⟨h1, h2⟩ => ⟨h1, .inl ⟨rfl, h2⟩⟩
      | false =>
        have h3 : (some c == some want) = false := by cases c <;> cases want <;> simp_all
        simp only [Region.wanted, h2, h3]
        exact .inr ⟨rfl, rfl⟩
    · subst hq
      have h2 : yielded ops a.tmps i = none := by
        unfold yielded
        rw [hd]
        simp only [Act.eval] at h1
        cases hh : a.tmps[d]? with
        | none => simp [hh]
        | some v => simp [hh] at h1; subst h1; simp [hh, undef]
      simp only [Region.wanted, h2]
      exact .inr ⟨rfl, rfl⟩, k⟩
variable {dst : Option Tmp} {g : Option (Nat × Bool)}
/-- b && v -/
theorem pkAnd {c x : Operand} {b q v : Bool} (hc : opd L c = some (E (.bool b))) (hx : opd L x = some (CdP q (E (.bool v)))) (hq : b = true → q = true) :
    OpC P w0 L ⟨dst, .pick c x (.const (.bool false)), ty, pos, aft, g⟩ (E (.bool (b && v))) := by
  refine opc_pure fun ρ w he hv => ?_
  have h1 := opE hv (x := c) (by simp [Op.operands]) hc
  have h2 := hv x (by simp [Op.operands]) _ hx
  have h3 : ρ (.const (.bool false)) = .bool false := hv (.const (.bool false)) (by simp [Op.operands]) _ rfl
  cases hb : b with
  | false => subst hb; exact ⟨_, by simp [execOp, h1, h3, asBool], rfl⟩
  | true =>
    subst hb
    rcases h2 with ⟨_, h2⟩ | ⟨h2, _⟩
    · exact ⟨_, by simp [execOp, h1, asBool], h2⟩
    · rw [hq rfl] at h2; cases h2
/-- b || v -/
theorem pkOr {c x : Operand} {b q v : Bool} (hc : opd L c = some (E (.bool b))) (hx : opd L x = some (CdP q (E (.bool v)))) (hq : b = false → q = true) :
    OpC P w0 L ⟨dst, .pick c (.const (.bool true)) x, ty, pos, aft, g⟩ (E (.bool (b || v))) := by
  refine opc_pure fun ρ w he hv => ?_
  have h1 := opE hv (x := c) (by simp [Op.operands]) hc
  have h2 := hv x (by simp [Op.operands]) _ hx
  have h3 : ρ (.const (.bool true)) = .bool true := hv (.const (.bool true)) (by simp [Op.operands]) _ rfl
  cases hb : b with
  | true => subst hb; exact ⟨_, by simp [execOp, h1, h3, asBool], rfl⟩
  | false =>
    subst hb
    rcases h2 with ⟨_, h2⟩ | ⟨h2, _⟩
    · exact ⟨_, by simp [execOp, h1, asBool], h2⟩
    · rw [hq rfl] at h2; cases h2
end
/-- a box that is only read -/
theorem tl_boxP {P : Program} {r : Option Nat} {ds : List Deferred} {L : Env} {ops : Array Oper} {rest : List Oper} {Q : Exit → Act → World → Prop} {n : Nat} {a : Act} {w : World} {ty : TypeId} {pos : String} {aft : Array Edge} {α : Type} {e : Enc α} {G : Nat → Prop} {z : α} {t : TypeId} {x : Operand} {d : Nat}
    (hf : FrD n ds a w L) (hx : opd L x = some (Dv e G z)) (hd : d < n) (hG : ∀ b, G b → b < w.heap.size)
    (k : ∀ a' w', Ext w w' → FrD n ds a' w' ((d, Dv (ptE e) G (some z)) :: L) → wpListIn (FW r) 0 P ops Q rest a' w') :
    wpListIn (FW r) 0 P ops Q (⟨some d, .box t x, ty, pos, aft, none⟩ :: rest) a w :=
  tl_box hf hx hd fun a' b w' v hv e' hb hs hB hf' => k a' w' e' (by
    obtain ⟨cs, h1, rfl⟩ := hv
    have hPt : (Dv (ptE e) G (some z)).p (.pointer (some ⟨b, 0, none⟩)) w' := Dv.pt.2 ⟨_, rfl, fun h => by have := hG _ h; simp only at this; omega, by simp only; omega, cs, Enc.ext h1 e', fun i u hu => by
      rw [Enc.pack_cells h1] at hB
      have : (Addr.mk b 0 none).add i = ⟨b, i, none⟩ := by simp [Addr.add]; intro h; exact h.symm
      rw [this, hB.cell]
      simpa using hu⟩
    exact hf'.weak fun v hv => by cases hv; exact hPt)
end Go.Mono

namespace Go.Gr
abbrev VT := Int × (Int × Int)
abbrev ET := (Int × Int) × (Int × Int)
abbrev DT := Int × Int × Int × Int × Int
abbrev GT := List VT × List ET
def lt2 (p q : Int × Int) : Bool := decide (p.1 < q.1 ∨ p.1 = q.1 ∧ p.2 < q.2)
def lt1 (p q : Int) : Bool := decide (p < q)
def insW {γ : Type} (after : γ → Bool) (x : γ) (l : List γ) : List γ := l.takeWhile (fun y => !after y) ++ x :: l.dropWhile (fun y => !after y)
def insV (l : List VT) (x : VT) : List VT := insW (fun y => lt1 x.1 y.1) x l
def insE (l : List ET) (x : ET) : List ET := insW (fun y => lt2 x.1 y.1) x l
/-- what a sorted list becomes when a key gets a value -/
def putL {α β : Type} [DecidableEq α] (lt : α → α → Bool) (l : List (α × β)) (k : α) (c : β) : List (α × β) :=
  if l.any (fun y => decide (y.1 = k)) then l.map (fun y => if y.1 = k then (k, c) else y) else insW (fun y => lt k y.1) (k, c) l
def pairs (op : Int) : Bool := op == 2 || op == 3 || op == 6 || op == 7
def weighs (op : Int) : Bool := op == 0 || op == 2 || op == 5 || op == 7
def idOk (n : Int) : Bool := decide (0 ≤ n) && decide (n < 1024)
def heavy (n : Int) : Bool := decide (n < -1048576) || decide (1048576 < n)
def inV (l : List VT) (n : Int) : Bool := l.any fun y => decide (y.1 = n)
def ends (u v : Int) : Int × Int := (min u v, max u v)
def inE (l : List ET) (u v : Int) : Bool := l.any fun y => decide (y.1 = ends u v)
def tests (g : GT) (d : DT) : List (Bool × Int) :=
  let (op, u, v, _, x) := d
  [(decide (op < 0) || decide (8 ≤ op), 11),
   ((!idOk u) || (pairs op && !idOk v) || (weighs op && heavy x), 2),
   (pairs op && u == v, 15),
   (op == 0 && inV g.1 u, 7),
   ((op != 0 && !pairs op && !inV g.1 u) || (op == 2 && !(inV g.1 u && inV g.1 v)), 9),
   (pairs op && op != 2 && !inE g.2 u v, 9),
   (op == 2 && inE g.2 u v, 7),
   (op == 2 && decide ((1024 : Int) ≤ (g.2.length : Nat)), 8)]
def firstOf : List (Bool × Int) → Int
  | [] => 0
  | (b, c) :: r => if b then c else firstOf r
def wrongM (g : GT) (d : DT) : Int := firstOf (tests g d)
/-- the program's edits of a vertex and of an edge -/
def doM (g : GT) (d : DT) : GT :=
  if d.1 = 0 then (putL lt1 g.1 d.2.1 d.2.2.2, g.2) else if d.1 = 2 then (g.1, putL lt2 g.2 (ends d.2.1 d.2.2.1) d.2.2.2) else g

/-- a valid graph: sorted, in range, edges between vertices -/
structure Ok (g : GT) : Prop where
  sv : g.1.Pairwise fun a b => lt1 a.1 b.1 = true
  se : g.2.Pairwise fun a b => lt2 a.1 b.1 = true
  rv : ∀ x ∈ g.1, idOk x.1 = true ∧ (0 ≤ x.2.1 ∧ x.2.1 < 256) ∧ heavy x.2.2 = false
  re : ∀ x ∈ g.2, x.1.1 < x.1.2 ∧ inV g.1 x.1.1 = true ∧ inV g.1 x.1.2 = true ∧ (0 ≤ x.2.1 ∧ x.2.1 < 256) ∧ heavy x.2.2 = false
  ne : g.2.length ≤ 1024
theorem insW_last {γ : Type} (after : γ → Bool) (x : γ) (l : List γ) (h : ∀ y ∈ l, after y = false) : insW after x l = l ++ [x] := by
  unfold insW
  induction l with
  | nil => rfl
  | cons y r ih =>
    have hy := h y (by simp)
    simp only [List.takeWhile_cons, List.dropWhile_cons, hy, Bool.not_false, if_true, List.cons_append]
    rw [ih fun z hz => h z (by simp [hz])]
theorem putL_last {α β : Type} [DecidableEq α] (lt : α → α → Bool) (l : List (α × β)) (k : α) (c : β) (h : ∀ y ∈ l, y.1 ≠ k ∧ lt k y.1 = false) : putL lt l k c = l ++ [(k, c)] := by
  unfold putL
  rw [if_neg]
  · exact insW_last _ _ _ fun y hy => (h y hy).2
  · simp only [List.any_eq_true, decide_eq_true_eq, not_exists, not_and]
    exact fun y hy => (h y hy).1
theorem lt2_irr (a : Int × Int) : lt2 a a = false := by simp [lt2]
theorem lt2_asy {a b : Int × Int} (h : lt2 a b = true) : lt2 b a = false ∧ a ≠ b := by
  obtain ⟨a1, a2⟩ := a; obtain ⟨b1, b2⟩ := b
  simp only [lt2, decide_eq_true_eq, decide_eq_false_iff_not] at *
  exact ⟨by omega, fun h' => by simp only [Prod.mk.injEq] at h'; omega⟩
theorem lt2_tr {a b c : Int × Int} (h : lt2 a b = true) (k : lt2 b c = true) : lt2 a c = true := by
  simp only [lt2, decide_eq_true_eq] at *; omega
theorem lt2_tot {a b : Int × Int} (h : lt2 a b = false) (k : a ≠ b) : lt2 b a = true := by
  obtain ⟨a1, a2⟩ := a; obtain ⟨b1, b2⟩ := b
  simp only [lt2, decide_eq_true_eq, decide_eq_false_iff_not, ne_eq, Prod.mk.injEq] at *; omega
theorem lt1_asy {a b : Int} (h : lt1 a b = true) : lt1 b a = false ∧ a ≠ b := by
  simp only [lt1, decide_eq_true_eq, decide_eq_false_iff_not] at *; omega
theorem lt1_tr {a b c : Int} (h : lt1 a b = true) (k : lt1 b c = true) : lt1 a c = true := by
  simp only [lt1, decide_eq_true_eq] at *; omega
theorem lt1_tot {a b : Int} (h : lt1 a b = false) (k : a ≠ b) : lt1 b a = true := by
  simp only [lt1, decide_eq_true_eq, decide_eq_false_iff_not] at *; omega

/-- the edits that build a graph -/
def dV (x : VT) : DT := (0, x.1, 0, x.2)
def dE (x : ET) : DT := (2, x.1.1, x.1.2, x.2)
theorem before {γ : Type} {R : γ → γ → Prop} {l : List γ} (h : l.Pairwise R) {i : Nat} {x : γ} (hx : l[i]? = some x) : ∀ y ∈ l.take i, R y x := by
  intro y hy
  obtain ⟨j, hj, rfl⟩ := List.getElem_of_mem hy
  obtain ⟨hi, rfl⟩ := List.getElem?_eq_some_iff.1 hx
  simp only [List.length_take] at hj
  rw [List.getElem_take]
  exact List.pairwise_iff_getElem.1 h _ _ (by omega) hi (by omega)
theorem take_succ' {γ : Type} {l : List γ} {i : Nat} {x : γ} (hx : l[i]? = some x) : l.take (i + 1) = l.take i ++ [x] := by
  rw [List.take_add_one, hx]; rfl
theorem ends_lt {u v : Int} (h : u < v) : ends u v = (u, v) := by
  simp only [ends, Prod.mk.injEq]; omega
theorem stepV {g : GT} (G : Ok g) {i : Nat} {x : VT} (hx : g.1[i]? = some x) : wrongM (g.1.take i, []) (dV x) = 0 ∧ doM (g.1.take i, []) (dV x) = (g.1.take (i + 1), []) := by
  have hb := before G.sv hx
  obtain ⟨h1, h2, h3⟩ := G.rv x (List.mem_of_getElem? hx)
  have hin : inV (g.1.take i) x.1 = false := by
    simp only [inV, List.any_eq_false, decide_eq_true_eq]
    exact fun y hy => (lt1_asy (hb y hy)).2
  constructor
  · simp [wrongM, tests, dV, firstOf, pairs, weighs, h1, h3, hin]
  · simp only [doM, dV, if_true]
    rw [putL_last _ _ _ _ fun y hy => ⟨(lt1_asy (hb y hy)).2, (lt1_asy (hb y hy)).1⟩, take_succ' hx]
theorem stepE {g : GT} (G : Ok g) {i : Nat} {x : ET} (hx : g.2[i]? = some x) : wrongM (g.1, g.2.take i) (dE x) = 0 ∧ doM (g.1, g.2.take i) (dE x) = (g.1, g.2.take (i + 1)) := by
  have hb := before G.se hx
  obtain ⟨h1, h2, h3, h4, h5⟩ := G.re x (List.mem_of_getElem? hx)
  have hid : ∀ n, inV g.1 n = true → idOk n = true := fun n hn => by
    simp only [inV, List.any_eq_true, decide_eq_true_eq] at hn
    obtain ⟨y, hy, rfl⟩ := hn
    exact (G.rv y hy).1
  have he : ends x.1.1 x.1.2 = x.1 := ends_lt h1
  have hin : inE (g.2.take i) x.1.1 x.1.2 = false := by
    simp only [inE, he, List.any_eq_false, decide_eq_true_eq]
    exact fun y hy => (lt2_asy (hb y hy)).2
  have hil : i < g.2.length := (List.getElem?_eq_some_iff.1 hx).1
  have hn := G.ne
  have h6 : ¬(x.1.1 = x.1.2) := by omega
  have h7 : ¬((1024 : Int) ≤ ((g.2.take i).length : Nat)) := by simp only [List.length_take]; omega
  constructor
  · simp only [wrongM, tests, dE, firstOf, pairs, weighs, hid _ h2, hid _ h3, h5, h2, h3, hin, h6, h7]
    simp [h6]
  · simp only [doM, dE]
    rw [if_neg (by decide), if_pos trivial, he, putL_last _ _ _ _ fun y hy => ⟨(lt2_asy (hb y hy)).2, (lt2_asy (hb y hy)).1⟩, take_succ' hx]
end Go.Gr
namespace Go.Gr
section
variable {γ : Type} (after : γ → Bool) (x : γ) (l : List γ)
def outW (k : Nat) : List γ := if (l.take k).any after then insW after x (l.take k) else l.take k
theorem insW_any {m : List γ} (h : m.any after = true) (r : List γ) : insW after x (m ++ r) = insW after x m ++ r := by
  induction m with
  | nil => simp at h
  | cons y m ih =>
    unfold insW
    by_cases hy : after y = true
    · simp [List.takeWhile_cons, List.dropWhile_cons, hy]
    · have hy' : after y = false := by simpa using hy
      have h' : m.any after = true := by simpa [hy'] using h
      have := ih h'
      unfold insW at this
      simp only [List.cons_append, List.takeWhile_cons, List.dropWhile_cons, hy', Bool.not_false, if_true]
      rw [this]
theorem outW_succ {k : Nat} {y : γ} (h : l[k]? = some y) : outW after x l (k + 1) = (if (!(l.take k).any after && after y) = true then outW after x l k ++ [x] else outW after x l k) ++ [y] := by
  unfold outW
  rw [take_succ' h, List.any_append]
  cases h1 : (l.take k).any after with
  | true => simp [insW_any after x h1]
  | false =>
    cases h2 : after y with
    | true =>
      simp only [List.any_cons, List.any_nil, h2, Bool.or_false, Bool.or_true, if_true, Bool.not_false, Bool.and_self, Bool.false_eq_true, if_false]
      have hn : ∀ z ∈ l.take k, after z = false := by simpa using h1
      have e1 : (l.take k ++ [y]).takeWhile (fun y => !after y) = l.take k := by
        rw [List.takeWhile_append_of_pos (fun z hz => by simp [hn z hz])]; simp [h2]
      have e2 : (l.take k ++ [y]).dropWhile (fun y => !after y) = [y] := by
        rw [List.dropWhile_append_of_pos (fun z hz => by simp [hn z hz])]; simp [h2]
      rw [insW, e1, e2]; simp
    | false => simp [h2]
theorem any_succ {k : Nat} {y : γ} (h : l[k]? = some y) : (l.take (k + 1)).any after = ((l.take k).any after || after y) := by
  rw [take_succ' h, List.any_append]; simp
theorem outW_end : (if l.any after then outW after x l l.length else outW after x l l.length ++ [x]) = insW after x l := by
  unfold outW
  rw [List.take_length]
  cases h : l.any after with
  | true => simp
  | false => simp only [Bool.false_eq_true, if_false]; rw [insW_last after x l (by simpa using h)]
theorem outW_len (k : Nat) : (outW after x l k).length ≤ l.length + 1 := by
  unfold outW insW
  split
  · have := congrArg List.length (List.takeWhile_append_dropWhile (p := fun y => !after y) (l := l.take k))
    simp only [List.length_append, List.length_cons, List.length_take] at *
    omega
  · simp only [List.length_take]; omega
end
end Go.Gr
namespace Go.Gr
/-- the other edits of the reference -/
def keepV (d : DT) (x : VT) : Option VT := if (x.1 == d.2.1 && d.1 == 1) = true then none else some (x.1, (if (x.1 == d.2.1 && d.1 == 4) = true then d.2.2.2.1 else x.2.1), (if (x.1 == d.2.1 && d.1 == 5) = true then d.2.2.2.2 else x.2.2))
def keepE (d : DT) (at' : Int) (i : Nat) (x : ET) : Option ET :=
  if ((d.1 == 1 && (x.1.1 == d.2.1 || x.1.2 == d.2.1)) || (d.1 == 3 && (i : Int) == at')) = true then none else some (x.1, (if ((i : Int) == at' && d.1 == 6) = true then d.2.2.2.1 else x.2.1), (if ((i : Int) == at' && d.1 == 7) = true then d.2.2.2.2 else x.2.2))
def edgesK (d : DT) (at' : Int) : Nat → List ET → List ET
  | _, [] => []
  | i, x :: r => (keepE d at' i x).toList ++ edgesK d at' (i + 1) r
theorem edgesK_append (d : DT) (at' : Int) : ∀ (i : Nat) (l m : List ET), edgesK d at' i (l ++ m) = edgesK d at' i l ++ edgesK d at' (i + l.length) m
  | i, [], m => by simp [edgesK]
  | i, x :: r, m => by rw [List.cons_append, edgesK, edgesK_append d at' (i + 1) r m, edgesK, List.append_assoc, List.length_cons]; congr 3; omega
theorem edgesK_succ (d : DT) (at' : Int) {l : List ET} {k : Nat} {x : ET} (h : l[k]? = some x) : edgesK d at' 0 (l.take (k + 1)) = edgesK d at' 0 (l.take k) ++ (keepE d at' k x).toList := by
  rw [take_succ' h, edgesK_append]
  have : 0 + (l.take k).length = k := by have := (List.getElem?_eq_some_iff.1 h).1; simp; omega
  rw [this, edgesK, edgesK, List.append_nil]
theorem edgesK_len (d : DT) (at' : Int) : ∀ (i : Nat) (l : List ET), (edgesK d at' i l).length ≤ l.length
  | _, [] => Nat.le_refl _
  | i, x :: r => by
    have := edgesK_len d at' (i + 1) r
    have h2 : (keepE d at' i x).toList.length ≤ 1 := by cases keepE d at' i x <;> simp
    rw [edgesK, List.length_append, List.length_cons]; omega
theorem keepV_succ (d : DT) {l : List VT} {k : Nat} {x : VT} (h : l[k]? = some x) : (l.take (k + 1)).filterMap (keepV d) = (l.take k).filterMap (keepV d) ++ (keepV d x).toList := by
  rw [take_succ' h, List.filterMap_append]; cases h : keepV d x <;> simp [h]
end Go.Gr
namespace Go.Gr
theorem perm_sorted {γ : Type} {lt : γ → γ → Bool} : ∀ {xs l : List γ}, xs.Perm l → l.Pairwise (fun x y => lt x y = true) → xs.Pairwise (fun x y => lt y x = false) → xs = l
  | [], l, hp, _, _ => hp.symm.eq_nil.symm ▸ rfl
  | x :: r, [], hp, _, _ => absurd hp.eq_nil (by simp)
  | x :: r, y :: s, hp, hl, hx => by
    obtain ⟨l1, l2⟩ := List.pairwise_cons.1 hl
    obtain ⟨x1, x2⟩ := List.pairwise_cons.1 hx
    have hxy : x = y := by
      have hy : y ∈ x :: r := hp.mem_iff.2 (by simp)
      have hx' : x ∈ y :: s := hp.mem_iff.1 (by simp)
      rcases List.mem_cons.1 hy with h | h
      · exact h.symm
      · rcases List.mem_cons.1 hx' with h' | h'
        · exact h'
        · have h2 := l1 x h'
          have h3 := x1 y h
          rw [h2] at h3; cases h3
    subst hxy
    rw [perm_sorted ((List.perm_cons x).1 hp) l2 x2]
end Go.Gr
