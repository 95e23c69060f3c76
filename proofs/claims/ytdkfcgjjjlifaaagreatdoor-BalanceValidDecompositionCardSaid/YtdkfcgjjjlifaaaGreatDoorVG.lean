/-
  Walks and plain facts, in this order: Grk, Mad, GrOk, GrBd, Frm.
  No condition.
-/
import Derived.Test.YtdkfcgjjjlifaaaGreatDoorVF
import Derived.Test.YtdkfcgjjjlifaaaGreatDoorVE
set_option linter.unusedVariables false
set_option linter.unusedSimpArgs false
namespace Go.Mono
open Go Go.Proofs Go.RowKit Go.Gr
def stepB : Option GT → DT → Option GT
  | none, _ => none
  | some g, d => if wrongM g d = 0 then some (doP g d) else none
def bldM (V : List VT) (E : List ET) : Option GT := (E.map dE).foldl stepB ((V.map dV).foldl stepB (some ([], [])))
theorem foldl_none (l : List DT) : l.foldl stepB none = none := by induction l with
  | nil => rfl
  | cons d r ih => exact ih
theorem fold_take {l : List DT} {k : Nat} {d : DT} (s : Option GT) (h : l[k]? = some d) : (l.take (k + 1)).foldl stepB s = stepB ((l.take k).foldl stepB s) d := by
  rw [take_succ' h, List.foldl_append]; rfl
theorem fold_stop {l : List DT} {k : Nat} {d : DT} (s : Option GT) (h : l[k]? = some d) (hn : stepB ((l.take k).foldl stepB s) d = none) : l.foldl stepB s = none := by
  rw [← List.take_append_drop (k + 1) l, List.foldl_append, fold_take s h, hn, foldl_none]
def okD (d : DT) : Prop := (Lit.int .i64 d.2.1).wf = true ∧ (Lit.int .i64 d.2.2.1).wf = true ∧ okT d.2.2.2
theorem bD4 (x : DT) : Tryz.prog.built 26 [(0, .int .i64 x.1), (1, .int .i64 x.2.1), (3, .int .u8 x.2.2.2.1), (4, .int .i64 x.2.2.2.2)] = some #[.int .i64 x.1, .int .i64 x.2.1, .int .i64 0, .int .u8 x.2.2.2.1, .int .i64 x.2.2.2.2] := by kernel_rfl
theorem bD5 (x : DT) : Tryz.prog.built 26 [(0, .int .i64 x.1), (1, .int .i64 x.2.1), (2, .int .i64 x.2.2.1), (3, .int .u8 x.2.2.2.1), (4, .int .i64 x.2.2.2.2)] = some #[.int .i64 x.1, .int .i64 x.2.1, .int .i64 x.2.2.1, .int .u8 x.2.2.2.1, .int .i64 x.2.2.2.2] := by kernel_rfl
/-- what Build hands back -/
def BldQ (V : List VT) (E : List ET) (W : World) (en : Ending) (w' : World) : Prop :=
  Ext W w' ∧ ((∃ g bg bv be, bldM V E = some g ∧ en = .returned (.tuple #[.pointer (some ⟨bg, 0, none⟩), I 0]) ∧ W.heap.size ≤ bg ∧ W.heap.size ≤ bv ∧ W.heap.size ≤ be ∧ GrR w' bg bv be (V.length + E.length) g) ∨
    (∃ c : Int, c ≠ 0 ∧ bldM V E = none ∧ en = .returned (.tuple #[.pointer none, I c])))
theorem build_spec {G : Nat → Prop} (V : List VT) (E' : List ET) (v u : Value) (W : World) (h1 : (Dv (slE vtE) G V).p v W) (h2 : (Dv (slE etE) G E').p u W) (hl1 : V.length ≤ 100000) (hl2 : E'.length ≤ 100000) (hV : ∀ x ∈ V, okD (dV x)) (hE : ∀ x ∈ E', okD (dE x)) :
    Calls Tryz.prog 38 #[v, u] W (BldQ V E' W) := by
  refine enter (args := [v, u]) (As := [E v, E u]) Tryz.func38 rfl Tryz.ntmps38 (Nat.le_of_ble_eq_true rfl) ?_ (fun a hf => ?_) (Nat.le_of_ble_eq_true rfl)
  rotate_left
  dsimp only [params, Nat.reduceAdd] at hf
  rotate_right
  · exact arg2 rfl rfl
  have e := Ext.rfl' W
  repeat refine seq ?_
  refine regn0 ?_
  refine tl_as hf rfl (by decide) fun a hf => ?_
  refine tl_as hf rfl (by decide) fun a hf => ?_
  refine tl_nil ?_
  repeat refine seq ?_
  refine regn0 ?_
  refine tl_callE (S := fun b => False) (F := fun z w' => ∃ bg bv be, z = .pointer (some ⟨bg, 0, none⟩) ∧ W.heap.size ≤ bg ∧ W.heap.size ≤ bv ∧ W.heap.size ≤ be ∧ GrR w' bg bv be 0 ([], [])) hf (by decide) En98 (by simp only [List.map_toArray, List.map_nil]; exact (gnewG_spec _).mono fun en w' ⟨bg, bv, be, k1, k2, k3, k4, k5, k6⟩ => ⟨_, k1, k2.chg _, bg, bv, be, rfl, Nat.le_trans e.size k3, Nat.le_trans e.size k4, Nat.le_trans e.size k5, k6⟩) fun a z w hc hF hf => ?_
  obtain ⟨bg, bv, be, rfl, hbg, hbv, hbe, hg⟩ := hF
  replace e := e.ch hc (fun b hb => hb.elim)
  clear hc
  refine tl_as hf rfl (by decide) fun a hf => ?_
  refine tl_nil ?_
  repeat refine seq ?_
  refine regn 3 hf (by decide +kernel) ?_
  refine st (mv rfl) ?_
  refine st (lenD Tryz.underlying79 (isE rfl (VA.st _ _ _ _ e h1))) ?_
  refine st (mv rfl) ?_
  refine en fun a w e' hf => ?_
  replace e := Ext.tr e e'
  replace hg := hg.ext e'
  clear e'
  refine tl_nil ?_
  replace hf := hf.keep [1, 4, 5, 6, 14, 15, 16]
  dsimp only [keep, List.filterMap, look, Nat.beq, Option.map] at hf
  repeat refine seq ?_
  refine blk (loopN (fun r0 a w => ∃ (k : Nat) (g : GT), r0 = V.length - k ∧ k ≤ V.length ∧ Fr 55 a w [(1, E u), (4, E (.pointer none)), (5, E (I 0)), (6, E (.pointer (some ⟨bg, 0, none⟩))), (14, E v), (15, E (I (V.length : Nat))), (16, E (I k))] ∧ Ext W w ∧ GrR w bg bv be k g ∧ ((V.map dV).take k).foldl stepB (some ([], [])) = some g) V.length ⟨0, ([],  []), rfl, by omega, hf, e, ⟨hg, rfl⟩⟩ ?_)
  clear hf e; try clear hg; try clear hfd
  rintro r0 a w ⟨k, g, rfl, hk, hf, e, hg, hfd⟩
  repeat refine seq ?_
  refine regn 1 hf (by decide +kernel) ?_
  refine st (lss rfl rfl) ?_
  refine en fun a w e' hf => ?_
  replace e := Ext.tr e e'
  replace hg := hg.ext e'
  clear e'
  refine tl_nil ?_
  repeat refine seq ?_
  refine ifc hf rfl (fun hc => wskip ?_) (fun hc => wexit ?_)
  rotate_left
  rotate_left
  · have hlt : k < V.length := by have := of_decide_eq_true hc; (try dsimp only at this); omega
    clear hc
    replace hf := hf.keep [1, 4, 5, 6, 14, 15, 16]
    dsimp only [keep, List.filterMap, look, Nat.beq, Option.map] at hf
    repeat refine seq ?_
    refine blk ?_
    have hx := List.getElem?_eq_getElem hlt
    generalize V[k] = x at hx
    have hxd : (V.map dV)[k]? = some (dV x) := by rw [List.getElem?_map, hx]; rfl
    have hok := hV x (List.mem_of_getElem? hx)
    have hk : k < maxLen := by simp only [maxLen]; omega
    replace hf := hf.keep [1, 4, 5, 6, 14, 15, 16]
    dsimp only [keep, List.filterMap, look, Nat.beq, Option.map] at hf
    repeat refine seq ?_
    refine regn0 ?_
    refine tl_op hf (by decide) (idxD Tryz.underlying79 S82 (isE rfl (VA.st _ _ _ _ e h1)) rfl (by omega) (hx)) fun a w e' hf => ?_
    replace e := Ext.tr e e'
    replace hg := hg.ext e'
    clear e'
    refine tl_op hf (by decide) (ldVt T82 (isR rfl)) fun a w e' hf => ?_
    replace e := Ext.tr e e'
    replace hg := hg.ext e'
    clear e'
    refine tl_alloc I82 hf (by decide) fun a b8 w e' hb8 hs8 B8 hf => ?_
    have hle8 := Nat.le_trans e.size (Nat.le_of_eq hb8.symm)
    replace e := Ext.tr e e'
    replace hg := hg.ext e'
    clear e'
    replace hf := hf.keep [1, 4, 5, 6, 8, 14, 15, 16, 19]
    dsimp only [keep, List.filterMap, look, Nat.beq, Option.map] at hf
    have nb8 : bg ≠ b8 ∧ bv ≠ b8 ∧ be ≠ b8 := ⟨hg.blk.ne B8 (by decide), hg.vs.neB B8, hg.es.neB B8⟩
    refine tl_stW T82 hf rfl rfl (vtV_one x) B8 rfl rfl fun w hg' hsz B8 hf => ?_
    replace hg : GrR w bg bv be k g := ⟨hg.blk.gr hg' nb8.1, hg.vs.gr hg' (fun h => nb8.2.1 (by cases h; rfl)), hg.es.gr hg' (fun h => nb8.2.2 (by cases h; rfl)), hg.ne⟩
    replace e := e.gr hg' (by omega); clear hg'
    refine tl_nil ?_
    replace hf := hf.keep [1, 4, 5, 6, 8, 14, 15, 16]
    dsimp only [keep, List.filterMap, look, Nat.beq, Option.map] at hf
    repeat refine seq ?_
    refine regn 8 hf (by decide +kernel) ?_
    refine st (mv rfl) ?_
    refine st (fldA Tryz.underlying82 rfl T3 (by decide) rfl) ?_
    refine st (ld1 T3 rfl B8 rfl) ?_
    refine st (fldA Tryz.underlying82 rfl T5 (by decide) rfl) ?_
    refine st (ld1 T5 rfl B8 rfl) ?_
    refine st (fldA Tryz.underlying82 rfl T3 (by decide) rfl) ?_
    refine st (ld1 T3 rfl B8 rfl) ?_
    refine st (bldD4 (dV x) rfl (bD4 (dV x)) rfl rfl rfl rfl) ?_
    refine en fun a w e' hf => ?_
    replace e := Ext.tr e e'
    replace hg := hg.ext e'
    replace B8 := B8.ext e'
    clear e'
    replace hf := hf.keep [1, 4, 5, 6, 14, 15, 16, 20, 27]
    dsimp only [keep, List.filterMap, look, Nat.beq, Option.map] at hf
    refine tl_callE (S := fun b => b = bv ∨ b = be) (F := fun z w' => z = I (wrongM g (dV x)) ∧ GrR w' bg bv be (k + 1) (apP g (dV x))) hf (by decide) En43 ?_ fun a z w hc hF hf => ?_
    · have h9 := apply_spec g (dV x) bg bv be k _ hg hk (.inl rfl) hok.1 hok.2.1 hok.2.2
      have e20 : a.eval (.tmp 20) = .pointer (some ⟨bg, 0, none⟩) := hf.opd (.tmp 20) _ rfl
      have e27 : a.eval (.tmp 27) = dtV (dV x) := hf.opd (.tmp 27) _ rfl
      simp only [List.map_toArray, List.map_cons, List.map_nil, e20, e27]
      exact h9.mono fun en w' ⟨k1, k2, k3⟩ => ⟨_, k1, k2, rfl, k3⟩
    obtain ⟨rfl, hg⟩ := hF
    replace e := e.ch hc (fun b hb => by rcases hb with rfl | rfl <;> assumption)
    clear hc B8
    replace hf := hf.keep [1, 4, 5, 6, 14, 15, 16, 28]
    dsimp only [keep, List.filterMap, look, Nat.beq, Option.map] at hf
    refine tl_as hf rfl (by decide) fun a hf => ?_
    refine tl_nil ?_
    repeat refine seq ?_
    refine regn 2 hf (by decide +kernel) ?_
    refine st (mv rfl) ?_
    refine st (neq rfl rfl) ?_
    refine en fun a w e' hf => ?_
    replace e := Ext.tr e e'
    replace hg := hg.ext e'
    clear e'
    refine tl_nil ?_
    have hft := fold_take (some ([], [])) hxd
    rw [hfd] at hft
    repeat refine seq ?_
    refine ifc hf rfl (fun hb => ?_) (fun hb => ?_)
    · have hb' : ¬ wrongM g (dV x) = 0 := by simpa using hb
      have hst : stepB (((V.map dV).take k).foldl stepB (some ([], []))) (dV x) = none := by rw [hfd, stepB, if_neg hb']
      repeat refine seq ?_
      refine regn 1 hf (by decide +kernel) ?_
      refine st (mv rfl) ?_
      refine en fun a w e' hf => ?_
      replace e := Ext.tr e e'
      replace hg := hg.ext e'
      clear e'
      refine tl_as hf rfl (by decide) fun a hf => ?_
      refine tl_as hf rfl (by decide) fun a hf => ?_
      refine tl_nil ?_
      refine wret ?_
      try simp only [Exit.then, Exit.inBlock]
      refine ret2 rfl hf rfl rfl ?_
      rintro _ _ rfl rfl
      exact ⟨e, .inr ⟨_, hb', by rw [bldM, fold_stop _ hxd hst, foldl_none], rfl⟩⟩
    · have hb' : wrongM g (dV x) = 0 := by simpa using hb
      refine wskip ?_
      try simp only [Exit.then, Exit.inBlock, ↓reduceIte]
      rw [stepB, if_pos hb'] at hft
      rw [apP, if_pos hb'] at hg
      try simp only [Exit.then, Exit.inBlock, ↓reduceIte]
      repeat refine seq ?_
      refine regn 1 hf (by decide +kernel) ?_
      refine st ((add rfl rfl (by omega)).eq (congrArg (Value.int .i64) (show (k : Int) + 1 = ((k + 1 : Nat) : Int) from rfl))) ?_
      refine en fun a w e' hf => ?_
      replace e := Ext.tr e e'
      replace hg := hg.ext e'
      clear e'
      refine tl_op hf (by decide) (mv rfl) fun a w e' hf => ?_
      replace e := Ext.tr e e'
      replace hg := hg.ext e'
      clear e'
      refine tl_nil ?_
      replace hf := hf.keep [1, 4, 5, 6, 14, 15, 16]
      dsimp only [keep, List.filterMap, look, Nat.beq, Option.map] at hf
      refine ⟨_, ?_, k + 1, doP g (dV x), rfl, by omega, hf, e, ?_⟩
      · omega
      exact ⟨hg, hft⟩
  · obtain rfl : k = V.length := by have := of_decide_eq_false hc; (try dsimp only at this); omega
    clear hc
    simp only [Exit.then, Exit.inBlock, ↓reduceIte]
    rw [List.take_of_length_le (by simp)] at hfd
    repeat refine seq ?_
    refine regn 3 hf (by decide +kernel) ?_
    refine st (mv rfl) ?_
    refine st (lenD Tryz.underlying80 (isE rfl (VA.st _ _ _ _ e h2))) ?_
    refine st (mv rfl) ?_
    refine en fun a w e' hf => ?_
    replace e := Ext.tr e e'
    replace hg := hg.ext e'
    clear e'
    refine tl_nil ?_
    replace hf := hf.keep [4, 5, 6, 33, 34, 35]
    dsimp only [keep, List.filterMap, look, Nat.beq, Option.map] at hf
    repeat refine seq ?_
    refine blk (loopN (fun r0 a w => ∃ (k : Nat) (g : GT), r0 = E'.length - k ∧ k ≤ E'.length ∧ Fr 55 a w [(4, E (.pointer none)), (5, E (I 0)), (6, E (.pointer (some ⟨bg, 0, none⟩))), (33, E u), (34, E (I (E'.length : Nat))), (35, E (I k))] ∧ Ext W w ∧ GrR w bg bv be (V.length + k) g ∧ ((E'.map dE).take k).foldl stepB ((V.map dV).foldl stepB (some ([], []))) = some g) E'.length ⟨0, g, rfl, by omega, hf, e, ⟨hg, hfd⟩⟩ ?_)
    clear hf e; try clear hg; try clear hfd
    rintro r0 a w ⟨k, g, rfl, hk, hf, e, hg, hfd⟩
    repeat refine seq ?_
    refine regn 1 hf (by decide +kernel) ?_
    refine st (lss rfl rfl) ?_
    refine en fun a w e' hf => ?_
    replace e := Ext.tr e e'
    replace hg := hg.ext e'
    clear e'
    refine tl_nil ?_
    repeat refine seq ?_
    refine ifc hf rfl (fun hc => wskip ?_) (fun hc => wexit ?_)
    rotate_left
    rotate_left
    · have hlt : k < E'.length := by have := of_decide_eq_true hc; (try dsimp only at this); omega
      clear hc
      replace hf := hf.keep [4, 5, 6, 33, 34, 35]
      dsimp only [keep, List.filterMap, look, Nat.beq, Option.map] at hf
      repeat refine seq ?_
      refine blk ?_
      have hx := List.getElem?_eq_getElem hlt
      generalize E'[k] = x at hx
      have hxd : (E'.map dE)[k]? = some (dE x) := by rw [List.getElem?_map, hx]; rfl
      have hok := hE x (List.mem_of_getElem? hx)
      have hk' : V.length + k < maxLen := by simp only [maxLen]; omega
      replace hf := hf.keep [4, 5, 6, 33, 34, 35]
      dsimp only [keep, List.filterMap, look, Nat.beq, Option.map] at hf
      repeat refine seq ?_
      refine regn0 ?_
      refine tl_op hf (by decide) (idxD Tryz.underlying80 S85 (isE rfl (VA.st _ _ _ _ e h2)) rfl (by omega) (hx)) fun a w e' hf => ?_
      replace e := Ext.tr e e'
      replace hg := hg.ext e'
      clear e'
      refine tl_op hf (by decide) (ldEt T85 (isR rfl)) fun a w e' hf => ?_
      replace e := Ext.tr e e'
      replace hg := hg.ext e'
      clear e'
      refine tl_alloc I85 hf (by decide) fun a b11 w e' hb11 hs11 B11 hf => ?_
      have hle11 := Nat.le_trans e.size (Nat.le_of_eq hb11.symm)
      replace e := Ext.tr e e'
      replace hg := hg.ext e'
      clear e'
      replace hf := hf.keep [4, 5, 6, 11, 33, 34, 35, 38]
      dsimp only [keep, List.filterMap, look, Nat.beq, Option.map] at hf
      have nb8 : bg ≠ b11 ∧ bv ≠ b11 ∧ be ≠ b11 := ⟨hg.blk.ne B11 (by decide), hg.vs.neB B11, hg.es.neB B11⟩
      refine tl_stW T85 hf rfl rfl (etV_one x) B11 rfl rfl fun w hg' hsz B11 hf => ?_
      replace hg : GrR w bg bv be (V.length + k) g := ⟨hg.blk.gr hg' nb8.1, hg.vs.gr hg' (fun h => nb8.2.1 (by cases h; rfl)), hg.es.gr hg' (fun h => nb8.2.2 (by cases h; rfl)), hg.ne⟩
      replace e := e.gr hg' (by omega); clear hg'
      refine tl_nil ?_
      replace hf := hf.keep [4, 5, 6, 11, 33, 34, 35]
      dsimp only [keep, List.filterMap, look, Nat.beq, Option.map] at hf
      repeat refine seq ?_
      refine regn 10 hf (by decide +kernel) ?_
      refine st (mv rfl) ?_
      refine st (fldA Tryz.underlying85 rfl T3 (by decide) rfl) ?_
      refine st (ld1 T3 rfl B11 rfl) ?_
      refine st (fldA Tryz.underlying85 rfl T3 (by decide) rfl) ?_
      refine st (ld1 T3 rfl B11 rfl) ?_
      refine st (fldA Tryz.underlying85 rfl T5 (by decide) rfl) ?_
      refine st (ld1 T5 rfl B11 rfl) ?_
      refine st (fldA Tryz.underlying85 rfl T3 (by decide) rfl) ?_
      refine st (ld1 T3 rfl B11 rfl) ?_
      refine st (bldD5 (dE x) (bD5 (dE x)) rfl rfl rfl rfl rfl) ?_
      refine en fun a w e' hf => ?_
      replace e := Ext.tr e e'
      replace hg := hg.ext e'
      replace B11 := B11.ext e'
      clear e'
      replace hf := hf.keep [4, 5, 6, 33, 34, 35, 39, 48]
      dsimp only [keep, List.filterMap, look, Nat.beq, Option.map] at hf
      refine tl_callE (S := fun b => b = bv ∨ b = be) (F := fun z w' => z = I (wrongM g (dE x)) ∧ GrR w' bg bv be (V.length + k + 1) (apP g (dE x))) hf (by decide) En43 ?_ fun a z w hc hF hf => ?_
      · have h9 := apply_spec g (dE x) bg bv be (V.length + k) _ hg hk' (.inr (.inl rfl)) hok.1 hok.2.1 hok.2.2
        have e20 : a.eval (.tmp 39) = .pointer (some ⟨bg, 0, none⟩) := hf.opd (.tmp 39) _ rfl
        have e27 : a.eval (.tmp 48) = dtV (dE x) := hf.opd (.tmp 48) _ rfl
        simp only [List.map_toArray, List.map_cons, List.map_nil, e20, e27]
        exact h9.mono fun en w' ⟨k1, k2, k3⟩ => ⟨_, k1, k2, rfl, k3⟩
      obtain ⟨rfl, hg⟩ := hF
      replace e := e.ch hc (fun b hb => by rcases hb with rfl | rfl <;> assumption)
      clear hc B11
      replace hf := hf.keep [4, 5, 6, 33, 34, 35, 49]
      dsimp only [keep, List.filterMap, look, Nat.beq, Option.map] at hf
      refine tl_as hf rfl (by decide) fun a hf => ?_
      refine tl_nil ?_
      repeat refine seq ?_
      refine regn 2 hf (by decide +kernel) ?_
      refine st (mv rfl) ?_
      refine st (neq rfl rfl) ?_
      refine en fun a w e' hf => ?_
      replace e := Ext.tr e e'
      replace hg := hg.ext e'
      clear e'
      refine tl_nil ?_
      have hft := fold_take ((V.map dV).foldl stepB (some ([], []))) hxd
      rw [hfd] at hft
      repeat refine seq ?_
      refine ifc hf rfl (fun hb => ?_) (fun hb => ?_)
      · have hb' : ¬ wrongM g (dE x) = 0 := by simpa using hb
        have hst : stepB (((E'.map dE).take k).foldl stepB ((V.map dV).foldl stepB (some ([], [])))) (dE x) = none := by rw [hfd, stepB, if_neg hb']
        repeat refine seq ?_
        refine regn 1 hf (by decide +kernel) ?_
        refine st (mv rfl) ?_
        refine en fun a w e' hf => ?_
        replace e := Ext.tr e e'
        replace hg := hg.ext e'
        clear e'
        refine tl_as hf rfl (by decide) fun a hf => ?_
        refine tl_as hf rfl (by decide) fun a hf => ?_
        refine tl_nil ?_
        refine wret ?_
        try simp only [Exit.then, Exit.inBlock]
        refine ret2 rfl hf rfl rfl ?_
        rintro _ _ rfl rfl
        exact ⟨e, .inr ⟨_, hb', by rw [bldM, fold_stop _ hxd hst], rfl⟩⟩
      · have hb' : wrongM g (dE x) = 0 := by simpa using hb
        refine wskip ?_
        try simp only [Exit.then, Exit.inBlock, ↓reduceIte]
        rw [stepB, if_pos hb'] at hft
        rw [apP, if_pos hb'] at hg
        try simp only [Exit.then, Exit.inBlock, ↓reduceIte]
        repeat refine seq ?_
        refine regn 1 hf (by decide +kernel) ?_
        refine st ((add rfl rfl (by omega)).eq (congrArg (Value.int .i64) (show (k : Int) + 1 = ((k + 1 : Nat) : Int) from rfl))) ?_
        refine en fun a w e' hf => ?_
        replace e := Ext.tr e e'
        replace hg := hg.ext e'
        clear e'
        refine tl_op hf (by decide) (mv rfl) fun a w e' hf => ?_
        replace e := Ext.tr e e'
        replace hg := hg.ext e'
        clear e'
        refine tl_nil ?_
        replace hf := hf.keep [4, 5, 6, 33, 34, 35]
        dsimp only [keep, List.filterMap, look, Nat.beq, Option.map] at hf
        refine ⟨_, ?_, k + 1, doP g (dE x), rfl, by omega, hf, e, ?_⟩
        · omega
        exact ⟨hg, hft⟩
    · obtain rfl : k = E'.length := by have := of_decide_eq_false hc; (try dsimp only at this); omega
      clear hc
      simp only [Exit.then, Exit.inBlock, ↓reduceIte]
      rw [List.take_of_length_le (by simp)] at hfd
      repeat refine seq ?_
      refine regn 1 hf (by decide +kernel) ?_
      refine st (mv rfl) ?_
      refine en fun a w e' hf => ?_
      replace e := Ext.tr e e'
      replace hg := hg.ext e'
      clear e'
      refine tl_as hf rfl (by decide) fun a hf => ?_
      refine tl_as hf rfl (by decide) fun a hf => ?_
      refine tl_nil ?_
      refine wret ?_
      try simp only [Exit.then, Exit.inBlock]
      refine ret2 rfl hf rfl rfl ?_
      rintro _ _ rfl rfl
      exact ⟨e, .inl ⟨g, bg, bv, be, hfd, rfl, hbg, hbv, hbe, hg⟩⟩
end Go.Mono

namespace Go.Mono
open Go Go.Proofs Go.RowKit Go.Gr
def madeTo (l : List DT) (k : Nat) : GT := (l.take k).foldl (fun g d => (doR g d).1) ([], [])
def madeR (l : List DT) : GT := madeTo l 60
theorem insW_len {γ : Type} (p : γ → Bool) (x : γ) (l : List γ) : (insW p x l).length = l.length + 1 := by
  have := congrArg List.length (List.takeWhile_append_dropWhile (p := fun y => !p y) (l := l))
  unfold insW
  simp only [List.length_append, List.length_cons] at *
  omega
theorem doR_len (g : GT) (d : DT) : (doR g d).1.1.length ≤ g.1.length + 1 ∧ (doR g d).1.2.length ≤ g.2.length + 1 := by
  unfold doR
  split
  · simp
  · split
    · simp [insV, insW_len]
    · split
      · simp [insE, insW_len]
      · have h1 := List.length_filterMap_le (keepV d) g.1
        have h2 := edgesK_len d (atE g d) 0 g.2
        simp only [genR]
        omega
theorem madeTo_succ {l : List DT} {k : Nat} {d : DT} (h : l[k]? = some d) : madeTo l (k + 1) = (doR (madeTo l k) d).1 := by
  rw [madeTo, take_succ' h, List.foldl_append]; rfl
theorem madeTo_len (l : List DT) : ∀ k, (madeTo l k).1.length ≤ k ∧ (madeTo l k).2.length ≤ k
  | 0 => by simp [madeTo]
  | k + 1 => by
    have ih := madeTo_len l k
    cases h : l[k]? with
    | none =>
      have : l.take (k + 1) = l.take k := by rw [List.take_of_length_le (by have := List.getElem?_eq_none_iff.1 h; omega), List.take_of_length_le (List.getElem?_eq_none_iff.1 h)]
      rw [madeTo, this]
      exact ⟨by have := ih.1; rw [madeTo] at this; omega, by have := ih.2; rw [madeTo] at this; omega⟩
    | some d =>
      rw [madeTo_succ h]
      have := doR_len (madeTo l k) d
      omega
theorem Dv.gtOne {G : Nat → Prop} {g : GT} {v : Value} {w : World} (h : (Dv gtE G g).p v w) : ∃ cs, v = .agg cs ∧ cs.size = 2 ∧ cs.all (·.oneCell') = true := by
  obtain ⟨u1, u2, rfl, h1, h2⟩ := Dv.gt.1 h
  exact ⟨_, rfl, rfl, one2 (slOne h1) (slOne h2)⟩
theorem made_spec {G : Nat → Prop} (l : List DT) (v : Value) (W : World) (h : (Dv (slE dtE) G l).p v W) (hG : ∀ b, G b → b < W.heap.size) :
    Calls Tryz.prog 8 #[v] W (Post (Dv gtE G (madeR l)) W) := by
  have hbb := Dv.toB h
  obtain ⟨N, hN⟩ : ∃ N, N = min l.length 60 := ⟨_, rfl⟩
  refine enter (args := [v]) (As := [E v]) Tryz.func8 rfl Tryz.ntmps8 (Nat.le_of_ble_eq_true rfl) ?_ (fun a hf => ?_) (Nat.le_of_ble_eq_true rfl)
  rotate_left
  dsimp only [params, Nat.reduceAdd] at hf
  rotate_right
  · exact arg1 rfl
  have e := Ext.rfl' W
  repeat refine seq ?_
  refine regn0 ?_
  refine tl_alloc I36 hf (by decide) fun a b2 w e' hb2 hs2 B2 hf => ?_
  have hle2 := Nat.le_trans e.size (Nat.le_of_eq hb2.symm)
  replace e := Ext.tr e e'
  clear e'
  refine tl_nil ?_
  repeat refine seq ?_
  refine regn 1 hf (by decide +kernel) ?_
  refine st (bldV [] rfl bG_0) ?_
  refine en fun a w e' hf => ?_
  replace e := Ext.tr e e'
  replace B2 := B2.ext e'
  clear e'
  refine tl_alloc I36 hf (by decide) fun a b3 w e' hb3 hs3 B3 hf => ?_
  have hle3 := Nat.le_trans e.size (Nat.le_of_eq hb3.symm)
  have lt3_B2 := B2.lt
  replace e := Ext.tr e e'
  replace B2 := B2.ext e'
  clear e'
  haveI hinr : ∀ G0, InR (GB W G0) (some b3) := fun G0 => InR.gb (by omega)
  refine tl_stW T36 hf rfl rfl (one2 rfl rfl) B3 rfl (rfl) fun w hg hsz B3 hf => ?_
  replace e := e.gr hg (by omega)
  replace B2 := B2.gr hg (by omega)
  clear hg
  refine tl_nil ?_
  obtain ⟨G', hG'⟩ : ∃ G' : Nat → Prop, G' = fun b => G b ∨ b = b2 ∨ b = b3 := ⟨_, rfl⟩
  haveI i3 : InR G' (some b3) := ⟨fun b hb => by rw [hG']; cases hb; exact .inr (.inr rfl)⟩
  have hGb : ∀ w : World, Ext W w → b2 < w.heap.size → b3 < w.heap.size → ∀ b, G' b → b < w.heap.size := fun w e h2 h3 b hb => by
    rw [hG'] at hb
    rcases hb with hb | rfl | rfl
    · exact Nat.lt_of_lt_of_le (hG b hb) e.size
    · exact h2
    · exact h3
  repeat refine seq ?_
  refine regn0 ?_
  refine tl_as hf rfl (by decide) fun a hf => ?_
  refine tl_nil ?_
  replace hf := hf.keep [0, 2, 3, 4]
  dsimp only [keep, List.filterMap, look, Nat.beq, Option.map] at hf
  repeat refine seq ?_
  refine blk (loopN (fun r0 a w => ∃ (k : Nat) (cs : Array Value), r0 = N - k ∧ k ≤ N ∧ Fr 26 a w [(0, E v), (2, E (.pointer (some ⟨b2, 0, none⟩))), (3, E (.pointer (some ⟨b3, 0, none⟩))), (4, E (I k))] ∧ Ext W w ∧ Blk w b2 #[.slice none 0 0, .slice none 0 0] 36 ∧ Blk w b3 cs 36 ∧ (Dv gtE G' (madeTo l k)).p (.agg cs) w) N ⟨0, #[.slice none 0 0,  .slice none 0 0], rfl, by omega, hf, e, ⟨B2, B3, Dv.gt.2 ⟨_, _, rfl, Dv.nil, Dv.nil⟩⟩⟩ ?_)
  clear hf e; try clear B2; try clear B3; try clear HD
  rintro r0 a w ⟨k, cs, rfl, hk, hf, e, B2, B3, HD⟩
  repeat refine seq ?_
  refine regn 8 hf (by decide +kernel) ?_
  refine st (mv rfl) ?_
  refine st (mv rfl) ?_
  refine st (lenD Tryz.underlying24 (isE rfl (VA.st _ _ _ _ e h))) ?_
  refine st (lss rfl rfl) ?_
  refine st (mv rfl) ?_
  refine sgE rfl rfl (.k 4 rfl .n) (fun hgd => mv rfl) ?_
  refine sgE rfl rfl (.c 11 rfl (fun h => h) .n) (fun hgd => lss rfl rfl) ?_
  refine st ((pkAnd rfl rfl (fun h => by rw [h]; rfl)).eq (congrArg Value.bool (show (decide ((k : Int) < (l.length : Nat)) && decide ((k : Int) < 60)) = decide ((k : Int) < ((N : Nat) : Int)) from by rw [hN, ← Bool.decide_and]; congr 1; apply propext; omega))) ?_
  refine en fun a w e' hf => ?_
  replace HD := VA.st _ _ _ _ e' HD
  replace e := Ext.tr e e'
  replace B2 := B2.ext e'
  replace B3 := B3.ext e'
  clear e'
  refine tl_nil ?_
  repeat refine seq ?_
  refine ifc hf rfl (fun hc => wskip ?_) (fun hc => wexit ?_)
  rotate_left
  rotate_left
  · have hlt : k < N := by have := of_decide_eq_true hc; (try dsimp only at this); omega
    clear hc
    replace hf := hf.keep [0, 2, 3, 4]
    dsimp only [keep, List.filterMap, look, Nat.beq, Option.map] at hf
    repeat refine seq ?_
    refine blk ?_
    have hk : k < l.length ∧ k < 60 := by omega
    have hg := List.getElem?_eq_getElem hk.1
    generalize l[k]'hk.1 = d at hg
    have hs := madeTo_succ hg
    have hln := madeTo_len l k
    have hcs : cs.size = 2 := by obtain ⟨cs', h1', h2', _⟩ := Dv.gtOne HD; cases h1'; exact h2'
    have hv := VA.st _ _ _ _ e h
    have l2 := B2.lt; have l3 := B3.lt
    replace hf := hf.keep [0, 2, 3, 4]
    dsimp only [keep, List.filterMap, look, Nat.beq, Option.map] at hf
    repeat refine seq ?_
    refine regJ 10 [0, 0, 0, 0, 0, 0, 2, 0, 1] (Chg fun c => c = b3) (RelJ.one _) (fun w => ∃ cs, Blk w b3 cs 36 ∧ (Dv gtE G' (doR (madeTo l k) d).1).p (.agg cs) w) (fun w w1 k h => h.imp fun cs h => ⟨h.1.ext k, VA.st _ _ _ _ k h.2⟩) Mix.mix hf (by decide +kernel) (by decide +kernel) ?_
    refine ja (ldW T36 rfl B3 hcs) ?_
    refine ja (mv rfl) ?_
    refine ja (mv rfl) ?_
    refine ja (idxD Tryz.underlying24 S26 (isE rfl hv) rfl (by omega) hg) ?_
    refine ja (ldDt T26 (isR rfl)) ?_
    refine ja (call2 (A := Tup [Dv gtE G' (doR (madeTo l k) d).1, E (I (doR (madeTo l k) d).2)]) En37 rfl rfl (fun v u w he k1 k2 => by cases k1; cases k2; exact do_spec (G := G') (madeTo l k) d _ w (VA.st _ _ _ _ he HD) (hGb w (Ext.tr e he) (Nat.lt_of_lt_of_le l2 he.size) (Nat.lt_of_lt_of_le l3 he.size)) (by omega) (by omega))) ?_
    refine jk (mv rfl) ?_
    refine ja (ext_ rfl rfl) ?_
    refine jf (fun w1 h1 => ext_ rfl rfl) ?_
    refine jx (xstB T36 rfl B3 hcs rfl (fun v w hv => Dv.gtOne hv) (fun v w w' hc hv => Dv.ch hv hc fun b hb => by rw [hG', hb]; exact .inr (.inr rfl))) ?_
    refine je ?_
    refine fun a w hc HF hf => ?_
    try dsimp only [push] at hf
    obtain ⟨cs', B3, HD⟩ := HF
    replace e := e.ch hc (fun b hb => by rw [hb]; omega)
    replace B2 := B2.ch hc (by omega)
    clear hc hv
    refine tl_nil ?_
    replace hf := hf.keep [0, 2, 3, 4]
    dsimp only [keep, List.filterMap, look, Nat.beq, Option.map] at hf
    try simp only [Exit.then, Exit.inBlock, ↓reduceIte]
    repeat refine seq ?_
    refine regn 2 hf (by decide +kernel) ?_
    refine st (mv rfl) ?_
    refine st ((add rfl rfl (by omega)).eq (congrArg (Value.int .i64) (show (k : Int) + 1 = ((k + 1 : Nat) : Int) from rfl))) ?_
    refine en fun a w e' hf => ?_
    replace HD := VA.st _ _ _ _ e' HD
    replace e := Ext.tr e e'
    replace B2 := B2.ext e'
    replace B3 := B3.ext e'
    clear e'
    refine tl_as hf rfl (by decide) fun a hf => ?_
    refine tl_nil ?_
    replace hf := hf.keep [0, 2, 3, 4]
    dsimp only [keep, List.filterMap, look, Nat.beq, Option.map] at hf
    refine ⟨_, ?_, k + 1, cs', rfl, by omega, hf, e, ?_⟩
    · omega
    rw [hs]
    exact ⟨B2, B3, HD⟩
  · obtain rfl : k = N := by have := of_decide_eq_false hc; (try dsimp only at this); omega
    clear hc
    simp only [Exit.then, Exit.inBlock, ↓reduceIte]
    have hfin : madeTo l k = madeR l := by
      rw [madeR, madeTo, madeTo, hN]
      by_cases h60 : l.length ≤ 60
      · rw [Nat.min_eq_left h60, List.take_of_length_le (Nat.le_refl _), List.take_of_length_le h60]
      · rw [Nat.min_eq_right (by omega)]
    rw [hfin] at HD
    obtain ⟨cs', h1', hcs, h1one⟩ := Dv.gtOne HD
    cases h1'
    haveI i2 : InR G' (some b2) := ⟨fun b hb => by rw [hG']; cases hb; exact .inr (.inl rfl)⟩
    replace hf := hf.keep [2, 3]
    dsimp only [keep, List.filterMap, look, Nat.beq, Option.map] at hf
    repeat refine seq ?_
    refine regn 1 hf (by decide +kernel) ?_
    refine st (ldW T36 rfl B3 hcs) ?_
    refine en fun a w e' hf => ?_
    replace HD := VA.st _ _ _ _ e' HD
    replace e := Ext.tr e e'
    replace B2 := B2.ext e'
    replace B3 := B3.ext e'
    clear e'
    refine tl_stW T36 hf rfl rfl h1one B2 rfl hcs fun w hg hsz B2 hf => ?_
    replace e := e.gr hg (by omega); replace HD := AvR.av (row := some b2) _ _ _ hg HD; clear hg
    refine tl_nil ?_
    refine wret (retc rfl T36 hf rfl B2 hcs ?_)
    exact ⟨_, rfl, e, Dv.weak HD fun b _ hb => by rw [hG']; exact .inl hb⟩
end Go.Mono

namespace Go.Mono
open Go Go.Gr
theorem insW_perm {γ : Type} (p : γ → Bool) (x : γ) (l : List γ) : (insW p x l).Perm (x :: l) := by
  unfold insW
  have h := List.takeWhile_append_dropWhile (p := fun y => !p y) (l := l)
  conv => rhs; rw [← h]
  exact List.perm_middle
theorem insW_sorted {γ κ : Type} {lt : κ → κ → Bool} (key : γ → κ) (tr : ∀ {a b c}, lt a b = true → lt b c = true → lt a c = true) (tot : ∀ {a b}, lt a b = false → a ≠ b → lt b a = true) {x : γ} :
    ∀ {l : List γ}, l.Pairwise (fun a b => lt (key a) (key b) = true) → (∀ y ∈ l, key x ≠ key y) → (insW (fun y => lt (key x) (key y)) x l).Pairwise fun a b => lt (key a) (key b) = true
  | [], _, _ => by simp [insW]
  | y :: r, hl, hx => by
    obtain ⟨l1, l2⟩ := List.pairwise_cons.1 hl
    unfold insW
    by_cases hy : lt (key x) (key y) = true
    · simp only [List.takeWhile_cons, List.dropWhile_cons, hy, Bool.not_true, Bool.false_eq_true, if_false, List.nil_append]
      refine List.pairwise_cons.2 ⟨fun z hz => ?_, hl⟩
      rcases List.mem_cons.1 hz with rfl | hz
      · exact hy
      · exact tr hy (l1 z hz)
    · have hy' : lt (key x) (key y) = false := by simpa using hy
      have ih := insW_sorted (γ := γ) (κ := κ) (lt := lt) key (@tr) (@tot) (l := r) l2 fun z hz => hx z (by simp [hz])
      have hyx := tot hy' (hx y (by simp))
      simp only [List.takeWhile_cons, List.dropWhile_cons, hy', Bool.not_false, if_true, List.cons_append]
      refine List.pairwise_cons.2 ⟨fun z hz => ?_, ih⟩
      have := (insW_perm (fun y => lt (key x) (key y)) x r).mem_iff.1 hz
      rcases List.mem_cons.1 this with rfl | hz'
      · exact hyx
      · exact l1 z hz'
theorem fnd_neg {l : List VT} {n : Int} (h : fndF l n < 0) : ∀ y ∈ l, y.1 ≠ n := by
  unfold fndF at h
  split at h
  · omega
  · rename_i hn
    rw [List.findIdx?_eq_none_iff] at hn
    intro y hy
    simpa using hn y hy
theorem fnd_pos {l : List VT} {n : Int} (h : ¬ fndF l n < 0) : inV l n = true := by
  unfold fndF at h
  split at h
  · rename_i i hi
    obtain ⟨h1, h2, _⟩ := List.findIdx?_eq_some_iff_getElem.1 hi
    exact List.any_eq_true.2 ⟨_, List.getElem_mem h1, h2⟩
  · omega
theorem edg_neg {l : List ET} {m n : Int} (h : edgF l m n < 0) : ∀ y ∈ l, y.1 ≠ ends m n := by
  unfold edgF at h
  split at h
  · omega
  · rename_i hn
    rw [List.findIdx?_eq_none_iff] at hn
    intro y hy he
    have h2 := hn y hy
    obtain ⟨⟨p, q⟩, c⟩ := y
    simp only [ends, Prod.mk.injEq] at he
    simp only [isEd] at h2
    by_cases hmn : m ≤ n
    · rw [Int.min_eq_left hmn, Int.max_eq_right hmn] at he
      rw [he.1, he.2] at h2; simp at h2
    · rw [Int.min_eq_right (by omega), Int.max_eq_left (by omega)] at he
      rw [he.1, he.2] at h2; simp at h2
theorem inV_mono {l m : List VT} (h : ∀ y ∈ l, ∃ z ∈ m, z.1 = y.1) {n : Int} (hn : inV l n = true) : inV m n = true := by
  obtain ⟨y, hy, hyn⟩ := List.any_eq_true.1 hn
  obtain ⟨z, hz, hzy⟩ := h y hy
  exact List.any_eq_true.2 ⟨z, hz, by rw [hzy]; exact hyn⟩
theorem keepV_key {d : DT} {x y : VT} (h : keepV d x = some y) : y.1 = x.1 := by
  unfold keepV at h; split at h <;> simp at h; rw [← h]
theorem keepE_key {d : DT} {a : Int} {i : Nat} {x y : ET} (h : keepE d a i x = some y) : y.1 = x.1 := by
  unfold keepE at h; split at h <;> simp at h; rw [← h]
theorem edgesK_mem {d : DT} {a : Int} : ∀ {i : Nat} {l : List ET} {y : ET}, y ∈ edgesK d a i l → ∃ j, ∃ x ∈ l, keepE d a j x = some y
  | _, [], y, h => by simp [edgesK] at h
  | i, x :: r, y, h => by
    rw [edgesK, List.mem_append] at h
    rcases h with h | h
    · exact ⟨i, x, by simp, by simpa using h⟩
    · obtain ⟨j, z, hz, hj⟩ := edgesK_mem h
      exact ⟨j, z, by simp [hz], hj⟩
theorem edgesK_sorted {d : DT} {a : Int} : ∀ {i : Nat} {l : List ET}, l.Pairwise (fun p q => lt2 p.1 q.1 = true) → (edgesK d a i l).Pairwise fun p q => lt2 p.1 q.1 = true
  | _, [], _ => by simp [edgesK]
  | i, x :: r, h => by
    obtain ⟨h1, h2⟩ := List.pairwise_cons.1 h
    rw [edgesK, List.pairwise_append]
    refine ⟨by cases keepE d a i x <;> simp, edgesK_sorted h2, fun p hp q hq => ?_⟩
    obtain ⟨j, z, hz, hj⟩ := edgesK_mem hq
    have hp' : keepE d a i x = some p := by simpa using hp
    rw [keepE_key hp', keepE_key hj]; exact h1 z hz
/-- the reference's edits keep a graph valid -/
theorem ok_do {g : GT} (G : Gr.Ok g) {d : DT} (hd : 0 ≤ d.2.2.2.1 ∧ d.2.2.2.1 < 256) : Gr.Ok (doR g d).1 := by
  unfold doR
  by_cases hw : (wrongR g d != 0) = true
  · rw [if_pos hw]; exact G
  rw [if_neg hw]
  have hw0 : wrongR g d = 0 := by simpa using hw
  unfold wrongR at hw0
  split at hw0
  · cases hw0
  rename_i c1
  split at hw0
  · cases hw0
  rename_i c2
  split at hw0
  · cases hw0
  rename_i c3
  simp only [Bool.or_eq_true, Bool.and_eq_true, decide_eq_true_eq, not_or, not_and] at c1 c2 c3
  obtain ⟨⟨c2a, c2b⟩, c2c⟩ := c2
  by_cases h0 : (d.1 == 0) = true
  · rw [if_pos h0]
    rw [if_pos h0] at hw0
    have hd0 : d.1 = 0 := by simpa using h0
    split at hw0
    · cases hw0
    rename_i c4
    have hnot := fnd_neg (l := g.1) (n := d.2.1) (by simpa using c4)
    have hp := insW_perm (fun y : VT => lt1 d.2.1 y.1) (d.2.1, d.2.2.2) g.1
    have hhv := c2c (by rw [hd0]; decide)
    refine ⟨insW_sorted (γ := VT) (κ := Int) (lt := lt1) (fun y => y.1) (fun h k => lt1_tr h k) (fun h k => lt1_tot h k) (x := (d.2.1, d.2.2.2)) G.sv fun y hy => (hnot y hy).symm, G.se, fun y hy => ?_, fun y hy => ?_, G.ne⟩
    · rcases List.mem_cons.1 (hp.mem_iff.1 hy) with rfl | hy
      · refine ⟨by simp [idOk]; omega, hd, by simp only [heavy, Bool.or_eq_false_iff, decide_eq_false_iff_not]; omega⟩
      · exact G.rv y hy
    · obtain ⟨k1, k2, k3, k4⟩ := G.re y hy
      have hm : ∀ z ∈ g.1, ∃ z' ∈ insV g.1 (d.2.1, d.2.2.2), z'.1 = z.1 := fun z hz => ⟨z, hp.mem_iff.2 (by simp [hz]), rfl⟩
      exact ⟨k1, inV_mono hm k2, inV_mono hm k3, k4⟩
  rw [if_neg h0]
  rw [if_neg h0] at hw0
  split at hw0
  · cases hw0
  rename_i c5
  simp only [Bool.or_eq_true, Bool.and_eq_true, decide_eq_true_eq, not_or, not_and] at c5
  by_cases h2 : (d.1 == 2) = true
  · rw [if_pos h2]
    rw [if_pos h2] at hw0
    have hd2 : d.1 = 2 := by simpa using h2
    split at hw0
    · cases hw0
    rename_i c6
    split at hw0
    · cases hw0
    rename_i c7
    have hnot := edg_neg (l := g.2) (m := d.2.1) (n := d.2.2.1) (by simpa using c6)
    have hp := insW_perm (fun y : ET => lt2 (ends d.2.1 d.2.2.1) y.1) (ends d.2.1 d.2.2.1, d.2.2.2) g.2
    have hhv := c2c (by rw [hd2]; decide)
    have hne := c3 (by rw [hd2]; decide)
    have hvv := fnd_pos (c5.2 h2)
    have huv := fnd_pos c5.1
    simp only [beq_iff_eq] at hne
    refine ⟨G.sv, insW_sorted (γ := ET) (κ := Int × Int) (lt := lt2) (fun y => y.1) (fun h k => lt2_tr h k) (fun h k => lt2_tot h k) (x := (ends d.2.1 d.2.2.1, d.2.2.2)) G.se fun y hy => (hnot y hy).symm, G.rv, fun y hy => ?_, ?_⟩
    · rcases List.mem_cons.1 (hp.mem_iff.1 hy) with rfl | hy
      · refine ⟨by simp only [ends]; omega, ?_, ?_, hd, by simp only [heavy, Bool.or_eq_false_iff, decide_eq_false_iff_not]; omega⟩
        · simp only [ends]; by_cases hm : d.2.1 ≤ d.2.2.1
          · rw [Int.min_eq_left hm]; exact huv
          · rw [Int.min_eq_right (by omega)]; exact hvv
        · simp only [ends]; by_cases hm : d.2.1 ≤ d.2.2.1
          · rw [Int.max_eq_right hm]; exact hvv
          · rw [Int.max_eq_left (by omega)]; exact huv
      · exact G.re y hy
    · simp only [insE, insW_len]
      have : ¬ ((1024 : Int) ≤ (g.2.length : Nat)) := by simpa using c7
      omega
  rw [if_neg h2]
  have hkeep : ∀ y ∈ g.1, d.1 ≠ 1 ∨ y.1 ≠ d.2.1 → ∃ z ∈ g.1.filterMap (keepV d), z.1 = y.1 := fun y hy hc => by
    have hn : ¬ (y.1 == d.2.1 && d.1 == 1) = true := by simp only [Bool.and_eq_true, beq_iff_eq]; omega
    have hk : ∃ z, keepV d y = some z ∧ z.1 = y.1 := ⟨_, if_neg hn, rfl⟩
    obtain ⟨z, hz, hzy⟩ := hk
    exact ⟨z, List.mem_filterMap.2 ⟨y, hy, hz⟩, hzy⟩
  refine ⟨?_, edgesK_sorted G.se, fun y hy => ?_, fun y hy => ?_, Nat.le_trans (edgesK_len _ _ _ _) G.ne⟩
  · simp only [genR]
    rw [List.pairwise_filterMap]
    exact G.sv.imp fun {a b} h p hp q hq => by rw [keepV_key hp, keepV_key hq]; exact h
  · obtain ⟨x, hx, hxy⟩ := List.mem_filterMap.1 hy
    obtain ⟨k1, k2, k3⟩ := G.rv x hx
    unfold keepV at hxy
    split at hxy
    · cases hxy
    · simp only [Option.some.injEq] at hxy
      rw [← hxy]
      refine ⟨k1, ?_, ?_⟩
      · simp only; split
        · exact hd
        · exact k2
      · simp only; split
        · rename_i h5
          have h5' : d.1 = 5 := by simp only [Bool.and_eq_true, beq_iff_eq] at h5; exact h5.2
          have hhv := c2c (by rw [h5']; decide)
          simp only [heavy, Bool.or_eq_false_iff, decide_eq_false_iff_not]; omega
        · exact k3
  · obtain ⟨j, x, hx, hxy⟩ := edgesK_mem hy
    obtain ⟨k1, k2, k3, k4, k5⟩ := G.re x hx
    unfold keepE at hxy
    split at hxy
    · cases hxy
    · rename_i hno
      simp only [Option.some.injEq] at hxy
      have hno' : d.1 ≠ 1 ∨ (x.1.1 ≠ d.2.1 ∧ x.1.2 ≠ d.2.1) := by
        simp only [Bool.or_eq_true, Bool.and_eq_true, beq_iff_eq, not_or, not_and] at hno
        by_cases h1 : d.1 = 1
        · exact .inr ⟨fun h => (hno.1 h1).1 h, fun h => (hno.1 h1).2 h⟩
        · exact .inl h1
      have stay : ∀ n, inV g.1 n = true → (d.1 ≠ 1 ∨ n ≠ d.2.1) → inV (genR g d).1 n = true := fun n hn hc => by
        obtain ⟨y, hy, hyn⟩ := List.any_eq_true.1 hn
        have hyn' : y.1 = n := by simpa using hyn
        obtain ⟨z, hz, hzy⟩ := hkeep y hy (by rw [hyn']; exact hc)
        exact List.any_eq_true.2 ⟨z, hz, by rw [hzy]; exact hyn⟩
      rw [← hxy]
      refine ⟨k1, stay _ k2 (hno'.imp id (·.1)), stay _ k3 (hno'.imp id (·.2)), ?_, ?_⟩
      · simp only; split
        · exact hd
        · exact k4
      · simp only; split
        · rename_i h7
          have h7' : d.1 = 7 := by simp only [Bool.and_eq_true, beq_iff_eq] at h7; exact h7.2
          have hhv := c2c (by rw [h7']; decide)
          simp only [heavy, Bool.or_eq_false_iff, decide_eq_false_iff_not]; omega
        · exact k5
theorem ok_made {l : List DT} (hl : ∀ d ∈ l, 0 ≤ d.2.2.2.1 ∧ d.2.2.2.1 < 256) : ∀ k, Gr.Ok (madeTo l k)
  | 0 => by rw [madeTo]; simp only [List.take_zero, List.foldl_nil]; exact ⟨List.Pairwise.nil, List.Pairwise.nil, by simp, by simp, by simp⟩
  | k + 1 => by
    cases h : l[k]? with
    | none =>
      have : l.take (k + 1) = l.take k := by rw [List.take_of_length_le (by have := List.getElem?_eq_none_iff.1 h; omega), List.take_of_length_le (List.getElem?_eq_none_iff.1 h)]
      rw [madeTo, this]
      exact ok_made hl k
    | some d => rw [madeTo_succ h]; exact ok_do (ok_made hl k) (hl d (List.mem_of_getElem? h))
end Go.Mono

namespace Go.Mono
open Go Go.Gr
theorem wf64 {n : Int} (h1 : -9223372036854775808 ≤ n) (h2 : n ≤ 9223372036854775807) : (Lit.int .i64 n).wf = true := by
  have h3 : IntKind.i64.min = -9223372036854775808 := by decide
  have h4 : IntKind.i64.max = 9223372036854775807 := by decide
  simp only [Lit.wf, h3, h4, Bool.and_eq_true, decide_eq_true_eq]
  omega
theorem wf8 {n : Int} (h1 : 0 ≤ n) (h2 : n < 256) : (Lit.int .u8 n).wf = true := by
  have h3 : IntKind.u8.min = 0 := by decide
  have h4 : IntKind.u8.max = 255 := by decide
  simp only [Lit.wf, h3, h4, Bool.and_eq_true, decide_eq_true_eq]
  omega
theorem idOk_r {n : Int} (h : idOk n = true) : 0 ≤ n ∧ n < 1024 := by simpa [idOk] using h
theorem inV_r {g : GT} (G : Gr.Ok g) {n : Int} (h : inV g.1 n = true) : 0 ≤ n ∧ n < 1024 := by
  obtain ⟨y, hy, hyn⟩ := List.any_eq_true.1 h
  have := idOk_r (G.rv y hy).1
  have hyn' : y.1 = n := by simpa using hyn
  rwa [hyn'] at this
theorem heavy_r {n : Int} (h : Gr.heavy n = false) : -1048576 ≤ n ∧ n ≤ 1048576 := by
  simp only [heavy, Bool.or_eq_false_iff, decide_eq_false_iff_not] at h; omega
theorem okD_V {g : GT} (G : Gr.Ok g) : ∀ x ∈ g.1, okD (dV x) := fun x hx => by
  obtain ⟨h1, h2, h3⟩ := G.rv x hx
  have := idOk_r h1; have := heavy_r h3
  exact ⟨wf64 (by simp only [dV]; omega) (by simp only [dV]; omega), wf64 (by simp only [dV]; omega) (by simp only [dV]; omega), wf8 h2.1 h2.2, wf64 (by simp only [dV]; omega) (by simp only [dV]; omega)⟩
theorem okD_E {g : GT} (G : Gr.Ok g) : ∀ x ∈ g.2, okD (dE x) := fun x hx => by
  obtain ⟨h1, h2, h3, h4, h5⟩ := G.re x hx
  have := inV_r G h2; have := inV_r G h3; have := heavy_r h5
  exact ⟨wf64 (by simp only [dE]; omega) (by simp only [dE]; omega), wf64 (by simp only [dE]; omega) (by simp only [dE]; omega), wf8 h4.1 h4.2, wf64 (by simp only [dE]; omega) (by simp only [dE]; omega)⟩
theorem wrongM_perm {g h : GT} (h1 : g.1.Perm h.1) (h2 : g.2.Perm h.2) (d : DT) : wrongM g d = wrongM h d := by
  unfold wrongM tests
  have e1 : ∀ n, inV g.1 n = inV h.1 n := fun n => h1.any_eq
  have e2 : ∀ m n, inE g.2 m n = inE h.2 m n := fun m n => h2.any_eq
  simp only [e1, e2, h2.length_eq]
theorem putP_last {α β : Type} [DecidableEq α] {l m : List (α × β)} {k : α} {c : β} (h : l.Perm m) (hk : ∀ y ∈ m, y.1 ≠ k) : (putP l k c).Perm (m ++ [(k, c)]) := by
  unfold putP
  have : l.filter (fun p => !decide (p.1 = k)) = l := List.filter_eq_self.2 fun p hp => by simpa using hk p (h.mem_iff.1 hp)
  rw [this]
  exact (h.cons _).trans (List.perm_append_singleton _ _).symm
theorem fold_V {g : GT} (G : Gr.Ok g) : ∀ i, i ≤ g.1.length → ∃ h : GT, ((g.1.map dV).take i).foldl stepB (some ([], [])) = some h ∧ h.1.Perm (g.1.take i) ∧ h.2 = []
  | 0, _ => ⟨([], []), by simp, by simp, rfl⟩
  | i + 1, hi => by
    obtain ⟨h, k1, k2, k3⟩ := fold_V G i (by omega)
    have hx := List.getElem?_eq_getElem (show i < g.1.length by omega)
    generalize g.1[i] = x at hx
    have hxd : (g.1.map dV)[i]? = some (dV x) := by rw [List.getElem?_map, hx]; rfl
    have hw := (stepV G hx).1
    have hb := before G.sv hx
    have hpw : wrongM h (dV x) = 0 := by rw [wrongM_perm (h := (g.1.take i, [])) k2 (by rw [k3])]; exact hw
    refine ⟨doP h (dV x), by rw [fold_take _ hxd, k1, stepB, if_pos hpw], ?_, ?_⟩
    · rw [take_succ' hx]
      show (putP h.1 x.1 x.2).Perm _
      exact putP_last k2 fun y hy => (lt1_asy (hb y hy)).2
    · exact k3
theorem fold_E {g : GT} (G : Gr.Ok g) {h0 : GT} (p1 : h0.1.Perm g.1) (p2 : h0.2 = []) : ∀ i, i ≤ g.2.length → ∃ h : GT, ((g.2.map dE).take i).foldl stepB (some h0) = some h ∧ h.1.Perm g.1 ∧ h.2.Perm (g.2.take i)
  | 0, _ => ⟨h0, by simp, p1, by rw [p2]; simp⟩
  | i + 1, hi => by
    obtain ⟨h, k1, k2, k3⟩ := fold_E G p1 p2 i (by omega)
    have hx := List.getElem?_eq_getElem (show i < g.2.length by omega)
    generalize g.2[i] = x at hx
    have hxd : (g.2.map dE)[i]? = some (dE x) := by rw [List.getElem?_map, hx]; rfl
    have hw := (stepE G hx).1
    have hb := before G.se hx
    have hpw : wrongM h (dE x) = 0 := by rw [wrongM_perm (h := (g.1, g.2.take i)) k2 k3]; exact hw
    have he : ends x.1.1 x.1.2 = x.1 := ends_lt (G.re x (List.mem_of_getElem? hx)).1
    refine ⟨doP h (dE x), by rw [fold_take _ hxd, k1, stepB, if_pos hpw], k2, ?_⟩
    rw [take_succ' hx]
    show (putP h.2 (ends x.1.1 x.1.2) x.2).Perm _
    rw [he]
    exact putP_last k3 fun y hy => (lt2_asy (hb y hy)).2
/-- a valid graph can be built -/
theorem bld_ok {g : GT} (G : Gr.Ok g) : ∃ g', bldM g.1 g.2 = some g' ∧ g'.1.Perm g.1 ∧ g'.2.Perm g.2 := by
  obtain ⟨h, k1, k2, k3⟩ := fold_V G g.1.length (Nat.le_refl _)
  rw [List.take_of_length_le (by simp)] at k1
  rw [List.take_length] at k2
  obtain ⟨h', l1, l2, l3⟩ := fold_E G k2 k3 g.2.length (Nat.le_refl _)
  rw [List.take_of_length_le (by simp)] at l1
  rw [List.take_length] at l3
  exact ⟨h', by rw [bldM, k1, l1], l2, l3⟩
end Go.Mono

namespace Go.Mono
open Go Go.Proofs Go.RowKit Go.Gr
/-- what From hands back -/
def FrmQ (g : GT) (W : World) (en : Ending) (w' : World) : Prop :=
  Ext W w' ∧ ((∃ g' bg bv be, bldM g.1 g.2 = some g' ∧ en = .returned (.pointer (some ⟨bg, 0, none⟩)) ∧ W.heap.size ≤ bg ∧ W.heap.size ≤ bv ∧ W.heap.size ≤ be ∧ GrR w' bg bv be (g.1.length + g.2.length) g') ∨ (bldM g.1 g.2 = none ∧ en = .returned (.pointer none)))
theorem from05_spec {G : Nat → Prop} (g : GT) (v : Value) (W : World) (h : (Dv gtE G g).p v W) (hl1 : g.1.length ≤ 100000) (hl2 : g.2.length ≤ 100000) (hV : ∀ x ∈ g.1, okD (dV x)) (hE : ∀ x ∈ g.2, okD (dE x)) :
    Calls Tryz.prog 9 #[v] W (FrmQ g W) := by
  obtain ⟨u1, u2, rfl, h1, h2⟩ := Dv.gt.1 (Dv.weak (G' := Go.Mono.G0) h fun b _ hb => hb.elim)
  have h1b := Dv.toB h1
  have h2b := Dv.toB h2
  refine enter (args := [.agg #[u1, u2]]) (As := [E (.agg #[u1, u2])]) Tryz.func9 rfl Tryz.ntmps9 (Nat.le_of_ble_eq_true rfl) ?_ (fun a hf => ?_) (Nat.le_of_ble_eq_true rfl)
  rotate_left
  dsimp only [params, Nat.reduceAdd] at hf
  rotate_right
  · exact arg1 rfl
  have e := Ext.rfl' W
  repeat refine seq ?_
  refine regn0 ?_
  refine tl_box hf rfl (by decide) fun a b1 w v1 hv1 e' hb1 hs1 B1 hf => ?_
  have hle1 := Nat.le_trans e.size (Nat.le_of_eq hb1.symm)
  replace e := Ext.tr e e'
  clear e'
  refine tl_as hf rfl (by decide) fun a hf => ?_
  refine tl_nil ?_
  cases hv1
  repeat refine seq ?_
  refine regn0 ?_
  refine tl_as hf rfl (by decide) fun a hf => ?_
  refine tl_nil ?_
  repeat refine seq ?_
  refine regn0 ?_
  refine tl_as hf rfl (by decide) fun a hf => ?_
  refine tl_nil ?_
  repeat refine seq ?_
  refine regn0 ?_
  refine tl_as hf rfl (by decide) fun a hf => ?_
  refine tl_nil ?_
  replace hf := hf.keep [1, 2, 3, 4, 5]
  dsimp only [keep, List.filterMap, look, Nat.beq, Option.map] at hf
  repeat refine seq ?_
  refine blk (loopN (fun r0 a w => ∃ (k : Nat) (u : Value), r0 = g.1.length - k ∧ k ≤ g.1.length ∧ Fr 48 a w [(1, E (.pointer (some ⟨b1, 0, none⟩))), (2, E (.pointer none)), (3, E u), (4, E (.slice none 0 0)), (5, E (I k))] ∧ Ext W w ∧ Blk w b1 #[u1, u2] 36 ∧ OwR vtE 82 (b1 + 1) Go.Mono.G0 w (g.1.take k) u) g.1.length ⟨0, .slice none 0 0, rfl, by omega, hf, e, ⟨B1, OwR.nil vtE _ (by have := B1.lt; omega) fun b hb => hb.elim⟩⟩ ?_)
  clear hf e; try clear B1; try clear Ho
  rintro r0 a w ⟨k, u, rfl, hk, hf, e, B1, Ho⟩
  repeat refine seq ?_
  refine regn 5 hf (by decide +kernel) ?_
  refine st (mv rfl) ?_
  refine st (fldA Tryz.underlying36 rfl T33 (by decide) rfl) ?_
  refine st (ld1 T33 rfl (by assumption) rfl) ?_
  refine st (lenD Tryz.underlying33 (isE rfl (VA.st _ _ _ _ e h1))) ?_
  refine st (lss rfl rfl) ?_
  refine en fun a w e' hf => ?_
  replace e := Ext.tr e e'
  replace B1 := B1.ext e'
  replace Ho := Ho.ext e'
  clear e'
  refine tl_nil ?_
  repeat refine seq ?_
  refine ifc hf rfl (fun hc => wskip ?_) (fun hc => wexit ?_)
  rotate_left
  rotate_left
  · have hlt : k < g.1.length := by have := of_decide_eq_true hc; (try dsimp only at this); omega
    clear hc
    replace hf := hf.keep [1, 2, 3, 4, 5]
    dsimp only [keep, List.filterMap, look, Nat.beq, Option.map] at hf
    repeat refine seq ?_
    refine blk ?_
    have hg := List.getElem?_eq_getElem hlt
    generalize g.1[k] = y at hg
    have hlk := List.length_take_le k g.1
    have n1 := Ho.neLt (b := b1) (by omega)
    repeat refine seq ?_
    refine regn 7 hf (by decide +kernel) ?_
    refine st (mv rfl) ?_
    refine st (fldA Tryz.underlying36 rfl T33 (by decide) rfl) ?_
    refine st (ld1 T33 rfl B1 rfl) ?_
    refine st (mv rfl) ?_
    refine st (idxD Tryz.underlying33 S83 (isE rfl (VA.st _ _ _ _ e h1b)) rfl (by omega) (hg)) ?_
    refine st (ldVt T83 (isR rfl)) ?_
    refine st (bsl1 Tryz.underlying79 I82 rfl (by decide) rfl Ho.avs (isVt rfl)) ?_
    refine en fun a w e' hf => ?_
    replace Ho := Ho.ext e'
    replace e := Ext.tr e e'
    replace B1 := B1.ext e'
    clear e'
    haveI hin : ∀ G0, InR (GB W G0) _ := OwR.inGB (W := W) Ho (by omega)
    refine tl_app Tryz.underlying79 I82 rfl rfl hf (by decide) rfl Ho (isR rfl) (by simp only [List.length_singleton]; omega) (by simp only [List.length_singleton, maxLen]; omega) fun a v w hg hat Hn hf => ?_
    replace e := e.gro hg (Ho.row (W := W) (by omega))
    have hrow := Ho.row (W := W) (by omega)
    replace Ho := Hn
    clear hrow
    replace B1 := B1.gro hg (by assumption)
    replace Ho := Hn; clear Hn hg hat hin
    refine tl_as hf rfl (by decide) fun a hf => ?_
    refine tl_nil ?_
    try simp only [Exit.then, Exit.inBlock, ↓reduceIte]
    repeat refine seq ?_
    refine regn 2 hf (by decide +kernel) ?_
    refine st (mv rfl) ?_
    refine st ((add rfl rfl (by omega)).eq (congrArg (Value.int .i64) (show (k : Int) + 1 = ((k + 1 : Nat) : Int) from rfl))) ?_
    refine en fun a w e' hf => ?_
    replace Ho := Ho.ext e'
    replace e := Ext.tr e e'
    replace B1 := B1.ext e'
    clear e'
    refine tl_as hf rfl (by decide) fun a hf => ?_
    refine tl_nil ?_
    replace hf := hf.keep [1, 2, 3, 4, 5]
    dsimp only [keep, List.filterMap, look, Nat.beq, Option.map] at hf
    refine ⟨_, ?_, k + 1, _, rfl, by omega, hf, e, ?_⟩
    · omega
    rw [take_succ_get hg]
    exact ⟨B1, Ho⟩
  · obtain rfl : k = g.1.length := by have := of_decide_eq_false hc; (try dsimp only at this); omega
    clear hc
    simp only [Exit.then, Exit.inBlock, ↓reduceIte]
    rw [List.take_length] at Ho
    obtain ⟨av, nv, cv, rfl⟩ := Dv.slF Ho.sl
    obtain ⟨NV, hNV⟩ : ∃ NV : Nat → Prop, NV = fun b => (Value.slice av nv cv).ownBlock ≠ some b := ⟨_, rfl⟩
    have HD : (Dv (slE vtE) NV g.1).p (.slice av nv cv) w := Ho.slN fun b hb => by rw [hNV]; exact fun h => h hb
    obtain ⟨N5, hN5⟩ : ∃ N5, N5 = w.heap.size := ⟨_, rfl⟩
    have hN1 : b1 < N5 := by rw [hN5]; exact B1.lt
    have nV : ∀ bb, N5 ≤ bb → NV bb := fun bb hb => by rw [hNV]; intro h; have h3 := Ho.lt h; omega
    have hN5s : N5 ≤ w.heap.size := Nat.le_of_eq hN5
    clear hN5 hNV Ho
    repeat refine seq ?_
    refine regn0 ?_
    refine tl_as hf rfl (by decide) fun a hf => ?_
    refine tl_nil ?_
    replace hf := hf.keep [1, 2, 3, 4, 6]
    dsimp only [keep, List.filterMap, look, Nat.beq, Option.map] at hf
    repeat refine seq ?_
    refine blk (loopN (fun r0 a w => ∃ (k : Nat) (u : Value), r0 = g.2.length - k ∧ k ≤ g.2.length ∧ Fr 48 a w [(1, E (.pointer (some ⟨b1, 0, none⟩))), (2, E (.pointer none)), (3, E (.slice av nv cv)), (4, E u), (6, E (I k))] ∧ Ext W w ∧ Blk w b1 #[u1, u2] 36 ∧ (Dv (slE vtE) NV g.1).p (.slice av nv cv) w ∧ OwR etE 85 N5 Go.Mono.G0 w (g.2.take k) u ∧ N5 ≤ w.heap.size) g.2.length ⟨0, .slice none 0 0, rfl, by omega, hf, e, ⟨B1, HD, OwR.nil etE _ hN5s fun b hb => hb.elim, hN5s⟩⟩ ?_)
    clear hf e; try clear B1; try clear HD; try clear Ho; try clear hN5s
    rintro r0 a w ⟨k, u, rfl, hk, hf, e, B1, HD, Ho, hN5s⟩
    repeat refine seq ?_
    refine regn 5 hf (by decide +kernel) ?_
    refine st (mv rfl) ?_
    refine st (fldA Tryz.underlying36 rfl T34 (by decide) rfl) ?_
    refine st (ld1 T34 rfl (by assumption) rfl) ?_
    refine st (lenD Tryz.underlying34 (isE rfl (VA.st _ _ _ _ e h2))) ?_
    refine st (lss rfl rfl) ?_
    refine en fun a w e' hf => ?_
    replace HD := VA.st _ _ _ _ e' HD
    replace hN5s := Nat.le_trans hN5s e'.size
    replace e := Ext.tr e e'
    replace B1 := B1.ext e'
    replace Ho := Ho.ext e'
    clear e'
    refine tl_nil ?_
    repeat refine seq ?_
    refine ifc hf rfl (fun hc => wskip ?_) (fun hc => wexit ?_)
    rotate_left
    rotate_left
    · have hlt : k < g.2.length := by have := of_decide_eq_true hc; (try dsimp only at this); omega
      clear hc
      replace hf := hf.keep [1, 2, 3, 4, 6]
      dsimp only [keep, List.filterMap, look, Nat.beq, Option.map] at hf
      repeat refine seq ?_
      refine blk ?_
      have hg := List.getElem?_eq_getElem hlt
      generalize g.2[k] = y at hg
      have hlk := List.length_take_le k g.2
      have n1 := Ho.neLt (b := b1) (by omega)
      repeat refine seq ?_
      refine regn 7 hf (by decide +kernel) ?_
      refine st (mv rfl) ?_
      refine st (fldA Tryz.underlying36 rfl T34 (by decide) rfl) ?_
      refine st (ld1 T34 rfl B1 rfl) ?_
      refine st (mv rfl) ?_
      refine st (idxD Tryz.underlying34 S86 (isE rfl (VA.st _ _ _ _ e h2b)) rfl (by omega) (hg)) ?_
      refine st (ldEt T86 (isR rfl)) ?_
      refine st (bsl1 Tryz.underlying80 I85 rfl (by decide) rfl Ho.avs (isEt rfl)) ?_
      refine en fun a w e' hf => ?_
      replace HD := VA.st _ _ _ _ e' HD
      replace hN5s := Nat.le_trans hN5s e'.size
      replace Ho := Ho.ext e'
      replace e := Ext.tr e e'
      replace B1 := B1.ext e'
      clear e'
      haveI hin : ∀ G0, InR (GB W G0) _ := OwR.inGB (W := W) Ho (by omega)
      refine tl_app Tryz.underlying80 I85 rfl rfl hf (by decide) rfl Ho (isR rfl) (by simp only [List.length_singleton]; omega) (by simp only [List.length_singleton, maxLen]; omega) fun a v w hg hat Hn hf => ?_
      replace e := e.gro hg (Ho.row (W := W) (by omega))
      have hrow := Ho.row (W := W) (by omega)
      replace HD := Dv.grN HD hg (fun bb hb => nV bb (Ho.lt hb).1)
      replace hN5s := Nat.le_trans hN5s hg.size
      replace Ho := Hn
      clear hrow
      replace B1 := B1.gro hg (by assumption)
      replace Ho := Hn; clear Hn hg hat hin
      refine tl_as hf rfl (by decide) fun a hf => ?_
      refine tl_nil ?_
      try simp only [Exit.then, Exit.inBlock, ↓reduceIte]
      repeat refine seq ?_
      refine regn 2 hf (by decide +kernel) ?_
      refine st (mv rfl) ?_
      refine st ((add rfl rfl (by omega)).eq (congrArg (Value.int .i64) (show (k : Int) + 1 = ((k + 1 : Nat) : Int) from rfl))) ?_
      refine en fun a w e' hf => ?_
      replace HD := VA.st _ _ _ _ e' HD
      replace hN5s := Nat.le_trans hN5s e'.size
      replace Ho := Ho.ext e'
      replace e := Ext.tr e e'
      replace B1 := B1.ext e'
      clear e'
      refine tl_as hf rfl (by decide) fun a hf => ?_
      refine tl_nil ?_
      replace hf := hf.keep [1, 2, 3, 4, 6]
      dsimp only [keep, List.filterMap, look, Nat.beq, Option.map] at hf
      refine ⟨_, ?_, k + 1, _, rfl, by omega, hf, e, ?_⟩
      · omega
      rw [take_succ_get hg]
      exact ⟨B1, HD, Ho, hN5s⟩
    · obtain rfl : k = g.2.length := by have := of_decide_eq_false hc; (try dsimp only at this); omega
      clear hc
      simp only [Exit.then, Exit.inBlock, ↓reduceIte]
      rw [List.take_length] at Ho
      replace hf := hf.keep [2, 3, 4]
      dsimp only [keep, List.filterMap, look, Nat.beq, Option.map] at hf
      repeat refine seq ?_
      refine regn 2 hf (by decide +kernel) ?_
      refine st (mv rfl) ?_
      refine st (mv rfl) ?_
      refine en fun a w e' hf => ?_
      replace HD := VA.st _ _ _ _ e' HD
      replace Ho := Ho.ext e'
      replace e := Ext.tr e e'
      clear e'
      refine tl_callE (S := fun b => False) (F := fun z w' => (∃ g' bg bv be, bldM g.1 g.2 = some g' ∧ z = .tuple #[.pointer (some ⟨bg, 0, none⟩), I 0] ∧ W.heap.size ≤ bg ∧ W.heap.size ≤ bv ∧ W.heap.size ≤ be ∧ GrR w' bg bv be (g.1.length + g.2.length) g') ∨ (∃ c : Int, c ≠ 0 ∧ bldM g.1 g.2 = none ∧ z = .tuple #[.pointer none, I c])) hf (by decide) En38 ?_ fun a z w hc hF hf => ?_
      · have e40 : a.eval (.tmp 40) = .slice av nv cv := hf.opd (.tmp 40) _ rfl
        have e41 : a.eval (.tmp 41) = u := hf.opd (.tmp 41) _ rfl
        simp only [List.map_toArray, List.map_cons, List.map_nil, e40, e41]
        refine (build_spec (G := Go.Mono.G0) g.1 g.2 _ _ _ (Dv.weak HD fun b _ hb => hb.elim) Ho.sl hl1 hl2 hV hE).mono ?_
        rintro en w' ⟨k1, ⟨g', bg, bv, be, k2, rfl, k4, k5, k6, k7⟩ | ⟨c, k2, k3, rfl⟩⟩
        · exact ⟨_, rfl, k1.chg _, .inl ⟨g', bg, bv, be, k2, rfl, Nat.le_trans e.size k4, Nat.le_trans e.size k5, Nat.le_trans e.size k6, k7⟩⟩
        · exact ⟨_, rfl, k1.chg _, .inr ⟨c, k2, k3, rfl⟩⟩
      replace e := e.ch hc (fun b hb => hb.elim)
      clear hc HD Ho
      rcases hF with ⟨g', bg, bv, be, k2, rfl, k4, k5, k6, k7⟩ | ⟨c, k2, k3, rfl⟩
      · have _ := k2
        refine tl_op hf (by decide) (mv rfl) fun a w e' hf => ?_
        replace e := Ext.tr e e'
        replace k7 := k7.ext e'
        clear e'
        refine tl_op hf (by decide) (exE rfl rfl) fun a w e' hf => ?_
        replace e := Ext.tr e e'
        replace k7 := k7.ext e'
        clear e'
        refine tl_op hf (by decide) (exE rfl rfl) fun a w e' hf => ?_
        replace e := Ext.tr e e'
        replace k7 := k7.ext e'
        clear e'
        refine tl_as hf rfl (by decide) fun a hf => ?_
        refine tl_as hf rfl (by decide) fun a hf => ?_
        refine tl_nil ?_
        repeat refine seq ?_
        refine regn 2 hf (by decide +kernel) ?_
        refine st (mv rfl) ?_
        refine st (neq rfl rfl) ?_
        refine en fun a w e' hf => ?_
        replace e := Ext.tr e e'
        replace k7 := k7.ext e'
        clear e'
        refine tl_nil ?_
        repeat refine seq ?_
        refine ifc hf rfl (fun h => by cases h) (fun _ => ?_)
        refine wskip ?_
        try simp only [Exit.then, Exit.inBlock, ↓reduceIte]
        repeat refine seq ?_
        refine regn 1 hf (by decide +kernel) ?_
        refine st (mv rfl) ?_
        refine en fun a w e' hf => ?_
        replace e := Ext.tr e e'
        replace k7 := k7.ext e'
        clear e'
        refine tl_as hf rfl (by decide) fun a hf => ?_
        refine tl_nil ?_
        refine wret ?_
        try simp only [Exit.then, Exit.inBlock]
        refine ret1 rfl hf rfl ?_
        rintro _ rfl
        exact ⟨e, .inl ⟨g', bg, bv, be, k2, rfl, k4, k5, k6, k7⟩⟩
      · have _ := k2
        refine tl_op hf (by decide) (mv rfl) fun a w e' hf => ?_
        replace e := Ext.tr e e'
        clear e'
        refine tl_op hf (by decide) (exE rfl rfl) fun a w e' hf => ?_
        replace e := Ext.tr e e'
        clear e'
        refine tl_op hf (by decide) (exE rfl rfl) fun a w e' hf => ?_
        replace e := Ext.tr e e'
        clear e'
        refine tl_as hf rfl (by decide) fun a hf => ?_
        refine tl_as hf rfl (by decide) fun a hf => ?_
        refine tl_nil ?_
        repeat refine seq ?_
        refine regn 2 hf (by decide +kernel) ?_
        refine st (mv rfl) ?_
        refine st ((neq rfl rfl).eq (congrArg Value.bool (show (c != 0) = true from by simpa using k2))) ?_
        refine en fun a w e' hf => ?_
        replace e := Ext.tr e e'
        clear e'
        refine tl_nil ?_
        repeat refine seq ?_
        refine ifc hf rfl (fun _ => ?_) (fun h => by cases h)
        repeat refine seq ?_
        refine regn0 ?_
        refine tl_as hf rfl (by decide) fun a hf => ?_
        refine tl_nil ?_
        refine wret ?_
        try simp only [Exit.then, Exit.inBlock]
        refine ret1 rfl hf rfl ?_
        rintro _ rfl
        exact ⟨e, .inr ⟨k3, rfl⟩⟩
end Go.Mono
