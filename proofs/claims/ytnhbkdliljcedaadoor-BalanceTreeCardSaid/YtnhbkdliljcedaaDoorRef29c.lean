/-
  The reference's parts and centre, walked.
  No condition.
-/
import Derived.Test.YtnhbkdliljcedaaDoorRef29b
set_option linter.unusedVariables false
set_option linter.unusedSimpArgs false
set_option linter.unusedVariables false
set_option linter.unusedSimpArgs false
namespace Go.Mono
open Go Go.Proofs Go.RowKit

theorem minus2_spec {G G2 : Nat → Prop} (r s : List Int) (v u : Value) (W : World) (h : (Dv (slE intE) G2 r).p v W) (h' : (Dv (slE intE) G2 s).p u W) (hG : ∀ b, G b → b < W.heap.size) (hl : r.length ≤ 4096) (hs : s.length ≤ 4096) :
    Calls Tryd.prog 136 #[v, u] W (Post (Dv (slE intE) G (r.filter fun x => !hasL s x)) W) := by
  refine enter (args := [v, u]) (As := [Dv (slE intE) (GB W Go.Mono.G0) r, Dv (slE intE) (GB W Go.Mono.G0) s]) Tryd.func136 rfl Tryd.ntmps136 (Nat.le_of_ble_eq_true rfl) ?_ (fun a hf => ?_) (Nat.le_of_ble_eq_true rfl)
  rotate_left
  dsimp only [params, Nat.reduceAdd] at hf
  rotate_right
  · exact arg2 (Dv.toB (Dv.weak h fun b _ hb => hb.elim)) (Dv.toB (Dv.weak h' fun b _ hb => hb.elim))
  have e := Ext.rfl' W
  repeat refine seq ?_
  refine regn0 ?_
  refine tl_as hf rfl (by decide) fun a hf => ?_
  refine tl_nil ?_
  repeat refine seq ?_
  refine regn0 ?_
  refine tl_bsl0 W.heap.size G intE Tryd.underlying57 S3 hf (by decide) e.size hG fun a v w e' hov Ho hf => ?_
  replace e := Ext.tr e e'
  clear e'
  refine tl_as hf rfl (by decide) fun a hf => ?_
  refine tl_nil ?_
  repeat refine seq ?_
  refine regn0 ?_
  refine tl_as hf rfl (by decide) fun a hf => ?_
  refine tl_nil ?_
  replace hf := hf.keep [0, 1, 5, 6]
  dsimp only [keep, List.filterMap, look, Nat.beq, Option.map] at hf
  repeat refine seq ?_
  refine blk (loopN (fun r0 a w => ∃ (k : Nat) (u : Value), r0 = r.length - k ∧ k ≤ r.length ∧ Fr 29 a w [(0, Dv (slE intE) (GB W Go.Mono.G0) r), (1, Dv (slE intE) (GB W Go.Mono.G0) s), (5, E u), (6, E (I k))] ∧ Ext W w ∧ OwR intE 3 W.heap.size G w ((r.take k).filter fun x => !hasL s x) u) r.length ⟨0, _, rfl, by omega, hf, e, (by simpa using Ho)⟩ ?_)
  clear hf e; try clear Ho
  rintro r0 a w ⟨k, u, rfl, hk, hf, e, Ho⟩
  repeat refine seq ?_
  refine regn 4 hf (by decide +kernel) ?_
  refine st (mv rfl) ?_
  refine st (mv rfl) ?_
  refine st (lenD Tryd.underlying57 (isR rfl)) ?_
  refine st (lss rfl rfl) ?_
  refine en fun a w e' hf => ?_
  replace e := Ext.tr e e'
  replace Ho := Ho.ext e'
  clear e'
  refine tl_nil ?_
  repeat refine seq ?_
  refine ifc hf rfl (fun hc => wskip ?_) (fun hc => wexit ?_)
  rotate_left
  rotate_left
  · have hlt : k < r.length := by have := of_decide_eq_true hc; (try dsimp only at this); omega
    clear hc
    replace hf := hf.keep [0, 1, 5, 6]
    dsimp only [keep, List.filterMap, look, Nat.beq, Option.map] at hf
    repeat refine seq ?_
    refine blk ?_
    repeat refine seq ?_
    refine regn 7 hf (by decide +kernel) ?_
    refine st (mv rfl) ?_
    refine st (mv rfl) ?_
    refine st (mv rfl) ?_
    refine st (idxD Tryd.underlying57 S3 (isR rfl) rfl (by omega) (gi_get hlt)) ?_
    refine st (ldI T3 (isR rfl)) ?_
    refine st (call2 En84 rfl rfl (fun v u w _ h h' => by cases h'; exact hasL_spec _ _ _ _ h hs)) ?_
    refine st (notp rfl) ?_
    refine en fun a w e' hf => ?_
    replace e := Ext.tr e e'
    replace Ho := Ho.ext e'
    clear e'
    refine tl_nil ?_
    have hsel := filter_take_len (r := r) (k := k) (fun x => !hasL s x)
    repeat refine seq ?_
    refine ifc hf rfl (fun hb => ?_) (fun hb => ?_)
    · replace hf := hf.keep [0, 1, 5, 6]
      dsimp only [keep, List.filterMap, look, Nat.beq, Option.map] at hf
      repeat refine seq ?_
      refine regn 6 hf (by decide +kernel) ?_
      refine st (mv rfl) ?_
      refine st (mv rfl) ?_
      refine st (mv rfl) ?_
      refine st (idxD Tryd.underlying57 S3 (isR rfl) rfl (by omega) (gi_get hlt)) ?_
      refine st (ldI T3 (isR rfl)) ?_
      refine st (bsl1 Tryd.underlying57 I3 rfl (by decide) rfl Ho.avs (isI rfl)) ?_
      refine en fun a w e' hf => ?_
      replace e := Ext.tr e e'
      replace Ho := Ho.ext e'
      clear e'
      haveI hin : ∀ G0, InR (GB W G0) _ := OwR.inGB Ho (Nat.le_refl _)
      refine tl_app Tryd.underlying57 I3 rfl rfl hf (by decide) rfl Ho (isR rfl) (by simp only [List.length_singleton]; omega) (by simp only [List.length_singleton, maxLen]; omega) fun a v w hg hat Hn hf => ?_
      replace e := e.gro hg (Ho.row (Nat.le_refl _))
      replace Ho := Hn; clear Hn hg hat hin
      refine tl_as hf rfl (by decide) fun a hf => ?_
      refine tl_nil ?_
      try simp only [Exit.then, Exit.inBlock, ↓reduceIte]
      repeat refine seq ?_
      refine regn 2 hf (by decide +kernel) ?_
      refine st (mv rfl) ?_
      refine st ((add rfl rfl (by omega)).eq (congrArg (Value.int .i64) (show (k : Int) + 1 = ((k + 1 : Nat) : Int) from rfl))) ?_
      refine en fun a w e' hf => ?_
      replace e := Ext.tr e e'
      replace Ho := Ho.ext e'
      clear e'
      refine tl_as hf rfl (by decide) fun a hf => ?_
      refine tl_nil ?_
      replace hf := hf.keep [0, 1, 5, 6]
      dsimp only [keep, List.filterMap, look, Nat.beq, Option.map] at hf
      refine ⟨_, ?_, k + 1, _, rfl, by omega, hf, e, ?_⟩
      · omega
      rw [filter_take _ hlt, if_pos hb]; exact Ho
    · refine wskip ?_
      try simp only [Exit.then, Exit.inBlock, ↓reduceIte]
      try simp only [Exit.then, Exit.inBlock, ↓reduceIte]
      repeat refine seq ?_
      refine regn 2 hf (by decide +kernel) ?_
      refine st (mv rfl) ?_
      refine st ((add rfl rfl (by omega)).eq (congrArg (Value.int .i64) (show (k : Int) + 1 = ((k + 1 : Nat) : Int) from rfl))) ?_
      refine en fun a w e' hf => ?_
      replace e := Ext.tr e e'
      replace Ho := Ho.ext e'
      clear e'
      refine tl_as hf rfl (by decide) fun a hf => ?_
      refine tl_nil ?_
      replace hf := hf.keep [0, 1, 5, 6]
      dsimp only [keep, List.filterMap, look, Nat.beq, Option.map] at hf
      refine ⟨_, ?_, k + 1, _, rfl, by omega, hf, e, ?_⟩
      · omega
      rw [filter_take _ hlt, if_neg (by rw [hb]; decide)]; exact Ho
  · obtain rfl : k = r.length := by have := of_decide_eq_false hc; (try dsimp only at this); omega
    clear hc
    simp only [Exit.then, Exit.inBlock, ↓reduceIte]
    repeat refine seq ?_
    refine regn 1 hf (by decide +kernel) ?_
    refine st (mv rfl) ?_
    refine en fun a w e' hf => ?_
    replace e := Ext.tr e e'
    replace Ho := Ho.ext e'
    clear e'
    refine tl_as hf rfl (by decide) fun a hf => ?_
    refine tl_nil ?_
    refine wret ?_
    try simp only [Exit.then, Exit.inBlock]
    refine ret1 rfl hf rfl ?_
    rintro _ rfl
    exact ⟨_, rfl, e, (by rw [List.take_length] at Ho; exact Ho.sl)⟩

theorem without2_spec {G G2 : Nat → Prop} (r : List Int) (n : Int) (v : Value) (W : World) (h : (Dv (slE intE) G2 r).p v W) (hG : ∀ b, G b → b < W.heap.size) (hl : r.length ≤ 4096) :
    Calls Tryd.prog 135 #[v, I n] W (Post (Dv (slE intE) G (r.filter fun x => x != n)) W) := by
  refine enter (args := [v, I n]) (As := [Dv (slE intE) (GB W Go.Mono.G0) r, E (I n)]) Tryd.func135 rfl Tryd.ntmps135 (Nat.le_of_ble_eq_true rfl) ?_ (fun a hf => ?_) (Nat.le_of_ble_eq_true rfl)
  rotate_left
  dsimp only [params, Nat.reduceAdd] at hf
  rotate_right
  · exact arg2 (Dv.toB (Dv.weak h fun b _ hb => hb.elim)) rfl
  have e := Ext.rfl' W
  repeat refine seq ?_
  refine regn0 ?_
  refine tl_as hf rfl (by decide) fun a hf => ?_
  refine tl_nil ?_
  repeat refine seq ?_
  refine regn0 ?_
  refine tl_bsl0 W.heap.size G intE Tryd.underlying57 S3 hf (by decide) e.size hG fun a v w e' hov Ho hf => ?_
  replace e := Ext.tr e e'
  clear e'
  refine tl_as hf rfl (by decide) fun a hf => ?_
  refine tl_nil ?_
  repeat refine seq ?_
  refine regn0 ?_
  refine tl_as hf rfl (by decide) fun a hf => ?_
  refine tl_nil ?_
  replace hf := hf.keep [0, 1, 5, 6]
  dsimp only [keep, List.filterMap, look, Nat.beq, Option.map] at hf
  repeat refine seq ?_
  refine blk (loopN (fun r0 a w => ∃ (k : Nat) (u : Value), r0 = r.length - k ∧ k ≤ r.length ∧ Fr 28 a w [(0, Dv (slE intE) (GB W Go.Mono.G0) r), (1, E (I n)), (5, E u), (6, E (I k))] ∧ Ext W w ∧ OwR intE 3 W.heap.size G w ((r.take k).filter fun x => x != n) u) r.length ⟨0, _, rfl, by omega, hf, e, (by simpa using Ho)⟩ ?_)
  clear hf e; try clear Ho
  rintro r0 a w ⟨k, u, rfl, hk, hf, e, Ho⟩
  repeat refine seq ?_
  refine regn 4 hf (by decide +kernel) ?_
  refine st (mv rfl) ?_
  refine st (mv rfl) ?_
  refine st (lenD Tryd.underlying57 (isR rfl)) ?_
  refine st (lss rfl rfl) ?_
  refine en fun a w e' hf => ?_
  replace e := Ext.tr e e'
  replace Ho := Ho.ext e'
  clear e'
  refine tl_nil ?_
  repeat refine seq ?_
  refine ifc hf rfl (fun hc => wskip ?_) (fun hc => wexit ?_)
  rotate_left
  rotate_left
  · have hlt : k < r.length := by have := of_decide_eq_true hc; (try dsimp only at this); omega
    clear hc
    replace hf := hf.keep [0, 1, 5, 6]
    dsimp only [keep, List.filterMap, look, Nat.beq, Option.map] at hf
    repeat refine seq ?_
    refine blk ?_
    repeat refine seq ?_
    refine regn 6 hf (by decide +kernel) ?_
    refine st (mv rfl) ?_
    refine st (mv rfl) ?_
    refine st (idxD Tryd.underlying57 S3 (isR rfl) rfl (by omega) (gi_get hlt)) ?_
    refine st (ldI T3 (isR rfl)) ?_
    refine st (mv rfl) ?_
    refine st (neq rfl rfl) ?_
    refine en fun a w e' hf => ?_
    replace e := Ext.tr e e'
    replace Ho := Ho.ext e'
    clear e'
    refine tl_nil ?_
    have hsel := filter_take_len (r := r) (k := k) (fun x => x != n)
    repeat refine seq ?_
    refine ifc hf rfl (fun hb => ?_) (fun hb => ?_)
    · replace hf := hf.keep [0, 1, 5, 6]
      dsimp only [keep, List.filterMap, look, Nat.beq, Option.map] at hf
      repeat refine seq ?_
      refine regn 6 hf (by decide +kernel) ?_
      refine st (mv rfl) ?_
      refine st (mv rfl) ?_
      refine st (mv rfl) ?_
      refine st (idxD Tryd.underlying57 S3 (isR rfl) rfl (by omega) (gi_get hlt)) ?_
      refine st (ldI T3 (isR rfl)) ?_
      refine st (bsl1 Tryd.underlying57 I3 rfl (by decide) rfl Ho.avs (isI rfl)) ?_
      refine en fun a w e' hf => ?_
      replace e := Ext.tr e e'
      replace Ho := Ho.ext e'
      clear e'
      haveI hin : ∀ G0, InR (GB W G0) _ := OwR.inGB Ho (Nat.le_refl _)
      refine tl_app Tryd.underlying57 I3 rfl rfl hf (by decide) rfl Ho (isR rfl) (by simp only [List.length_singleton]; omega) (by simp only [List.length_singleton, maxLen]; omega) fun a v w hg hat Hn hf => ?_
      replace e := e.gro hg (Ho.row (Nat.le_refl _))
      replace Ho := Hn; clear Hn hg hat hin
      refine tl_as hf rfl (by decide) fun a hf => ?_
      refine tl_nil ?_
      try simp only [Exit.then, Exit.inBlock, ↓reduceIte]
      repeat refine seq ?_
      refine regn 2 hf (by decide +kernel) ?_
      refine st (mv rfl) ?_
      refine st ((add rfl rfl (by omega)).eq (congrArg (Value.int .i64) (show (k : Int) + 1 = ((k + 1 : Nat) : Int) from rfl))) ?_
      refine en fun a w e' hf => ?_
      replace e := Ext.tr e e'
      replace Ho := Ho.ext e'
      clear e'
      refine tl_as hf rfl (by decide) fun a hf => ?_
      refine tl_nil ?_
      replace hf := hf.keep [0, 1, 5, 6]
      dsimp only [keep, List.filterMap, look, Nat.beq, Option.map] at hf
      refine ⟨_, ?_, k + 1, _, rfl, by omega, hf, e, ?_⟩
      · omega
      rw [filter_take _ hlt, if_pos hb]; exact Ho
    · refine wskip ?_
      try simp only [Exit.then, Exit.inBlock, ↓reduceIte]
      try simp only [Exit.then, Exit.inBlock, ↓reduceIte]
      repeat refine seq ?_
      refine regn 2 hf (by decide +kernel) ?_
      refine st (mv rfl) ?_
      refine st ((add rfl rfl (by omega)).eq (congrArg (Value.int .i64) (show (k : Int) + 1 = ((k + 1 : Nat) : Int) from rfl))) ?_
      refine en fun a w e' hf => ?_
      replace e := Ext.tr e e'
      replace Ho := Ho.ext e'
      clear e'
      refine tl_as hf rfl (by decide) fun a hf => ?_
      refine tl_nil ?_
      replace hf := hf.keep [0, 1, 5, 6]
      dsimp only [keep, List.filterMap, look, Nat.beq, Option.map] at hf
      refine ⟨_, ?_, k + 1, _, rfl, by omega, hf, e, ?_⟩
      · omega
      rw [filter_take _ hlt, if_neg (by rw [hb]; decide)]; exact Ho
  · obtain rfl : k = r.length := by have := of_decide_eq_false hc; (try dsimp only at this); omega
    clear hc
    simp only [Exit.then, Exit.inBlock, ↓reduceIte]
    repeat refine seq ?_
    refine regn 1 hf (by decide +kernel) ?_
    refine st (mv rfl) ?_
    refine en fun a w e' hf => ?_
    replace e := Ext.tr e e'
    replace Ho := Ho.ext e'
    clear e'
    refine tl_as hf rfl (by decide) fun a hf => ?_
    refine tl_nil ?_
    refine wret ?_
    try simp only [Exit.then, Exit.inBlock]
    refine ret1 rfl hf rfl ?_
    rintro _ rfl
    exact ⟨_, rfl, e, (by rw [List.take_length] at Ho; exact Ho.sl)⟩

theorem splitR_spec {G G2 : Nat → Prop} {t : List (Int × BS)} (hl : t.length ≤ 1000) (V : Vals (toT t)) (S : BS) (p : Int) (v u : Value) (W : World) (h : (Dv rtE G2 (toT t)).p v W) (h' : (Dv (slE intE) G2 (toL S)).p u W) (hG : ∀ b, G b → b < W.heap.size) (hin : ∀ i, S.getLsbD i = true → i < t.length) :
    Calls Tryd.prog 87 #[v, u, I p] W (Post (Dv (slE (slE intE)) G ((partsB (adjL t) (del S p)).map toL)) W) := by
  have F := fo_tree hl V
  have hTn : (trOf (toT t) V).n = t.length := toT_len t
  have hin' : ∀ i, S.getLsbD i = true → i < (trOf (toT t) V).n := fun i hi => by rw [hTn]; exact hin i hi
  have hcl : ∀ {X : BS}, card X ≤ 1024 := fun {X} => card_le_n fun i hi => bit_lt hi
  have hdin := del_in hin' p
  obtain ⟨hres, hrl, _, _⟩ := parts_some F hdin
  have hcn := card_le_n hdin
  have hle := F.le
  have hSl : (toL S).length ≤ 4096 := by rw [toL_card]; have : card S ≤ 1024 := hcl; omega
  obtain ⟨res, hresE⟩ : ∃ res, partsB (adjL t) (del S p) = res := ⟨_, rfl⟩
  rw [hresE] at hres hrl
  rw [hresE]
  have hrl2 : res.length ≤ 1024 := by have : card (del S p) ≤ 1024 := hcl; omega
  refine enter (args := [v, u, I p]) (As := [Dv rtE (GB W Go.Mono.G0) (toT t), Dv (slE intE) (GB W Go.Mono.G0) (toL S), E (I p)]) Tryd.func87 rfl Tryd.ntmps87 (Nat.le_of_ble_eq_true rfl) ?_ (fun a hf => ?_) (Nat.le_of_ble_eq_true rfl)
  rotate_left
  dsimp only [params, Nat.reduceAdd] at hf
  rotate_right
  · exact arg3 (Dv.toB (Dv.weak h fun b _ hb => hb.elim)) (Dv.toB (Dv.weak h' fun b _ hb => hb.elim)) rfl
  have e := Ext.rfl' W
  repeat refine seq ?_
  refine regn0 ?_
  refine tl_as hf rfl (by decide) fun a hf => ?_
  refine tl_nil ?_
  repeat refine seq ?_
  refine regn 3 hf (by decide +kernel) ?_
  refine st (mv rfl) ?_
  refine st (mv rfl) ?_
  refine st (call2 (A := Dv (slE intE) (fun b => b < W.heap.size) (toL (del S p))) En135 rfl rfl (fun v u w he h h' => by cases h'; rw [← toL_del S p]; exact without2_spec _ _ _ w h (fun b hb => Nat.lt_of_lt_of_le hb he.size) hSl)) ?_
  refine en fun a w e' hf => ?_
  replace e := Ext.tr e e'
  clear e'
  refine tl_as hf rfl (by decide) fun a hf => ?_
  refine tl_nil ?_
  replace hf := hf.keep [0, 7]
  dsimp only [keep, List.filterMap, look, Nat.beq, Option.map] at hf
  repeat refine seq ?_
  refine regn0 ?_
  refine tl_as hf rfl (by decide) fun a hf => ?_
  refine tl_nil ?_
  obtain ⟨lv, HL, hf⟩ := hf.fix 7 rfl
  obtain ⟨tv, HT, hf⟩ := hf.fix 0 rfl
  have Ho : OwR (slE intE) 57 W.heap.size G w [] (.slice none 0 0) := OwR.nil (slE intE) _ e.size hG
  replace hf := hf.keep [0, 7, 8]
  dsimp only [keep, List.filterMap, look, Nat.beq, Option.map] at hf
  repeat refine seq ?_
  refine blk (loopN (fun r a w => ∃ (L : BS) (xs rest : List BS) (u lv : Value) (N7 : Nat), splitF (adjL t) r L = some rest ∧ xs ++ rest = res ∧ (∀ i, L.getLsbD i = true → i < t.length) ∧ Fr 30 a w [(0, E tv), (7, E lv), (8, E u)] ∧ (Ext W w ∧ (Dv rtE (GB W Go.Mono.G0) (toT t)).p tv w) ∧ (Dv (slE intE) (fun b => b < N7) (toL L)).p lv w ∧ (∀ b, u.ownBlock = some b → b < N7) ∧ OwR (slE intE) 57 W.heap.size G w (xs.map toL) u) (1 + (adjL t).length) ⟨del S p, [], res, _, lv, _, hres, rfl, fun i hi => by rw [← hTn]; exact hdin i hi, hf, ⟨e, HT⟩, HL, (fun b hb => by simp [Value.ownBlock] at hb), Ho⟩ ?_)
  clear hf e HT HL Ho hres hdin hcn
  rintro r a w ⟨L, xs, rest, u, lv, N7, hr, hxs, hL, hf, ⟨e, HT⟩, HL, hu7, Ho⟩
  have hxl : xs.length ≤ 1024 := by
    have h1 := congrArg List.length hxs
    rw [List.length_append] at h1
    omega
  have hLl : (toL L).length ≤ 4096 := by rw [toL_card]; have : card L ≤ 1024 := hcl; omega
  cases hm : minOf L with
  | none =>
    have h0 : (toL L).length = 0 := by rw [minOf_none.1 hm, toL_zero]; rfl
    repeat refine seq ?_
    refine regn 3 hf (by decide +kernel) ?_
    refine st (mv rfl) ?_
    refine st (lenD Tryd.underlying57 (isE rfl HL)) ?_
    refine st ((gtr rfl rfl).eq (congrArg Value.bool (decide_eq_false (by rw [h0]; decide)))) ?_
    refine en fun a w e' hf => ?_
    replace HT := Dv.ex HT e'
    replace HL := Dv.ex HL e'
    replace e := Ext.tr e e'
    replace Ho := Ho.ext e'
    clear e'
    refine tl_nil ?_
    repeat refine seq ?_
    refine ifc hf rfl (fun h => by cases h) (fun _ => ?_)
    refine wexit ?_
    simp only [Exit.then, Exit.inBlock, ↓reduceIte]
    rw [splitF_nil hm] at hr
    cases hr
    rw [List.append_nil] at hxs
    subst hxs
    replace hf := hf.keep [8]
    dsimp only [keep, List.filterMap, look, Nat.beq, Option.map] at hf
    repeat refine seq ?_
    refine regn 1 hf (by decide +kernel) ?_
    refine st (mv rfl) ?_
    refine en fun a w e' hf => ?_
    replace HT := Dv.ex HT e'
    replace HL := Dv.ex HL e'
    replace e := Ext.tr e e'
    replace Ho := Ho.ext e'
    clear e'
    refine tl_as hf rfl (by decide) fun a hf => ?_
    refine tl_nil ?_
    refine wret ?_
    try simp only [Exit.then, Exit.inBlock]
    refine ret1 rfl hf rfl ?_
    rintro _ rfl
    exact ⟨_, rfl, e, Ho.sl⟩
  | some k =>
    have hkL := minOf_mem hm
    have gk := toL_get (first_ex hm)
    have h0 : 0 < (toL L).length := by rw [toL_card]; exact card_pos hkL
    obtain ⟨r', rfl⟩ : ∃ r', r = r' + 1 := by
      cases r with
      | zero => rw [splitF_zero hm] at hr; cases hr
      | succ r' => exact ⟨r', rfl⟩
    rw [splitF_cons hm] at hr
    obtain ⟨C, hC⟩ : ∃ C, compB (adjL t) L k = C := ⟨_, rfl⟩
    rw [hC] at hr
    obtain ⟨rest', hr', rfl⟩ : ∃ rest', splitF (adjL t) r' (L &&& ~~~C) = some rest' ∧ rest = C :: rest' := by
      cases hx : splitF (adjL t) r' (L &&& ~~~C) with
      | none => rw [hx] at hr; cases hr
      | some l => rw [hx] at hr; cases hr; exact ⟨l, rfl, rfl⟩
    clear hr
    have hCl : (toL C).length ≤ 4096 := by rw [toL_card]; have : card C ≤ 1024 := hcl; omega
    repeat refine seq ?_
    refine regn 3 hf (by decide +kernel) ?_
    refine st (mv rfl) ?_
    refine st (lenD Tryd.underlying57 (isE rfl HL)) ?_
    refine st ((gtr rfl rfl).eq (congrArg Value.bool (decide_eq_true (by omega)))) ?_
    refine en fun a w e' hf => ?_
    replace HT := Dv.ex HT e'
    replace HL := Dv.ex HL e'
    replace e := Ext.tr e e'
    replace Ho := Ho.ext e'
    clear e'
    refine tl_nil ?_
    repeat refine seq ?_
    refine ifc hf rfl (fun _ => ?_) (fun h => by cases h)
    refine wskip ?_
    try simp only [Exit.then, Exit.inBlock, ↓reduceIte]
    repeat refine seq ?_
    refine blk ?_
    replace hf := hf.keep [0, 7, 8]
    dsimp only [keep, List.filterMap, look, Nat.beq, Option.map] at hf
    obtain ⟨N9, hN9⟩ : ∃ N9, N9 = w.heap.size := ⟨_, rfl⟩
    have hu9 : ∀ b, u.ownBlock = some b → b < N9 := fun b hb => by rw [hN9]; exact (Ho.lt hb).2
    have hWw := e.size
    repeat refine seq ?_
    refine regn 6 hf (by decide +kernel) ?_
    refine st (mv rfl) ?_
    refine st (mv rfl) ?_
    refine st (mv rfl) ?_
    refine st (idxD (j := 0) Tryd.underlying57 S3 (isE rfl HL) rfl rfl gk) ?_
    refine st (ldI T3 (isR rfl)) ?_
    refine st (call3 (A := Dv (slE intE) (fun b => b < N9) (toL C)) En128 rfl rfl rfl (fun v u s w he h h' h'' => by cases h; cases h'; cases h''; rw [← hC]; exact come_spec (G2 := Go.Mono.G0) hl V L k _ _ w (Dv.weak (Dv.ex HT he) fun b _ hb => hb.elim) (Dv.weak (Dv.ex HL he) fun b _ hb => hb.elim) (fun b hb => by have := he.size; omega) hL hkL)) ?_
    refine en fun a w e' hf => ?_
    replace HT := Dv.ex HT e'
    replace HL := Dv.ex HL e'
    replace e := Ext.tr e e'
    replace Ho := Ho.ext e'
    clear e'
    refine tl_as hf rfl (by decide) fun a hf => ?_
    refine tl_nil ?_
    obtain ⟨pv, HP, hf⟩ := hf.fix 9 rfl
    have hWN : W.heap.size ≤ N9 := by omega
    have hGN : ∀ b, GO G u b → b < N9 := fun b hb => hb.elim (fun hb => Nat.lt_of_lt_of_le (hG b hb) hWN) (hu9 b)
    clear hN9
    replace hf := hf.keep [0, 7, 8, 9]
    dsimp only [keep, List.filterMap, look, Nat.beq, Option.map] at hf
    repeat refine seq ?_
    refine regn 3 hf (by decide +kernel) ?_
    refine st (mv rfl) ?_
    refine st (mv rfl) ?_
    refine st (bsl1 (e := slE intE) (G := GO G u) Tryd.underlying95 I57 rfl (by decide) rfl Ho.avs (isE rfl (Dv.weak HP fun b _ hb => hGN b hb))) ?_
    refine en fun a w e' hf => ?_
    replace HT := Dv.ex HT e'
    replace HL := Dv.ex HL e'
    replace HP := Dv.ex HP e'
    replace e := Ext.tr e e'
    replace Ho := Ho.ext e'
    clear e'
    refine tl_app Tryd.underlying95 I57 rfl rfl hf (by decide) rfl Ho (isR rfl) (by simp only [List.length_singleton, List.length_map]; omega) (by simp only [List.length_singleton, List.length_map, maxLen]; omega) fun a u2 w hg hat Hn hf => ?_
    have hrow := Ho.row (Nat.le_refl _)
    replace e := e.gro hg hrow
    replace HT := Dv.gro HT hg (fun b hb => .inr (hrow b hb))
    replace HL := Dv.gro HL hg (fun b hb => hu7 b hb)
    replace HP := Dv.gro HP hg (fun b hb => hu9 b hb)
    replace Ho := Hn
    clear Hn hg hat hrow hu9 hGN
    refine tl_as hf rfl (by decide) fun a hf => ?_
    refine tl_nil ?_
    replace hf := hf.keep [0, 7, 8, 9]
    dsimp only [keep, List.filterMap, look, Nat.beq, Option.map] at hf
    obtain ⟨N8, hN8⟩ : ∃ N8, N8 = w.heap.size := ⟨_, rfl⟩
    have hu8 : ∀ b, u2.ownBlock = some b → b < N8 := fun b hb => by rw [hN8]; exact (Ho.lt hb).2
    repeat refine seq ?_
    refine regn 3 hf (by decide +kernel) ?_
    refine st (mv rfl) ?_
    refine st (mv rfl) ?_
    refine st (call2 (A := Dv (slE intE) (fun b => b < N8) (toL (L &&& ~~~C))) En136 rfl rfl (fun v u w he h h' => by cases h; cases h'; rw [← toL_minus L C]; exact minus2_spec (G2 := Go.Mono.G0) _ _ _ _ w (Dv.weak (Dv.ex HL he) fun b _ hb => hb.elim) (Dv.weak (Dv.ex HP he) fun b _ hb => hb.elim) (fun b hb => by have := he.size; omega) hLl hCl)) ?_
    refine en fun a w e' hf => ?_
    replace HT := Dv.ex HT e'
    replace HL := Dv.ex HL e'
    replace HP := Dv.ex HP e'
    replace e := Ext.tr e e'
    replace Ho := Ho.ext e'
    clear e'
    refine tl_as hf rfl (by decide) fun a hf => ?_
    refine tl_nil ?_
    obtain ⟨lv2, HL2, hf⟩ := hf.fix 7 rfl
    try simp only [Exit.then, Exit.inBlock, ↓reduceIte]
    replace hf := hf.keep [0, 7, 8]
    dsimp only [keep, List.filterMap, look, Nat.beq, Option.map] at hf
    exact ⟨r', Nat.lt_succ_self _, L &&& ~~~C, xs ++ [C], rest', u2, lv2, N8, hr', by rw [List.append_assoc]; exact hxs, fun i hi => hL i ((bit_diff _ _ i).1 hi).1, hf, ⟨e, HT⟩, HL2, hu8, by rw [List.map_append]; exact Ho⟩
end Go.Mono
