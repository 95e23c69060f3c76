/-
  Walks and plain facts, in this order: R01, R01b, R26, R26b, Conv, Bag, MonoX, Mono7, Below, Mono8.
  No condition.
-/
import Derived.Test.YtnhbkdliljcedaaDoorWA
import Derived.Laws.Cover3
set_option linter.unusedVariables false
set_option linter.unusedSimpArgs false
set_option linter.unusedVariables false
namespace Go.Mono
open Go Go.Proofs Go.RowKit

def hasL (r : List Int) (n : Int) : Bool := decide (n ∈ r)

theorem hasL_spec {G : Nat → Prop} (r : List Int) (n : Int) (v : Value) (W : World) (h : (Dv (slE intE) G r).p v W) (hl : r.length ≤ 4096) : Calls Tryd.prog 84 #[v, I n] W (Post (E (B (hasL r n))) W) := by
  refine enter (args := [v, I n]) (As := [Dv (slE intE) (GB W G) r, E (I n)]) Tryd.func84 rfl Tryd.ntmps84 (Nat.le_of_ble_eq_true rfl) ?_ (fun a hf => ?_) (Nat.le_of_ble_eq_true rfl)
  rotate_left
  dsimp only [params, Nat.reduceAdd] at hf
  rotate_right
  · exact arg2 (Dv.toB h) rfl
  have e := Ext.rfl' W
  repeat refine seq ?_
  refine regn0 ?_
  refine tl_as hf rfl (by decide) fun a hf => ?_
  refine tl_nil ?_
  repeat refine seq ?_
  refine regn0 ?_
  refine tl_as hf rfl (by decide) fun a hf => ?_
  refine tl_nil ?_
  have Ho : n ∉ r.take 0 := by simp
  replace hf := hf.keep [0, 1, 5]
  dsimp only [keep, List.filterMap, look, Nat.beq, Option.map] at hf
  repeat refine seq ?_
  refine blk (loopN (fun r0 a w => ∃ (k : Nat) , r0 = r.length - k ∧ k ≤ r.length ∧ Fr 18 a w [(0, Dv (slE intE) (GB W G) r), (1, E (I n)), (5, E (I k))] ∧ Ext W w ∧ n ∉ r.take k) r.length ⟨0, rfl, by omega, hf, e, Ho⟩ ?_)
  clear hf e; try clear Ho
  rintro r0 a w ⟨k, rfl, hk, hf, e, Ho⟩
  repeat refine seq ?_
  refine regn 4 hf (by decide +kernel) ?_
  refine st (mv rfl) ?_
  refine st (mv rfl) ?_
  refine st (lenD Tryd.underlying57 (isR rfl)) ?_
  refine st (lss rfl rfl) ?_
  refine en fun a w e' hf => ?_
  replace e := Ext.tr e e'
  clear e'
  refine tl_nil ?_
  repeat refine seq ?_
  refine ifc hf rfl (fun hc => wskip ?_) (fun hc => wexit ?_)
  rotate_left
  rotate_left
  · have hlt : k < r.length := by have := of_decide_eq_true hc; (try dsimp only at this); omega
    clear hc
    replace hf := hf.keep [0, 1, 5]
    dsimp only [keep, List.filterMap, look, Nat.beq, Option.map] at hf
    repeat refine seq ?_
    refine blk ?_
    repeat refine seq ?_
    refine regn 6 hf (by decide +kernel) ?_
    refine st (mv rfl) ?_
    refine st (mv rfl) ?_
    refine st (idxD Tryd.underlying57 S3 (isR rfl) rfl (by omega) (gi_get hlt)) ?_
    refine st (ldI T3 (isR rfl)) ?_
    refine st (mv rfl) ?_
    refine st (eql rfl rfl) ?_
    refine en fun a w e' hf => ?_
    replace e := Ext.tr e e'
    clear e'
    refine tl_nil ?_
    repeat refine seq ?_
    refine ifc hf rfl (fun hb => ?_) (fun hb => ?_)
    · repeat refine seq ?_
      refine regn0 ?_
      refine tl_as hf rfl (by decide) fun a hf => ?_
      refine tl_nil ?_
      have hm := List.mem_of_getElem? (gi_get hlt)
      have hb' : gi r k = n := by simpa using hb
      refine wret ?_
      try simp only [Exit.then, Exit.inBlock]
      refine ret1 rfl hf rfl ?_
      rintro _ rfl
      exact ⟨_, rfl, e, congrArg B (by simp [hasL, ← hb', hm])⟩
    · refine wskip ?_
      try simp only [Exit.then, Exit.inBlock, ↓reduceIte]
      try simp only [Exit.then, Exit.inBlock, ↓reduceIte]
      repeat refine seq ?_
      refine regn 2 hf (by decide +kernel) ?_
      refine st (mv rfl) ?_
      refine st ((add rfl rfl (by omega)).eq (congrArg (Value.int .i64) (show (k : Int) + 1 = ((k + 1 : Nat) : Int) from rfl))) ?_
      refine en fun a w e' hf => ?_
      replace e := Ext.tr e e'
      clear e'
      refine tl_as hf rfl (by decide) fun a hf => ?_
      refine tl_nil ?_
      replace hf := hf.keep [0, 1, 5]
      dsimp only [keep, List.filterMap, look, Nat.beq, Option.map] at hf
      refine ⟨_, ?_, k + 1, rfl, by omega, hf, e, ?_⟩
      · omega
      rw [gi_take hlt]
      have hb' : gi r k ≠ n := by simpa using hb
      simp only [List.mem_append, List.mem_singleton, not_or]
      exact ⟨Ho, Ne.symm hb'⟩
  · obtain rfl : k = r.length := by have := of_decide_eq_false hc; (try dsimp only at this); omega
    clear hc
    simp only [Exit.then, Exit.inBlock, ↓reduceIte]
    repeat refine seq ?_
    refine regn0 ?_
    refine tl_as hf rfl (by decide) fun a hf => ?_
    refine tl_nil ?_
    refine wret ?_
    try simp only [Exit.then, Exit.inBlock]
    refine ret1 rfl hf rfl ?_
    rintro _ rfl
    exact ⟨_, rfl, e, congrArg B (by rw [List.take_length] at Ho; simp [hasL, Ho])⟩

theorem and_spec {G : Nat → Prop} (r s : List Int) (v u : Value) (W : World) (h : (Dv (slE intE) G r).p v W) (h' : (Dv (slE intE) G s).p u W) (hG : ∀ b, G b → b < W.heap.size) (hl : r.length ≤ 4096) (hs : s.length ≤ 4096) :
    Calls Tryd.prog 114 #[v, u] W (Post (Dv (slE intE) G (r.filter (hasL s))) W) := by
  refine enter (args := [v, u]) (As := [Dv (slE intE) (GB W G) r, Dv (slE intE) (GB W G) s]) Tryd.func114 rfl Tryd.ntmps114 (Nat.le_of_ble_eq_true rfl) ?_ (fun a hf => ?_) (Nat.le_of_ble_eq_true rfl)
  rotate_left
  dsimp only [params, Nat.reduceAdd] at hf
  rotate_right
  · exact arg2 (Dv.toB h) (Dv.toB h')
  have e := Ext.rfl' W
  repeat refine seq ?_
  refine regn0 ?_
  refine tl_as hf rfl (by decide) fun a hf => ?_
  refine tl_nil ?_
  repeat refine seq ?_
  refine regn0 ?_
  refine tl_bsl0 W.heap.size G intE Tryd.underlying57 S3 hf (by decide) e.size hG fun a v w e' hov Ho hf => ?_
  replace e := Ext.tr e e'
  clear e'
  refine tl_as hf rfl (by decide) fun a hf => ?_
  refine tl_nil ?_
  repeat refine seq ?_
  refine regn0 ?_
  refine tl_as hf rfl (by decide) fun a hf => ?_
  refine tl_nil ?_
  replace hf := hf.keep [0, 1, 5, 6]
  dsimp only [keep, List.filterMap, look, Nat.beq, Option.map] at hf
  replace hf := hf.keep [0, 1, 5, 6]
  dsimp only [keep, List.filterMap, look, Nat.beq, Option.map] at hf
  repeat refine seq ?_
  refine blk (loopN (fun r0 a w => ∃ (k : Nat) (u : Value), r0 = r.length - k ∧ k ≤ r.length ∧ Fr 28 a w [(0, Dv (slE intE) (GB W G) r), (1, Dv (slE intE) (GB W G) s), (5, E u), (6, E (I k))] ∧ Ext W w ∧ OwR intE 3 W.heap.size G w ((r.take k).filter (hasL s)) u) r.length ⟨0, _, rfl, by omega, hf, e, (by simpa using Ho)⟩ ?_)
  clear hf e; try clear Ho
  rintro r0 a w ⟨k, u, rfl, hk, hf, e, Ho⟩
  repeat refine seq ?_
  refine regn 4 hf (by decide +kernel) ?_
  refine st (mv rfl) ?_
  refine st (mv rfl) ?_
  refine st (lenD Tryd.underlying57 (isR rfl)) ?_
  refine st (lss rfl rfl) ?_
  refine en fun a w e' hf => ?_
  replace e := Ext.tr e e'
  replace Ho := Ho.ext e'
  clear e'
  refine tl_nil ?_
  repeat refine seq ?_
  refine ifc hf rfl (fun hc => wskip ?_) (fun hc => wexit ?_)
  rotate_left
  rotate_left
  · have hlt : k < r.length := by have := of_decide_eq_true hc; (try dsimp only at this); omega
    clear hc
    replace hf := hf.keep [0, 1, 5, 6]
    dsimp only [keep, List.filterMap, look, Nat.beq, Option.map] at hf
    repeat refine seq ?_
    refine blk ?_
    repeat refine seq ?_
    refine regn 6 hf (by decide +kernel) ?_
    refine st (mv rfl) ?_
    refine st (mv rfl) ?_
    refine st (mv rfl) ?_
    refine st (idxD Tryd.underlying57 S3 (isR rfl) rfl (by omega) (gi_get hlt)) ?_
    refine st (ldI T3 (isR rfl)) ?_
    refine st (call2 En84 rfl rfl (fun v u w _ h h' => by cases h'; exact hasL_spec _ _ _ _ h hs)) ?_
    refine en fun a w e' hf => ?_
    replace e := Ext.tr e e'
    replace Ho := Ho.ext e'
    clear e'
    refine tl_nil ?_
    have hsel := filter_take_len (r := r) (k := k) (hasL s)
    repeat refine seq ?_
    refine ifc hf rfl (fun hb => ?_) (fun hb => ?_)
    · replace hf := hf.keep [0, 1, 5, 6]
      dsimp only [keep, List.filterMap, look, Nat.beq, Option.map] at hf
      repeat refine seq ?_
      refine regn 6 hf (by decide +kernel) ?_
      refine st (mv rfl) ?_
      refine st (mv rfl) ?_
      refine st (mv rfl) ?_
      refine st (idxD Tryd.underlying57 S3 (isR rfl) rfl (by omega) (gi_get hlt)) ?_
      refine st (ldI T3 (isR rfl)) ?_
      refine st (bsl1 Tryd.underlying57 I3 rfl (by decide) rfl Ho.avs (isI rfl)) ?_
      refine en fun a w e' hf => ?_
      replace e := Ext.tr e e'
      replace Ho := Ho.ext e'
      clear e'
      haveI hin : ∀ G0, InR (GB W G0) _ := OwR.inGB Ho (Nat.le_refl _)
      refine tl_app Tryd.underlying57 I3 rfl rfl hf (by decide) rfl Ho (isR rfl) (by simp only [List.length_singleton]; omega) (by simp only [List.length_singleton, maxLen]; omega) fun a v w hg hat Hn hf => ?_
      replace e := e.gro hg (Ho.row (Nat.le_refl _))
      replace Ho := Hn; clear Hn hg hat hin
      refine tl_as hf rfl (by decide) fun a hf => ?_
      refine tl_nil ?_
      try simp only [Exit.then, Exit.inBlock, ↓reduceIte]
      repeat refine seq ?_
      refine regn 2 hf (by decide +kernel) ?_
      refine st (mv rfl) ?_
      refine st ((add rfl rfl (by omega)).eq (congrArg (Value.int .i64) (show (k : Int) + 1 = ((k + 1 : Nat) : Int) from rfl))) ?_
      refine en fun a w e' hf => ?_
      replace e := Ext.tr e e'
      replace Ho := Ho.ext e'
      clear e'
      refine tl_as hf rfl (by decide) fun a hf => ?_
      refine tl_nil ?_
      replace hf := hf.keep [0, 1, 5, 6]
      dsimp only [keep, List.filterMap, look, Nat.beq, Option.map] at hf
      refine ⟨_, ?_, k + 1, _, rfl, by omega, hf, e, ?_⟩
      · omega
      rw [filter_take _ hlt, if_pos hb]; exact Ho
    · refine wskip ?_
      try simp only [Exit.then, Exit.inBlock, ↓reduceIte]
      try simp only [Exit.then, Exit.inBlock, ↓reduceIte]
      repeat refine seq ?_
      refine regn 2 hf (by decide +kernel) ?_
      refine st (mv rfl) ?_
      refine st ((add rfl rfl (by omega)).eq (congrArg (Value.int .i64) (show (k : Int) + 1 = ((k + 1 : Nat) : Int) from rfl))) ?_
      refine en fun a w e' hf => ?_
      replace e := Ext.tr e e'
      replace Ho := Ho.ext e'
      clear e'
      refine tl_as hf rfl (by decide) fun a hf => ?_
      refine tl_nil ?_
      replace hf := hf.keep [0, 1, 5, 6]
      dsimp only [keep, List.filterMap, look, Nat.beq, Option.map] at hf
      refine ⟨_, ?_, k + 1, _, rfl, by omega, hf, e, ?_⟩
      · omega
      rw [filter_take _ hlt, if_neg (by simp [hb])]; exact Ho
  · obtain rfl : k = r.length := by have := of_decide_eq_false hc; (try dsimp only at this); omega
    clear hc
    simp only [Exit.then, Exit.inBlock, ↓reduceIte]
    repeat refine seq ?_
    refine regn 1 hf (by decide +kernel) ?_
    refine st (mv rfl) ?_
    refine en fun a w e' hf => ?_
    replace e := Ext.tr e e'
    replace Ho := Ho.ext e'
    clear e'
    refine tl_as hf rfl (by decide) fun a hf => ?_
    refine tl_nil ?_
    refine wret ?_
    try simp only [Exit.then, Exit.inBlock]
    refine ret1 rfl hf rfl ?_
    rintro _ rfl
    exact ⟨_, rfl, e, (by rw [List.take_length] at Ho; exact Ho.sl)⟩

theorem minusL_spec {G : Nat → Prop} (r s : List Int) (v u : Value) (W : World) (h : (Dv (slE intE) G r).p v W) (h' : (Dv (slE intE) G s).p u W) (hG : ∀ b, G b → b < W.heap.size) (hl : r.length ≤ 4096) (hs : s.length ≤ 4096) :
    Calls Tryd.prog 136 #[v, u] W (Post (Dv (slE intE) G (r.filter fun x => !hasL s x)) W) := by
  refine enter (args := [v, u]) (As := [Dv (slE intE) (GB W G) r, Dv (slE intE) (GB W G) s]) Tryd.func136 rfl Tryd.ntmps136 (Nat.le_of_ble_eq_true rfl) ?_ (fun a hf => ?_) (Nat.le_of_ble_eq_true rfl)
  rotate_left
  dsimp only [params, Nat.reduceAdd] at hf
  rotate_right
  · exact arg2 (Dv.toB h) (Dv.toB h')
  have e := Ext.rfl' W
  repeat refine seq ?_
  refine regn0 ?_
  refine tl_as hf rfl (by decide) fun a hf => ?_
  refine tl_nil ?_
  repeat refine seq ?_
  refine regn0 ?_
  refine tl_bsl0 W.heap.size G intE Tryd.underlying57 S3 hf (by decide) e.size hG fun a v w e' hov Ho hf => ?_
  replace e := Ext.tr e e'
  clear e'
  refine tl_as hf rfl (by decide) fun a hf => ?_
  refine tl_nil ?_
  repeat refine seq ?_
  refine regn0 ?_
  refine tl_as hf rfl (by decide) fun a hf => ?_
  refine tl_nil ?_
  replace hf := hf.keep [0, 1, 5, 6]
  dsimp only [keep, List.filterMap, look, Nat.beq, Option.map] at hf
  repeat refine seq ?_
  refine blk (loopN (fun r0 a w => ∃ (k : Nat) (u : Value), r0 = r.length - k ∧ k ≤ r.length ∧ Fr 29 a w [(0, Dv (slE intE) (GB W G) r), (1, Dv (slE intE) (GB W G) s), (5, E u), (6, E (I k))] ∧ Ext W w ∧ OwR intE 3 W.heap.size G w ((r.take k).filter fun x => !hasL s x) u) r.length ⟨0, _, rfl, by omega, hf, e, (by simpa using Ho)⟩ ?_)
  clear hf e; try clear Ho
  rintro r0 a w ⟨k, u, rfl, hk, hf, e, Ho⟩
  repeat refine seq ?_
  refine regn 4 hf (by decide +kernel) ?_
  refine st (mv rfl) ?_
  refine st (mv rfl) ?_
  refine st (lenD Tryd.underlying57 (isR rfl)) ?_
  refine st (lss rfl rfl) ?_
  refine en fun a w e' hf => ?_
  replace e := Ext.tr e e'
  replace Ho := Ho.ext e'
  clear e'
  refine tl_nil ?_
  repeat refine seq ?_
  refine ifc hf rfl (fun hc => wskip ?_) (fun hc => wexit ?_)
  rotate_left
  rotate_left
  · have hlt : k < r.length := by have := of_decide_eq_true hc; (try dsimp only at this); omega
    clear hc
    replace hf := hf.keep [0, 1, 5, 6]
    dsimp only [keep, List.filterMap, look, Nat.beq, Option.map] at hf
    repeat refine seq ?_
    refine blk ?_
    repeat refine seq ?_
    refine regn 7 hf (by decide +kernel) ?_
    refine st (mv rfl) ?_
    refine st (mv rfl) ?_
    refine st (mv rfl) ?_
    refine st (idxD Tryd.underlying57 S3 (isR rfl) rfl (by omega) (gi_get hlt)) ?_
    refine st (ldI T3 (isR rfl)) ?_
    refine st (call2 En84 rfl rfl (fun v u w _ h h' => by cases h'; exact hasL_spec _ _ _ _ h hs)) ?_
    refine st (notp rfl) ?_
    refine en fun a w e' hf => ?_
    replace e := Ext.tr e e'
    replace Ho := Ho.ext e'
    clear e'
    refine tl_nil ?_
    have hsel := filter_take_len (r := r) (k := k) (fun x => !hasL s x)
    repeat refine seq ?_
    refine ifc hf rfl (fun hb => ?_) (fun hb => ?_)
    · replace hf := hf.keep [0, 1, 5, 6]
      dsimp only [keep, List.filterMap, look, Nat.beq, Option.map] at hf
      repeat refine seq ?_
      refine regn 6 hf (by decide +kernel) ?_
      refine st (mv rfl) ?_
      refine st (mv rfl) ?_
      refine st (mv rfl) ?_
      refine st (idxD Tryd.underlying57 S3 (isR rfl) rfl (by omega) (gi_get hlt)) ?_
      refine st (ldI T3 (isR rfl)) ?_
      refine st (bsl1 Tryd.underlying57 I3 rfl (by decide) rfl Ho.avs (isI rfl)) ?_
      refine en fun a w e' hf => ?_
      replace e := Ext.tr e e'
      replace Ho := Ho.ext e'
      clear e'
      haveI hin : ∀ G0, InR (GB W G0) _ := OwR.inGB Ho (Nat.le_refl _)
      refine tl_app Tryd.underlying57 I3 rfl rfl hf (by decide) rfl Ho (isR rfl) (by simp only [List.length_singleton]; omega) (by simp only [List.length_singleton, maxLen]; omega) fun a v w hg hat Hn hf => ?_
      replace e := e.gro hg (Ho.row (Nat.le_refl _))
      replace Ho := Hn; clear Hn hg hat hin
      refine tl_as hf rfl (by decide) fun a hf => ?_
      refine tl_nil ?_
      try simp only [Exit.then, Exit.inBlock, ↓reduceIte]
      repeat refine seq ?_
      refine regn 2 hf (by decide +kernel) ?_
      refine st (mv rfl) ?_
      refine st ((add rfl rfl (by omega)).eq (congrArg (Value.int .i64) (show (k : Int) + 1 = ((k + 1 : Nat) : Int) from rfl))) ?_
      refine en fun a w e' hf => ?_
      replace e := Ext.tr e e'
      replace Ho := Ho.ext e'
      clear e'
      refine tl_as hf rfl (by decide) fun a hf => ?_
      refine tl_nil ?_
      replace hf := hf.keep [0, 1, 5, 6]
      dsimp only [keep, List.filterMap, look, Nat.beq, Option.map] at hf
      refine ⟨_, ?_, k + 1, _, rfl, by omega, hf, e, ?_⟩
      · omega
      rw [filter_take _ hlt, if_pos hb]; exact Ho
    · refine wskip ?_
      try simp only [Exit.then, Exit.inBlock, ↓reduceIte]
      try simp only [Exit.then, Exit.inBlock, ↓reduceIte]
      repeat refine seq ?_
      refine regn 2 hf (by decide +kernel) ?_
      refine st (mv rfl) ?_
      refine st ((add rfl rfl (by omega)).eq (congrArg (Value.int .i64) (show (k : Int) + 1 = ((k + 1 : Nat) : Int) from rfl))) ?_
      refine en fun a w e' hf => ?_
      replace e := Ext.tr e e'
      replace Ho := Ho.ext e'
      clear e'
      refine tl_as hf rfl (by decide) fun a hf => ?_
      refine tl_nil ?_
      replace hf := hf.keep [0, 1, 5, 6]
      dsimp only [keep, List.filterMap, look, Nat.beq, Option.map] at hf
      refine ⟨_, ?_, k + 1, _, rfl, by omega, hf, e, ?_⟩
      · omega
      rw [filter_take _ hlt, if_neg (by rw [hb]; decide)]; exact Ho
  · obtain rfl : k = r.length := by have := of_decide_eq_false hc; (try dsimp only at this); omega
    clear hc
    simp only [Exit.then, Exit.inBlock, ↓reduceIte]
    repeat refine seq ?_
    refine regn 1 hf (by decide +kernel) ?_
    refine st (mv rfl) ?_
    refine en fun a w e' hf => ?_
    replace e := Ext.tr e e'
    replace Ho := Ho.ext e'
    clear e'
    refine tl_as hf rfl (by decide) fun a hf => ?_
    refine tl_nil ?_
    refine wret ?_
    try simp only [Exit.then, Exit.inBlock]
    refine ret1 rfl hf rfl ?_
    rintro _ rfl
    exact ⟨_, rfl, e, (by rw [List.take_length] at Ho; exact Ho.sl)⟩

theorem withoutL_spec {G : Nat → Prop} (r : List Int) (n : Int) (v : Value) (W : World) (h : (Dv (slE intE) G r).p v W) (hG : ∀ b, G b → b < W.heap.size) (hl : r.length ≤ 4096) :
    Calls Tryd.prog 135 #[v, I n] W (Post (Dv (slE intE) G (r.filter fun x => x != n)) W) := by
  refine enter (args := [v, I n]) (As := [Dv (slE intE) (GB W G) r, E (I n)]) Tryd.func135 rfl Tryd.ntmps135 (Nat.le_of_ble_eq_true rfl) ?_ (fun a hf => ?_) (Nat.le_of_ble_eq_true rfl)
  rotate_left
  dsimp only [params, Nat.reduceAdd] at hf
  rotate_right
  · exact arg2 (Dv.toB h) rfl
  have e := Ext.rfl' W
  repeat refine seq ?_
  refine regn0 ?_
  refine tl_as hf rfl (by decide) fun a hf => ?_
  refine tl_nil ?_
  repeat refine seq ?_
  refine regn0 ?_
  refine tl_bsl0 W.heap.size G intE Tryd.underlying57 S3 hf (by decide) e.size hG fun a v w e' hov Ho hf => ?_
  replace e := Ext.tr e e'
  clear e'
  refine tl_as hf rfl (by decide) fun a hf => ?_
  refine tl_nil ?_
  repeat refine seq ?_
  refine regn0 ?_
  refine tl_as hf rfl (by decide) fun a hf => ?_
  refine tl_nil ?_
  replace hf := hf.keep [0, 1, 5, 6]
  dsimp only [keep, List.filterMap, look, Nat.beq, Option.map] at hf
  repeat refine seq ?_
  refine blk (loopN (fun r0 a w => ∃ (k : Nat) (u : Value), r0 = r.length - k ∧ k ≤ r.length ∧ Fr 28 a w [(0, Dv (slE intE) (GB W G) r), (1, E (I n)), (5, E u), (6, E (I k))] ∧ Ext W w ∧ OwR intE 3 W.heap.size G w ((r.take k).filter fun x => x != n) u) r.length ⟨0, _, rfl, by omega, hf, e, (by simpa using Ho)⟩ ?_)
  clear hf e; try clear Ho
  rintro r0 a w ⟨k, u, rfl, hk, hf, e, Ho⟩
  repeat refine seq ?_
  refine regn 4 hf (by decide +kernel) ?_
  refine st (mv rfl) ?_
  refine st (mv rfl) ?_
  refine st (lenD Tryd.underlying57 (isR rfl)) ?_
  refine st (lss rfl rfl) ?_
  refine en fun a w e' hf => ?_
  replace e := Ext.tr e e'
  replace Ho := Ho.ext e'
  clear e'
  refine tl_nil ?_
  repeat refine seq ?_
  refine ifc hf rfl (fun hc => wskip ?_) (fun hc => wexit ?_)
  rotate_left
  rotate_left
  · have hlt : k < r.length := by have := of_decide_eq_true hc; (try dsimp only at this); omega
    clear hc
    replace hf := hf.keep [0, 1, 5, 6]
    dsimp only [keep, List.filterMap, look, Nat.beq, Option.map] at hf
    repeat refine seq ?_
    refine blk ?_
    repeat refine seq ?_
    refine regn 6 hf (by decide +kernel) ?_
    refine st (mv rfl) ?_
    refine st (mv rfl) ?_
    refine st (idxD Tryd.underlying57 S3 (isR rfl) rfl (by omega) (gi_get hlt)) ?_
    refine st (ldI T3 (isR rfl)) ?_
    refine st (mv rfl) ?_
    refine st (neq rfl rfl) ?_
    refine en fun a w e' hf => ?_
    replace e := Ext.tr e e'
    replace Ho := Ho.ext e'
    clear e'
    refine tl_nil ?_
    have hsel := filter_take_len (r := r) (k := k) (fun x => x != n)
    repeat refine seq ?_
    refine ifc hf rfl (fun hb => ?_) (fun hb => ?_)
    · replace hf := hf.keep [0, 1, 5, 6]
      dsimp only [keep, List.filterMap, look, Nat.beq, Option.map] at hf
      repeat refine seq ?_
      refine regn 6 hf (by decide +kernel) ?_
      refine st (mv rfl) ?_
      refine st (mv rfl) ?_
      refine st (mv rfl) ?_
      refine st (idxD Tryd.underlying57 S3 (isR rfl) rfl (by omega) (gi_get hlt)) ?_
      refine st (ldI T3 (isR rfl)) ?_
      refine st (bsl1 Tryd.underlying57 I3 rfl (by decide) rfl Ho.avs (isI rfl)) ?_
      refine en fun a w e' hf => ?_
      replace e := Ext.tr e e'
      replace Ho := Ho.ext e'
      clear e'
      haveI hin : ∀ G0, InR (GB W G0) _ := OwR.inGB Ho (Nat.le_refl _)
      refine tl_app Tryd.underlying57 I3 rfl rfl hf (by decide) rfl Ho (isR rfl) (by simp only [List.length_singleton]; omega) (by simp only [List.length_singleton, maxLen]; omega) fun a v w hg hat Hn hf => ?_
      replace e := e.gro hg (Ho.row (Nat.le_refl _))
      replace Ho := Hn; clear Hn hg hat hin
      refine tl_as hf rfl (by decide) fun a hf => ?_
      refine tl_nil ?_
      try simp only [Exit.then, Exit.inBlock, ↓reduceIte]
      repeat refine seq ?_
      refine regn 2 hf (by decide +kernel) ?_
      refine st (mv rfl) ?_
      refine st ((add rfl rfl (by omega)).eq (congrArg (Value.int .i64) (show (k : Int) + 1 = ((k + 1 : Nat) : Int) from rfl))) ?_
      refine en fun a w e' hf => ?_
      replace e := Ext.tr e e'
      replace Ho := Ho.ext e'
      clear e'
      refine tl_as hf rfl (by decide) fun a hf => ?_
      refine tl_nil ?_
      replace hf := hf.keep [0, 1, 5, 6]
      dsimp only [keep, List.filterMap, look, Nat.beq, Option.map] at hf
      refine ⟨_, ?_, k + 1, _, rfl, by omega, hf, e, ?_⟩
      · omega
      rw [filter_take _ hlt, if_pos hb]; exact Ho
    · refine wskip ?_
      try simp only [Exit.then, Exit.inBlock, ↓reduceIte]
      try simp only [Exit.then, Exit.inBlock, ↓reduceIte]
      repeat refine seq ?_
      refine regn 2 hf (by decide +kernel) ?_
      refine st (mv rfl) ?_
      refine st ((add rfl rfl (by omega)).eq (congrArg (Value.int .i64) (show (k : Int) + 1 = ((k + 1 : Nat) : Int) from rfl))) ?_
      refine en fun a w e' hf => ?_
      replace e := Ext.tr e e'
      replace Ho := Ho.ext e'
      clear e'
      refine tl_as hf rfl (by decide) fun a hf => ?_
      refine tl_nil ?_
      replace hf := hf.keep [0, 1, 5, 6]
      dsimp only [keep, List.filterMap, look, Nat.beq, Option.map] at hf
      refine ⟨_, ?_, k + 1, _, rfl, by omega, hf, e, ?_⟩
      · omega
      rw [filter_take _ hlt, if_neg (by rw [hb]; decide)]; exact Ho
  · obtain rfl : k = r.length := by have := of_decide_eq_false hc; (try dsimp only at this); omega
    clear hc
    simp only [Exit.then, Exit.inBlock, ↓reduceIte]
    repeat refine seq ?_
    refine regn 1 hf (by decide +kernel) ?_
    refine st (mv rfl) ?_
    refine en fun a w e' hf => ?_
    replace e := Ext.tr e e'
    replace Ho := Ho.ext e'
    clear e'
    refine tl_as hf rfl (by decide) fun a hf => ?_
    refine tl_nil ?_
    refine wret ?_
    try simp only [Exit.then, Exit.inBlock]
    refine ret1 rfl hf rfl ?_
    rintro _ rfl
    exact ⟨_, rfl, e, (by rw [List.take_length] at Ho; exact Ho.sl)⟩

/-- n set before the first that is greater -/
def insAt : List Int → Int → List Int
  | [], n => [n]
  | x :: xs, n => if n < x then n :: x :: xs else x :: insAt xs n
theorem insAt_len : ∀ (r : List Int) (n : Int), (insAt r n).length = r.length + 1
  | [], n => rfl
  | x :: xs, n => by
    unfold insAt
    split
    · simp
    · simp [insAt_len xs n]
def gtAny (n : Int) (r : List Int) : Bool := r.any fun x => decide (n < x)
theorem insAt_app (n x : Int) : ∀ r : List Int, insAt (r ++ [x]) n = if gtAny n r then insAt r n ++ [x] else if n < x then r ++ [n] ++ [x] else r ++ [x] ++ [n]
  | [] => by
    show insAt [x] n = _
    simp only [insAt, gtAny]
    by_cases h : n < x <;> simp [h]
  | y :: r => by
    have ih := insAt_app n x r
    show insAt (y :: (r ++ [x])) n = _
    simp only [insAt, gtAny, List.any_cons, Bool.or_eq_true, decide_eq_true_eq] at ih ⊢
    by_cases h : n < y
    · simp [h]
    · simp only [h, if_false, ih, false_or]
      by_cases hg : r.any (fun x => decide (n < x)) = true
      · simp [hg]
      · by_cases hx : n < x <;> simp [hg, hx]
theorem insAt_none {n : Int} : ∀ {r : List Int}, gtAny n r = false → insAt r n = r ++ [n]
  | [], _ => rfl
  | y :: r, h => by
    simp only [gtAny, List.any_cons, Bool.or_eq_false_iff, decide_eq_false_iff_not] at h
    unfold insAt
    rw [if_neg h.1, insAt_none h.2]
    rfl
def withL (r : List Int) (n : Int) : List Int := if n < 0 ∨ 1023 < n ∨ hasL r n = true then r else insAt r n
theorem withL_len (r : List Int) (n : Int) : (withL r n).length ≤ r.length + 1 := by
  unfold withL
  split
  · omega
  · rw [insAt_len]; exact Nat.le_refl _
/-- With's slice ahead of round k -/
def wst (r : List Int) (n : Int) (k : Nat) : List Int := if gtAny n (r.take k) then insAt (r.take k) n else r.take k
theorem wst_succ {r : List Int} {n : Int} {k : Nat} (h : k < r.length) : wst r n (k + 1) = (if gtAny n (r.take k) = false ∧ n < gi r k then wst r n k ++ [n] else wst r n k) ++ [gi r k] ∧ gtAny n (r.take (k + 1)) = (gtAny n (r.take k) || decide (n < gi r k)) := by
  have e : gtAny n (r.take (k + 1)) = (gtAny n (r.take k) || decide (n < gi r k)) := by
    rw [gi_take h]
    simp [gtAny]
  refine ⟨?_, e⟩
  unfold wst
  rw [e, gi_take h, insAt_app]
  cases hg : gtAny n (r.take k)
  · by_cases hx : n < gi r k <;> simp [hx]
  · simp
theorem wst_len (r : List Int) (n : Int) (k : Nat) : (wst r n k).length ≤ k + 1 := by
  unfold wst
  split
  · rw [insAt_len]; have := List.length_take_le k r; omega
  · have := List.length_take_le k r; omega

theorem or3 {p q : Prop} [Decidable p] [Decidable q] {a b : Bool} (x : Bool) (h1 : decide p = a) (h2 : decide q = b) : (a || (b || x)) = decide (p ∨ q ∨ x = true) := by
  subst h1 h2
  by_cases hp : p <;> by_cases hq : q <;> simp [hp, hq]

theorem withL_spec {G : Nat → Prop} (r : List Int) (n : Int) (v : Value) (W : World) (h : (Dv (slE intE) G r).p v W) (hG : ∀ b, G b → b < W.heap.size) (hl : r.length ≤ 4096) :
    Calls Tryd.prog 130 #[v, I n] W (Post (Dv (slE intE) G (withL r n)) W) := by
  refine enter (args := [v, I n]) (As := [Dv (slE intE) (GB W G) r, E (I n)]) Tryd.func130 rfl Tryd.ntmps130 (Nat.le_of_ble_eq_true rfl) ?_ (fun a hf => ?_) (Nat.le_of_ble_eq_true rfl)
  rotate_left
  dsimp only [params, Nat.reduceAdd] at hf
  rotate_right
  · exact arg2 (Dv.toB h) rfl
  have e := Ext.rfl' W
  repeat refine seq ?_
  refine regn0 ?_
  refine tl_as hf rfl (by decide) fun a hf => ?_
  refine tl_nil ?_
  replace hf := hf.keep [0, 1]
  dsimp only [keep, List.filterMap, look, Nat.beq, Option.map] at hf
  obtain ⟨c, hc0⟩ : ∃ c : Bool, c = decide (n < 0 ∨ 1023 < n ∨ hasL r n = true) := ⟨_, rfl⟩
  repeat refine seq ?_
  refine cut (J := fun a w => Fr 55 a w [(0, Dv (slE intE) (GB W G) r), (1, E (I n)), (18, E (B c))] ∧ Ext W w ∧ True) ?_ (fun a w hJ => ?_)
  · cases h1 : decide (n < 0)
    all_goals cases h2 : decide (1023 < n)
    all_goals
      repeat refine seq ?_
      refine regn 11 hf (by decide +kernel) ?_
      refine st (mv rfl) ?_
      refine st ((lss rfl rfl).eq (congrArg Value.bool (h1))) ?_
      refine st (mv rfl) ?_
      first | refine sn rfl rfl rfl ?_ | refine su rfl rfl ?_ | refine sy rfl rfl (mv rfl) ?_
      first | refine sn rfl rfl rfl ?_ | refine su rfl rfl ?_ | refine sy rfl rfl ((gtr rfl rfl).eq (congrArg Value.bool (h2))) ?_
      first | refine st (pkT rfl rfl) ?_ | refine st (pkF rfl rfl) ?_ | refine st (pk rfl rfl rfl) ?_
      refine st (mv rfl) ?_
      first | refine sn rfl rfl rfl ?_ | refine su rfl rfl ?_ | refine sy rfl rfl (mv rfl) ?_
      first | refine sn rfl rfl rfl ?_ | refine su rfl rfl ?_ | refine sy rfl rfl (mv rfl) ?_
      first | refine sn rfl rfl rfl ?_ | refine su rfl rfl ?_ | refine sy rfl rfl (call2 En84 rfl rfl (fun v u w _ h h' => by cases h'; exact hasL_spec _ _ _ _ h hl)) ?_
      first | refine st ((pkT rfl rfl).eq (show Value.bool _ = B c from congrArg Value.bool ((or3 (hasL r n) h1 h2).trans hc0.symm))) ?_ | refine st ((pkF rfl rfl).eq (show Value.bool _ = B c from congrArg Value.bool ((or3 (hasL r n) h1 h2).trans hc0.symm))) ?_ | refine st ((pk rfl rfl rfl).eq (show Value.bool _ = B c from congrArg Value.bool ((or3 (hasL r n) h1 h2).trans hc0.symm))) ?_
      refine en fun a w e' hf => ?_
      replace e := Ext.tr e e'
      clear e'
      refine tl_nil ?_
      replace hf := hf.keep [0, 1, 18]
      dsimp only [keep, List.filterMap, look, Nat.beq, Option.map] at hf
      exact ⟨rfl, hf, e, trivial⟩
  clear hf e 
  obtain ⟨hf, e, _⟩ := hJ
  try simp only [Exit.then]
  repeat refine seq ?_
  refine ifc hf rfl (fun hb => ?_) (fun hb => ?_)
  · have hc := of_decide_eq_true (hc0 ▸ hb)
    repeat refine seq ?_
    refine regn 1 hf (by decide +kernel) ?_
    refine st (mv rfl) ?_
    refine en fun a w e' hf => ?_
    replace e := Ext.tr e e'
    clear e'
    refine tl_as hf rfl (by decide) fun a hf => ?_
    refine tl_nil ?_
    refine wret ?_
    try simp only [Exit.then, Exit.inBlock]
    refine ret1 rfl hf rfl ?_
    intro v hv
    exact ⟨_, rfl, e, (show (Dv (slE intE) G (withL r n)).p v _ from by rw [withL, if_pos hc]; exact Dv.weak hv fun b _ => .inl)⟩
  · have hc := of_decide_eq_false (hc0 ▸ hb)
    refine wskip ?_
    try simp only [Exit.then, Exit.inBlock, ↓reduceIte]
    repeat refine seq ?_
    refine regn0 ?_
    refine tl_bsl0 W.heap.size G intE Tryd.underlying57 S3 hf (by decide) e.size hG fun a v w e' hov Ho hf => ?_
    replace e := Ext.tr e e'
    clear e'
    refine tl_as hf rfl (by decide) fun a hf => ?_
    refine tl_nil ?_
    repeat refine seq ?_
    refine regn0 ?_
    refine tl_as hf rfl (by decide) fun a hf => ?_
    refine tl_nil ?_
    repeat refine seq ?_
    refine regn0 ?_
    refine tl_as hf rfl (by decide) fun a hf => ?_
    refine tl_nil ?_
    replace hf := hf.keep [0, 1, 5, 6, 7]
    dsimp only [keep, List.filterMap, look, Nat.beq, Option.map] at hf
    repeat refine seq ?_
    refine blk (loopN (fun r0 a w => ∃ (k : Nat) (u : Value), r0 = r.length - k ∧ k ≤ r.length ∧ Fr 55 a w [(0, Dv (slE intE) (GB W G) r), (1, E (I n)), (5, E u), (6, E (B (gtAny n (r.take k)))), (7, E (I k))] ∧ Ext W w ∧ OwR intE 3 W.heap.size G w (wst r n k) u) r.length ⟨0, _, rfl, by omega, hf, e, Ho⟩ ?_)
    clear hf e; try clear Ho
    rintro r0 a w ⟨k, u, rfl, hk, hf, e, Ho⟩
    repeat refine seq ?_
    refine regn 4 hf (by decide +kernel) ?_
    refine st (mv rfl) ?_
    refine st (mv rfl) ?_
    refine st (lenD Tryd.underlying57 (isR rfl)) ?_
    refine st (lss rfl rfl) ?_
    refine en fun a w e' hf => ?_
    replace e := Ext.tr e e'
    replace Ho := Ho.ext e'
    clear e'
    refine tl_nil ?_
    repeat refine seq ?_
    refine ifc hf rfl (fun hc => wskip ?_) (fun hc => wexit ?_)
    rotate_left
    rotate_left
    · have hlt : k < r.length := by have := of_decide_eq_true hc; (try dsimp only at this); omega
      clear hc
      replace hf := hf.keep [0, 1, 5, 6, 7]
      dsimp only [keep, List.filterMap, look, Nat.beq, Option.map] at hf
      repeat refine seq ?_
      refine blk ?_
      obtain ⟨hw1, hw2⟩ := wst_succ (n := n) hlt
      have hsel := wst_len r n k
      cases hd : gtAny n (r.take k)
      · repeat refine seq ?_
        refine regn 10 hf (by decide +kernel) ?_
        refine st (mv rfl) ?_
        refine st ((notp rfl).eq (congrArg Value.bool (show (!gtAny n (r.take k)) = true from by rw [hd]; rfl))) ?_
        refine st (mv rfl) ?_
        first | refine sn rfl rfl rfl ?_ | refine su rfl rfl ?_ | refine sy rfl rfl (mv rfl) ?_
        first | refine sn rfl rfl rfl ?_ | refine su rfl rfl ?_ | refine sy rfl rfl (mv rfl) ?_
        first | refine sn rfl rfl rfl ?_ | refine su rfl rfl ?_ | refine sy rfl rfl (idxD Tryd.underlying57 S3 (isR rfl) rfl (by omega) (gi_get hlt)) ?_
        first | refine sn rfl rfl rfl ?_ | refine su rfl rfl ?_ | refine sy rfl rfl (ldI T3 (isR rfl)) ?_
        first | refine sn rfl rfl rfl ?_ | refine su rfl rfl ?_ | refine sy rfl rfl (mv rfl) ?_
        first | refine sn rfl rfl rfl ?_ | refine su rfl rfl ?_ | refine sy rfl rfl (gtr rfl rfl) ?_
        first | refine st (pkT rfl rfl) ?_ | refine st (pkF rfl rfl) ?_ | refine st (pk rfl rfl rfl) ?_
        refine en fun a w e' hf => ?_
        replace e := Ext.tr e e'
        replace Ho := Ho.ext e'
        clear e'
        refine tl_nil ?_
        repeat refine seq ?_
        refine ifc hf rfl (fun hb => ?_) (fun hb => ?_)
        · have hx := of_decide_eq_true hb
          replace hf := hf.keep [0, 1, 5, 6, 7]
          dsimp only [keep, List.filterMap, look, Nat.beq, Option.map] at hf
          repeat refine seq ?_
          refine regn 3 hf (by decide +kernel) ?_
          refine st (mv rfl) ?_
          refine st (mv rfl) ?_
          refine st (bsl1 Tryd.underlying57 I3 rfl (by decide) rfl Ho.avs (isI rfl)) ?_
          refine en fun a w e' hf => ?_
          replace e := Ext.tr e e'
          replace Ho := Ho.ext e'
          clear e'
          haveI hin : ∀ G0, InR (GB W G0) _ := OwR.inGB Ho (Nat.le_refl _)
          refine tl_app Tryd.underlying57 I3 rfl rfl hf (by decide) rfl Ho (isR rfl) (by simp only [List.length_singleton]; omega) (by simp only [List.length_singleton, maxLen]; omega) fun a v w hg hat Hn hf => ?_
          replace e := e.gro hg (Ho.row (Nat.le_refl _))
          replace Ho := Hn; clear Hn hg hat hin
          refine tl_as hf rfl (by decide) fun a hf => ?_
          refine tl_nil ?_
          repeat refine seq ?_
          refine regn0 ?_
          refine tl_as hf rfl (by decide) fun a hf => ?_
          refine tl_nil ?_
          try simp only [Exit.then, Exit.inBlock, ↓reduceIte]
          replace hf := hf.keep [0, 1, 5, 6, 7]
          dsimp only [keep, List.filterMap, look, Nat.beq, Option.map] at hf
          repeat refine seq ?_
          refine regn 6 hf (by decide +kernel) ?_
          refine st (mv rfl) ?_
          refine st (mv rfl) ?_
          refine st (mv rfl) ?_
          refine st (idxD Tryd.underlying57 S3 (isR rfl) rfl (by omega) (gi_get hlt)) ?_
          refine st (ldI T3 (isR rfl)) ?_
          refine st (bsl1 Tryd.underlying57 I3 rfl (by decide) rfl Ho.avs (isI rfl)) ?_
          refine en fun a w e' hf => ?_
          replace e := Ext.tr e e'
          replace Ho := Ho.ext e'
          clear e'
          haveI hin : ∀ G0, InR (GB W G0) _ := OwR.inGB Ho (Nat.le_refl _)
          refine tl_app Tryd.underlying57 I3 rfl rfl hf (by decide) rfl Ho (isR rfl) (by simp only [List.length_append, List.length_singleton, maxLen]; omega) (by simp only [List.length_append, List.length_singleton, maxLen]; omega) fun a v w hg hat Hn hf => ?_
          replace e := e.gro hg (Ho.row (Nat.le_refl _))
          replace Ho := Hn; clear Hn hg hat hin
          refine tl_as hf rfl (by decide) fun a hf => ?_
          refine tl_nil ?_
          rw [show Value.bool true = B (gtAny n (r.take (k + 1))) from by rw [hw2, hd]; simp [hx]] at hf
          try simp only [Exit.then, Exit.inBlock, ↓reduceIte]
          repeat refine seq ?_
          refine regn 2 hf (by decide +kernel) ?_
          refine st (mv rfl) ?_
          refine st ((add rfl rfl (by omega)).eq (congrArg (Value.int .i64) (show (k : Int) + 1 = ((k + 1 : Nat) : Int) from rfl))) ?_
          refine en fun a w e' hf => ?_
          replace e := Ext.tr e e'
          replace Ho := Ho.ext e'
          clear e'
          refine tl_as hf rfl (by decide) fun a hf => ?_
          refine tl_nil ?_
          replace hf := hf.keep [0, 1, 5, 6, 7]
          dsimp only [keep, List.filterMap, look, Nat.beq, Option.map] at hf
          refine ⟨_, ?_, k + 1, _, rfl, by omega, hf, e, ?_⟩
          · omega
          rw [hw1, if_pos ⟨hd, hx⟩]; exact Ho
        · have hx := of_decide_eq_false hb
          refine wskip ?_
          try simp only [Exit.then, Exit.inBlock, ↓reduceIte]
          replace hf := hf.keep [0, 1, 5, 6, 7]
          dsimp only [keep, List.filterMap, look, Nat.beq, Option.map] at hf
          repeat refine seq ?_
          refine regn 6 hf (by decide +kernel) ?_
          refine st (mv rfl) ?_
          refine st (mv rfl) ?_
          refine st (mv rfl) ?_
          refine st (idxD Tryd.underlying57 S3 (isR rfl) rfl (by omega) (gi_get hlt)) ?_
          refine st (ldI T3 (isR rfl)) ?_
          refine st (bsl1 Tryd.underlying57 I3 rfl (by decide) rfl Ho.avs (isI rfl)) ?_
          refine en fun a w e' hf => ?_
          replace e := Ext.tr e e'
          replace Ho := Ho.ext e'
          clear e'
          haveI hin : ∀ G0, InR (GB W G0) _ := OwR.inGB Ho (Nat.le_refl _)
          refine tl_app Tryd.underlying57 I3 rfl rfl hf (by decide) rfl Ho (isR rfl) (by simp only [List.length_singleton]; omega) (by simp only [List.length_singleton, maxLen]; omega) fun a v w hg hat Hn hf => ?_
          replace e := e.gro hg (Ho.row (Nat.le_refl _))
          replace Ho := Hn; clear Hn hg hat hin
          refine tl_as hf rfl (by decide) fun a hf => ?_
          refine tl_nil ?_
          rw [show B (gtAny n (r.take k)) = B (gtAny n (r.take (k + 1))) from by rw [hw2, hd]; simp [hx]] at hf
          try simp only [Exit.then, Exit.inBlock, ↓reduceIte]
          repeat refine seq ?_
          refine regn 2 hf (by decide +kernel) ?_
          refine st (mv rfl) ?_
          refine st ((add rfl rfl (by omega)).eq (congrArg (Value.int .i64) (show (k : Int) + 1 = ((k + 1 : Nat) : Int) from rfl))) ?_
          refine en fun a w e' hf => ?_
          replace e := Ext.tr e e'
          replace Ho := Ho.ext e'
          clear e'
          refine tl_as hf rfl (by decide) fun a hf => ?_
          refine tl_nil ?_
          replace hf := hf.keep [0, 1, 5, 6, 7]
          dsimp only [keep, List.filterMap, look, Nat.beq, Option.map] at hf
          refine ⟨_, ?_, k + 1, _, rfl, by omega, hf, e, ?_⟩
          · omega
          rw [hw1, if_neg (fun h => hx h.2)]; exact Ho
      · repeat refine seq ?_
        refine regn 10 hf (by decide +kernel) ?_
        refine st (mv rfl) ?_
        refine st ((notp rfl).eq (congrArg Value.bool (show (!gtAny n (r.take k)) = false from by rw [hd]; rfl))) ?_
        refine st (mv rfl) ?_
        first | refine sn rfl rfl rfl ?_ | refine su rfl rfl ?_ | refine sy rfl rfl (mv rfl) ?_
        first | refine sn rfl rfl rfl ?_ | refine su rfl rfl ?_ | refine sy rfl rfl (mv rfl) ?_
        first | refine sn rfl rfl rfl ?_ | refine su rfl rfl ?_ | refine sy rfl rfl (idxD Tryd.underlying57 S3 (isR rfl) rfl (by omega) (by assumption)) ?_
        first | refine sn rfl rfl rfl ?_ | refine su rfl rfl ?_ | refine sy rfl rfl (ldI T3 (isR rfl)) ?_
        first | refine sn rfl rfl rfl ?_ | refine su rfl rfl ?_ | refine sy rfl rfl (mv rfl) ?_
        first | refine sn rfl rfl rfl ?_ | refine su rfl rfl ?_ | refine sy rfl rfl (gtr rfl rfl) ?_
        first | refine st (pkT rfl rfl) ?_ | refine st (pkF rfl rfl) ?_ | refine st (pk rfl rfl rfl) ?_
        refine en fun a w e' hf => ?_
        replace e := Ext.tr e e'
        replace Ho := Ho.ext e'
        clear e'
        refine tl_nil ?_
        repeat refine seq ?_
        refine ifc hf rfl (fun h => by cases h) (fun _ => ?_)
        refine wskip ?_
        try simp only [Exit.then, Exit.inBlock, ↓reduceIte]
        replace hf := hf.keep [0, 1, 5, 6, 7]
        dsimp only [keep, List.filterMap, look, Nat.beq, Option.map] at hf
        repeat refine seq ?_
        refine regn 6 hf (by decide +kernel) ?_
        refine st (mv rfl) ?_
        refine st (mv rfl) ?_
        refine st (mv rfl) ?_
        refine st (idxD Tryd.underlying57 S3 (isR rfl) rfl (by omega) (gi_get hlt)) ?_
        refine st (ldI T3 (isR rfl)) ?_
        refine st (bsl1 Tryd.underlying57 I3 rfl (by decide) rfl Ho.avs (isI rfl)) ?_
        refine en fun a w e' hf => ?_
        replace e := Ext.tr e e'
        replace Ho := Ho.ext e'
        clear e'
        haveI hin : ∀ G0, InR (GB W G0) _ := OwR.inGB Ho (Nat.le_refl _)
        refine tl_app Tryd.underlying57 I3 rfl rfl hf (by decide) rfl Ho (isR rfl) (by simp only [List.length_singleton]; omega) (by simp only [List.length_singleton, maxLen]; omega) fun a v w hg hat Hn hf => ?_
        replace e := e.gro hg (Ho.row (Nat.le_refl _))
        replace Ho := Hn; clear Hn hg hat hin
        refine tl_as hf rfl (by decide) fun a hf => ?_
        refine tl_nil ?_
        rw [show B (gtAny n (r.take k)) = B (gtAny n (r.take (k + 1))) from by rw [hw2, hd]; rfl] at hf
        try simp only [Exit.then, Exit.inBlock, ↓reduceIte]
        repeat refine seq ?_
        refine regn 2 hf (by decide +kernel) ?_
        refine st (mv rfl) ?_
        refine st ((add rfl rfl (by omega)).eq (congrArg (Value.int .i64) (show (k : Int) + 1 = ((k + 1 : Nat) : Int) from rfl))) ?_
        refine en fun a w e' hf => ?_
        replace e := Ext.tr e e'
        replace Ho := Ho.ext e'
        clear e'
        refine tl_as hf rfl (by decide) fun a hf => ?_
        refine tl_nil ?_
        replace hf := hf.keep [0, 1, 5, 6, 7]
        dsimp only [keep, List.filterMap, look, Nat.beq, Option.map] at hf
        refine ⟨_, ?_, k + 1, _, rfl, by omega, hf, e, ?_⟩
        · omega
        rw [hw1, if_neg (fun h => by rw [hd] at h; cases h.1)]; exact Ho
    · obtain rfl : k = r.length := by have := of_decide_eq_false hc; (try dsimp only at this); omega
      clear hc
      simp only [Exit.then, Exit.inBlock, ↓reduceIte]
      repeat refine seq ?_
      refine regn 2 hf (by decide +kernel) ?_
      refine st (mv rfl) ?_
      refine st (notp rfl) ?_
      refine en fun a w e' hf => ?_
      replace e := Ext.tr e e'
      replace Ho := Ho.ext e'
      clear e'
      refine tl_nil ?_
      have hsel := wst_len r n r.length
      repeat refine seq ?_
      refine ifc hf rfl (fun hb => ?_) (fun hb => ?_)
      · replace hf := hf.keep [0, 1, 5]
        dsimp only [keep, List.filterMap, look, Nat.beq, Option.map] at hf
        repeat refine seq ?_
        refine regn 3 hf (by decide +kernel) ?_
        refine st (mv rfl) ?_
        refine st (mv rfl) ?_
        refine st (bsl1 Tryd.underlying57 I3 rfl (by decide) rfl Ho.avs (isI rfl)) ?_
        refine en fun a w e' hf => ?_
        replace e := Ext.tr e e'
        replace Ho := Ho.ext e'
        clear e'
        haveI hin : ∀ G0, InR (GB W G0) _ := OwR.inGB Ho (Nat.le_refl _)
        refine tl_app Tryd.underlying57 I3 rfl rfl hf (by decide) rfl Ho (isR rfl) (by simp only [List.length_singleton]; omega) (by simp only [List.length_singleton, maxLen]; omega) fun a v w hg hat Hn hf => ?_
        replace e := e.gro hg (Ho.row (Nat.le_refl _))
        replace Ho := Hn; clear Hn hg hat hin
        refine tl_as hf rfl (by decide) fun a hf => ?_
        refine tl_nil ?_
        try simp only [Exit.then, Exit.inBlock, ↓reduceIte]
        repeat refine seq ?_
        refine regn 1 hf (by decide +kernel) ?_
        refine st (mv rfl) ?_
        refine en fun a w e' hf => ?_
        replace e := Ext.tr e e'
        replace Ho := Ho.ext e'
        clear e'
        refine tl_as hf rfl (by decide) fun a hf => ?_
        refine tl_nil ?_
        rw [List.take_length, Bool.not_eq_true'] at hb
        have hr : withL r n = r ++ [n] := by rw [withL, if_neg hc, insAt_none hb]
        rw [wst, List.take_length, hb] at Ho
        refine wret ?_
        try simp only [Exit.then, Exit.inBlock]
        refine ret1 rfl hf rfl ?_
        rintro _ rfl
        exact ⟨_, rfl, e, (by rw [hr]; exact Ho.sl)⟩
      · refine wskip ?_
        try simp only [Exit.then, Exit.inBlock, ↓reduceIte]
        repeat refine seq ?_
        refine regn 1 hf (by decide +kernel) ?_
        refine st (mv rfl) ?_
        refine en fun a w e' hf => ?_
        replace e := Ext.tr e e'
        replace Ho := Ho.ext e'
        clear e'
        refine tl_as hf rfl (by decide) fun a hf => ?_
        refine tl_nil ?_
        rw [List.take_length, Bool.not_eq_false'] at hb
        have hr : withL r n = insAt r n := by rw [withL, if_neg hc]
        rw [wst, List.take_length, hb] at Ho
        refine wret ?_
        try simp only [Exit.then, Exit.inBlock]
        refine ret1 rfl hf rfl ?_
        rintro _ rfl
        exact ⟨_, rfl, e, (by rw [hr]; exact Ho.sl)⟩

theorem or_spec {G : Nat → Prop} (r s : List Int) (v u : Value) (W : World) (h : (Dv (slE intE) G r).p v W) (h' : (Dv (slE intE) G s).p u W) (hG : ∀ b, G b → b < W.heap.size) (hl : r.length + s.length ≤ 4096) :
    Calls Tryd.prog 111 #[v, u] W (Post (Dv (slE intE) G (s.foldl withL r)) W) := by
  have hlen : ∀ k, ((s.take k).foldl withL r).length ≤ r.length + k := by
    intro k
    have : ∀ (t r : List Int), (t.foldl withL r).length ≤ r.length + t.length := by
      intro t
      induction t with
      | nil => intro r; simp
      | cons x t ih => intro r; have := ih (withL r x); have := withL_len r x; simp only [List.foldl_cons, List.length_cons]; omega
    have := this (s.take k) r
    have := List.length_take_le k s
    omega
  refine enter (args := [v, u]) (As := [Dv (slE intE) G r, Dv (slE intE) G s]) Tryd.func111 rfl Tryd.ntmps111 (Nat.le_of_ble_eq_true rfl) ?_ (fun a hf => ?_) (Nat.le_of_ble_eq_true rfl)
  rotate_left
  dsimp only [params, Nat.reduceAdd] at hf
  rotate_right
  · exact arg2 h h'
  have e := Ext.rfl' W
  repeat refine seq ?_
  refine regn0 ?_
  refine tl_as hf rfl (by decide) fun a hf => ?_
  refine tl_nil ?_
  repeat refine seq ?_
  refine regn 1 hf (by decide +kernel) ?_
  refine st (mv rfl) ?_
  refine en fun a w e' hf => ?_
  replace e := Ext.tr e e'
  clear e'
  refine tl_as hf rfl (by decide) fun a hf => ?_
  refine tl_nil ?_
  repeat refine seq ?_
  refine regn0 ?_
  refine tl_as hf rfl (by decide) fun a hf => ?_
  refine tl_nil ?_
  replace hf := hf.keep [1, 5, 6]
  dsimp only [keep, List.filterMap, look, Nat.beq, Option.map] at hf
  repeat refine seq ?_
  refine blk (loopN (fun r0 a w => ∃ (k : Nat) , r0 = s.length - k ∧ k ≤ s.length ∧ Fr 21 a w [(1, Dv (slE intE) G s), (5, Dv (slE intE) G ((s.take k).foldl withL r)), (6, E (I k))] ∧ Ext W w ∧ True) s.length ⟨0, rfl, by omega, hf, e, trivial⟩ ?_)
  clear hf e
  rintro r0 a w ⟨k, rfl, hk, hf, e, _⟩
  repeat refine seq ?_
  refine regn 4 hf (by decide +kernel) ?_
  refine st (mv rfl) ?_
  refine st (mv rfl) ?_
  refine st (lenD Tryd.underlying57 (isR rfl)) ?_
  refine st (lss rfl rfl) ?_
  refine en fun a w e' hf => ?_
  replace e := Ext.tr e e'
  clear e'
  refine tl_nil ?_
  repeat refine seq ?_
  refine ifc hf rfl (fun hc => wskip ?_) (fun hc => wexit ?_)
  rotate_left
  rotate_left
  · have hlt : k < s.length := by have := of_decide_eq_true hc; (try dsimp only at this); omega
    clear hc
    replace hf := hf.keep [1, 5, 6]
    dsimp only [keep, List.filterMap, look, Nat.beq, Option.map] at hf
    repeat refine seq ?_
    refine blk ?_
    have hk1 := hlen k
    repeat refine seq ?_
    refine regn 6 hf (by decide +kernel) ?_
    refine st (mv rfl) ?_
    refine st (mv rfl) ?_
    refine st (mv rfl) ?_
    refine st (idxD Tryd.underlying57 S3 (isR rfl) rfl (by omega) (gi_get hlt)) ?_
    refine st (ldI T3 (isR rfl)) ?_
    refine st ((call2 En130 rfl rfl (fun v u w he h h' => by cases h'; exact withL_spec _ _ _ _ h (fun b hb => Nat.lt_of_lt_of_le (hG b hb) (Nat.le_trans e.size he.size)) (by omega))).dv (show withL _ _ = (s.take (k + 1)).foldl withL r from by rw [gi_take hlt, List.foldl_append]; rfl)) ?_
    refine en fun a w e' hf => ?_
    replace e := Ext.tr e e'
    clear e'
    refine tl_as hf rfl (by decide) fun a hf => ?_
    refine tl_nil ?_
    try simp only [Exit.then, Exit.inBlock, ↓reduceIte]
    repeat refine seq ?_
    refine regn 2 hf (by decide +kernel) ?_
    refine st (mv rfl) ?_
    refine st ((add rfl rfl (by omega)).eq (congrArg (Value.int .i64) (show (k : Int) + 1 = ((k + 1 : Nat) : Int) from rfl))) ?_
    refine en fun a w e' hf => ?_
    replace e := Ext.tr e e'
    clear e'
    refine tl_as hf rfl (by decide) fun a hf => ?_
    refine tl_nil ?_
    replace hf := hf.keep [1, 5, 6]
    dsimp only [keep, List.filterMap, look, Nat.beq, Option.map] at hf
    refine ⟨_, ?_, k + 1, rfl, by omega, hf, e, trivial⟩
    · omega
  · obtain rfl : k = s.length := by have := of_decide_eq_false hc; (try dsimp only at this); omega
    clear hc
    simp only [Exit.then, Exit.inBlock, ↓reduceIte]
    repeat refine seq ?_
    refine regn 1 hf (by decide +kernel) ?_
    refine st (mv rfl) ?_
    refine en fun a w e' hf => ?_
    replace e := Ext.tr e e'
    clear e'
    refine tl_as hf rfl (by decide) fun a hf => ?_
    refine tl_nil ?_
    refine wret ?_
    try simp only [Exit.then, Exit.inBlock]
    refine ret1 rfl hf rfl ?_
    intro v hv
    exact ⟨_, rfl, e, (by rw [List.take_length] at hv; exact hv)⟩
end Go.Mono

set_option linter.unusedVariables false
namespace Go.Mono
open Go Go.Proofs Go.RowKit

/-- comparison, from the greatest on; i, k: how many elements are left -/
def cmpN (a b : List Int) : Nat → Nat → Int
  | 0, 0 => 0
  | 0, _ + 1 => -1
  | _ + 1, 0 => 1
  | i + 1, k + 1 => if gi b k < gi a i then 1 else if gi a i < gi b k then -1 else cmpN a b i k
def cmpL (a b : List Int) : Int := cmpN a b a.length b.length

theorem cmp_spec {G : Nat → Prop} (r s : List Int) (v u : Value) (W : World) (h : (Dv (slE intE) G r).p v W) (h' : (Dv (slE intE) G s).p u W) (hl : r.length ≤ 4096) (hs : s.length ≤ 4096) :
    Calls Tryd.prog 112 #[v, u] W (Post (E (I (cmpL r s))) W) := by
  refine enter (args := [v, u]) (As := [Dv (slE intE) G r, Dv (slE intE) G s]) Tryd.func112 rfl Tryd.ntmps112 (Nat.le_of_ble_eq_true rfl) ?_ (fun a hf => ?_) (Nat.le_of_ble_eq_true rfl)
  rotate_left
  dsimp only [params, Nat.reduceAdd] at hf
  rotate_right
  · exact arg2 h h'
  have e := Ext.rfl' W
  repeat refine seq ?_
  refine regn0 ?_
  refine tl_as hf rfl (by decide) fun a hf => ?_
  refine tl_nil ?_
  repeat refine seq ?_
  refine regn 6 hf (by decide +kernel) ?_
  refine st (mv rfl) ?_
  refine st (lenD Tryd.underlying57 (isR rfl)) ?_
  refine st (sub rfl rfl (by omega)) ?_
  refine st (mv rfl) ?_
  refine st (lenD Tryd.underlying57 (isR rfl)) ?_
  refine st (sub rfl rfl (by omega)) ?_
  refine en fun a w e' hf => ?_
  replace e := Ext.tr e e'
  clear e'
  refine tl_as hf rfl (by decide) fun a hf => ?_
  refine tl_as hf rfl (by decide) fun a hf => ?_
  refine tl_nil ?_
  replace hf := hf.keep [0, 1, 5, 6]
  dsimp only [keep, List.filterMap, look, Nat.beq, Option.map] at hf
  repeat refine seq ?_
  refine blk (loopN (fun r0 a w => ∃ (i k : Nat), r0 = i ∧ i ≤ r.length ∧ k ≤ s.length ∧ Fr 45 a w [(0, Dv (slE intE) G r), (1, Dv (slE intE) G s), (5, E (I ((i : Int) - 1))), (6, E (I ((k : Int) - 1)))] ∧ Ext W w ∧ cmpN r s i k = cmpL r s) r.length ⟨r.length, s.length, rfl, Nat.le_refl _, Nat.le_refl _, hf, e, rfl⟩ ?_)
  clear hf e
  rintro i a w ⟨_, k, rfl, hi, hk, hf, e, Ho⟩
  match i, k with
  | 0, k =>
    repeat refine seq ?_
    refine regn 6 hf (by decide +kernel) ?_
    refine st (mv rfl) ?_
    refine st ((geq rfl rfl).eq (congrArg Value.bool (show decide (0 ≤ ((0 : Nat) : Int) - 1) = false from rfl))) ?_
    refine st (mv rfl) ?_
    first | refine sn rfl rfl rfl ?_ | refine su rfl rfl ?_ | refine sy rfl rfl (mv rfl) ?_
    first | refine sn rfl rfl rfl ?_ | refine su rfl rfl ?_ | refine sy rfl rfl (geq rfl rfl) ?_
    first | refine st (pkT rfl rfl) ?_ | refine st (pkF rfl rfl) ?_ | refine st (pk rfl rfl rfl) ?_
    refine en fun a w e' hf => ?_
    replace e := Ext.tr e e'
    clear e'
    refine tl_nil ?_
    repeat refine seq ?_
    refine ifc hf rfl (fun h => by cases h) (fun _ => wexit ?_)
    simp only [Exit.then, Exit.inBlock, ↓reduceIte]
    repeat refine seq ?_
    refine regn 2 hf (by decide +kernel) ?_
    refine st (mv rfl) ?_
    refine st ((geq rfl rfl).eq (congrArg Value.bool (show decide (0 ≤ ((0 : Nat) : Int) - 1) = false from rfl))) ?_
    refine en fun a w e' hf => ?_
    replace e := Ext.tr e e'
    clear e'
    refine tl_nil ?_
    repeat refine seq ?_
    refine ifc hf rfl (fun h => by cases h) (fun _ => ?_)
    refine wskip ?_
    try simp only [Exit.then, Exit.inBlock, ↓reduceIte]
    cases k with
    | zero =>
      repeat refine seq ?_
      refine regn 2 hf (by decide +kernel) ?_
      refine st (mv rfl) ?_
      refine st ((geq rfl rfl).eq (congrArg Value.bool (show decide (0 ≤ ((0 : Nat) : Int) - 1) = false from rfl))) ?_
      refine en fun a w e' hf => ?_
      replace e := Ext.tr e e'
      clear e'
      refine tl_nil ?_
      repeat refine seq ?_
      refine ifc hf rfl (fun h => by cases h) (fun _ => ?_)
      refine wskip ?_
      try simp only [Exit.then, Exit.inBlock, ↓reduceIte]
      repeat refine seq ?_
      refine regn0 ?_
      refine tl_as hf rfl (by decide) fun a hf => ?_
      refine tl_nil ?_
      refine wret ?_
      try simp only [Exit.then, Exit.inBlock]
      refine ret1 rfl hf rfl ?_
      rintro _ rfl
      exact ⟨_, rfl, e, congrArg I Ho⟩
    | succ k =>
      repeat refine seq ?_
      refine regn 2 hf (by decide +kernel) ?_
      refine st (mv rfl) ?_
      refine st ((geq rfl rfl).eq (congrArg Value.bool (show decide (0 ≤ ((k + 1 : Nat) : Int) - 1) = true from decide_eq_true (by omega)))) ?_
      refine en fun a w e' hf => ?_
      replace e := Ext.tr e e'
      clear e'
      refine tl_nil ?_
      repeat refine seq ?_
      refine ifc hf rfl (fun _ => ?_) (fun h => by cases h)
      repeat refine seq ?_
      refine regn0 ?_
      refine tl_as hf rfl (by decide) fun a hf => ?_
      refine tl_nil ?_
      refine wret ?_
      try simp only [Exit.then, Exit.inBlock]
      refine ret1 rfl hf rfl ?_
      rintro _ rfl
      exact ⟨_, rfl, e, congrArg I Ho⟩
  | i + 1, 0 =>
    repeat refine seq ?_
    refine regn 6 hf (by decide +kernel) ?_
    refine st (mv rfl) ?_
    refine st ((geq rfl rfl).eq (congrArg Value.bool (show decide (0 ≤ ((i + 1 : Nat) : Int) - 1) = true from decide_eq_true (by omega)))) ?_
    refine st (mv rfl) ?_
    first | refine sn rfl rfl rfl ?_ | refine su rfl rfl ?_ | refine sy rfl rfl (mv rfl) ?_
    first | refine sn rfl rfl rfl ?_ | refine su rfl rfl ?_ | refine sy rfl rfl ((geq rfl rfl).eq (congrArg Value.bool (show decide (0 ≤ ((0 : Nat) : Int) - 1) = false from rfl))) ?_
    first | refine st (pkT rfl rfl) ?_ | refine st (pkF rfl rfl) ?_ | refine st (pk rfl rfl rfl) ?_
    refine en fun a w e' hf => ?_
    replace e := Ext.tr e e'
    clear e'
    refine tl_nil ?_
    repeat refine seq ?_
    refine ifc hf rfl (fun h => by cases h) (fun _ => wexit ?_)
    simp only [Exit.then, Exit.inBlock, ↓reduceIte]
    repeat refine seq ?_
    refine regn 2 hf (by decide +kernel) ?_
    refine st (mv rfl) ?_
    refine st ((geq rfl rfl).eq (congrArg Value.bool (show decide (0 ≤ ((i + 1 : Nat) : Int) - 1) = true from decide_eq_true (by omega)))) ?_
    refine en fun a w e' hf => ?_
    replace e := Ext.tr e e'
    clear e'
    refine tl_nil ?_
    repeat refine seq ?_
    refine ifc hf rfl (fun _ => ?_) (fun h => by cases h)
    repeat refine seq ?_
    refine regn0 ?_
    refine tl_as hf rfl (by decide) fun a hf => ?_
    refine tl_nil ?_
    refine wret ?_
    try simp only [Exit.then, Exit.inBlock]
    refine ret1 rfl hf rfl ?_
    rintro _ rfl
    exact ⟨_, rfl, e, congrArg I Ho⟩
  | i + 1, k + 1 =>
    repeat refine seq ?_
    refine regn 6 hf (by decide +kernel) ?_
    refine st (mv rfl) ?_
    refine st ((geq rfl rfl).eq (congrArg Value.bool (show decide (0 ≤ ((i + 1 : Nat) : Int) - 1) = true from decide_eq_true (by omega)))) ?_
    refine st (mv rfl) ?_
    first | refine sn rfl rfl rfl ?_ | refine su rfl rfl ?_ | refine sy rfl rfl (mv rfl) ?_
    first | refine sn rfl rfl rfl ?_ | refine su rfl rfl ?_ | refine sy rfl rfl ((geq rfl rfl).eq (congrArg Value.bool (show decide (0 ≤ ((k + 1 : Nat) : Int) - 1) = true from decide_eq_true (by omega)))) ?_
    first | refine st (pkT rfl rfl) ?_ | refine st (pkF rfl rfl) ?_ | refine st (pk rfl rfl rfl) ?_
    refine en fun a w e' hf => ?_
    replace e := Ext.tr e e'
    clear e'
    refine tl_nil ?_
    repeat refine seq ?_
    refine ifc hf rfl (fun _ => ?_) (fun h => by cases h)
    refine wskip ?_
    try simp only [Exit.then, Exit.inBlock, ↓reduceIte]
    repeat refine seq ?_
    refine blk ?_
    replace hf := hf.keep [0, 1, 5, 6]
    dsimp only [keep, List.filterMap, look, Nat.beq, Option.map] at hf
    have h1 := gi_get (r := r) (k := i) (by omega)
    have h2 := gi_get (r := s) (k := k) (by omega)
    repeat refine seq ?_
    refine reg 9 Mix.mix hf (by decide +kernel) ?_
    refine st (mv rfl) ?_
    refine st (mv rfl) ?_
    refine st (idxD Tryd.underlying57 S3 (isR rfl) rfl (by omega) (h1)) ?_
    refine st (ldI T3 (isR rfl)) ?_
    refine st (mv rfl) ?_
    refine st (mv rfl) ?_
    refine st (idxD Tryd.underlying57 S3 (isR rfl) rfl (by omega) (h2)) ?_
    refine st (ldI T3 (isR rfl)) ?_
    refine st (gtr rfl rfl) ?_
    refine en fun a w e' hf => ?_
    replace e := Ext.tr e e'
    clear e'
    refine tl_nil ?_
    rw [cmpN] at Ho
    repeat refine seq ?_
    refine ifc hf rfl (fun hb => ?_) (fun hb => ?_)
    · rw [if_pos (of_decide_eq_true hb)] at Ho
      repeat refine seq ?_
      refine regn0 ?_
      refine tl_as hf rfl (by decide) fun a hf => ?_
      refine tl_nil ?_
      refine wret ?_
      try simp only [Exit.then, Exit.inBlock]
      refine ret1 rfl hf rfl ?_
      rintro _ rfl
      exact ⟨_, rfl, e, congrArg I Ho⟩
    · rw [if_neg (of_decide_eq_false hb)] at Ho
      refine wskip ?_
      try simp only [Exit.then, Exit.inBlock, ↓reduceIte]
      replace hf := hf.keep [0, 1, 5, 6]
      dsimp only [keep, List.filterMap, look, Nat.beq, Option.map] at hf
      repeat refine seq ?_
      refine reg 9 Mix.mix hf (by decide +kernel) ?_
      refine st (mv rfl) ?_
      refine st (mv rfl) ?_
      refine st (idxD Tryd.underlying57 S3 (isR rfl) rfl (by omega) (h1)) ?_
      refine st (ldI T3 (isR rfl)) ?_
      refine st (mv rfl) ?_
      refine st (mv rfl) ?_
      refine st (idxD Tryd.underlying57 S3 (isR rfl) rfl (by omega) (h2)) ?_
      refine st (ldI T3 (isR rfl)) ?_
      refine st (lss rfl rfl) ?_
      refine en fun a w e' hf => ?_
      replace e := Ext.tr e e'
      clear e'
      refine tl_nil ?_
      repeat refine seq ?_
      refine ifc hf rfl (fun hb => ?_) (fun hb => ?_)
      · rw [if_pos (of_decide_eq_true hb)] at Ho
        repeat refine seq ?_
        refine regn0 ?_
        refine tl_as hf rfl (by decide) fun a hf => ?_
        refine tl_nil ?_
        refine wret ?_
        try simp only [Exit.then, Exit.inBlock]
        refine ret1 rfl hf rfl ?_
        rintro _ rfl
        exact ⟨_, rfl, e, congrArg I Ho⟩
      · rw [if_neg (of_decide_eq_false hb)] at Ho
        refine wskip ?_
        try simp only [Exit.then, Exit.inBlock, ↓reduceIte]
        repeat refine seq ?_
        refine regn 4 hf (by decide +kernel) ?_
        refine st (mv rfl) ?_
        refine st ((sub rfl rfl (by omega)).eq (congrArg (Value.int .i64) (show ((i + 1 : Nat) : Int) - 1 - 1 = (i : Int) - 1 from by omega))) ?_
        refine st (mv rfl) ?_
        refine st ((sub rfl rfl (by omega)).eq (congrArg (Value.int .i64) (show ((k + 1 : Nat) : Int) - 1 - 1 = (k : Int) - 1 from by omega))) ?_
        refine en fun a w e' hf => ?_
        replace e := Ext.tr e e'
        clear e'
        refine tl_as hf rfl (by decide) fun a hf => ?_
        refine tl_as hf rfl (by decide) fun a hf => ?_
        refine tl_nil ?_
        replace hf := hf.keep [0, 1, 5, 6]
        dsimp only [keep, List.filterMap, look, Nat.beq, Option.map] at hf
        exact ⟨i, Nat.lt_succ_self _, i, k, rfl, by omega, by omega, hf, e, Ho⟩

theorem sameL_spec {G : Nat → Prop} (r s : List Int) (v u : Value) (W : World) (h : (Dv (slE intE) G r).p v W) (h' : (Dv (slE intE) G s).p u W) (hl : r.length ≤ 4096) (hs : s.length ≤ 4096) :
    Calls Tryd.prog 40 #[v, u] W (Post (E (B (cmpL r s == 0))) W) := by
  refine enter (args := [v, u]) (As := [Dv (slE intE) G r, Dv (slE intE) G s]) Tryd.func40 rfl Tryd.ntmps40 (Nat.le_of_ble_eq_true rfl) ?_ (fun a hf => ?_) (Nat.le_of_ble_eq_true rfl)
  rotate_left
  dsimp only [params, Nat.reduceAdd] at hf
  rotate_right
  · exact arg2 h h'
  have e := Ext.rfl' W
  repeat refine seq ?_
  refine regn0 ?_
  refine tl_as hf rfl (by decide) fun a hf => ?_
  refine tl_nil ?_
  repeat refine seq ?_
  refine regn 4 hf (by decide +kernel) ?_
  refine st (mv rfl) ?_
  refine st (mv rfl) ?_
  refine st (call2 En112 rfl rfl (fun v u w _ h h' => cmp_spec _ _ _ _ _ h h' hl hs)) ?_
  refine st (eql rfl rfl) ?_
  refine en fun a w e' hf => ?_
  replace e := Ext.tr e e'
  clear e'
  refine tl_as hf rfl (by decide) fun a hf => ?_
  refine tl_nil ?_
  refine wret ?_
  try simp only [Exit.then, Exit.inBlock]
  refine ret1 rfl hf rfl ?_
  rintro _ rfl
  exact ⟨_, rfl, e, rfl⟩

/-- lists of sets, compared -/
def cmpLs : List (List Int) → List (List Int) → Int
  | [], [] => 0
  | [], _ :: _ => -1
  | _ :: _, [] => 1
  | x :: a, y :: b => if cmpL x y = 0 then cmpLs a b else cmpL x y

theorem cmpLs_spec {G : Nat → Prop} (r s : List (List Int)) (v u : Value) (W : World) (h : (Dv (slE (slE intE)) G r).p v W) (h' : (Dv (slE (slE intE)) G s).p u W) (hl : r.length ≤ 4096) (hs : s.length ≤ 4096) (hl' : ∀ x ∈ r, x.length ≤ 4096) (hs' : ∀ x ∈ s, x.length ≤ 4096) :
    Calls Tryd.prog 134 #[v, u] W (Post (E (I (cmpLs r s))) W) := by
  refine enter (args := [v, u]) (As := [Dv (slE (slE intE)) G r, Dv (slE (slE intE)) G s]) Tryd.func134 rfl Tryd.ntmps134 (Nat.le_of_ble_eq_true rfl) ?_ (fun a hf => ?_) (Nat.le_of_ble_eq_true rfl)
  rotate_left
  dsimp only [params, Nat.reduceAdd] at hf
  rotate_right
  · exact arg2 h h'
  have e := Ext.rfl' W
  repeat refine seq ?_
  refine regn0 ?_
  refine tl_as hf rfl (by decide) fun a hf => ?_
  refine tl_nil ?_
  repeat refine seq ?_
  refine regn0 ?_
  refine tl_as hf rfl (by decide) fun a hf => ?_
  refine tl_nil ?_
  replace hf := hf.keep [0, 1, 5]
  dsimp only [keep, List.filterMap, look, Nat.beq, Option.map] at hf
  repeat refine seq ?_
  refine blk (loopN (fun r0 a w => ∃ (k : Nat), r0 = r.length - k ∧ k ≤ r.length ∧ k ≤ s.length ∧ Fr 41 a w [(0, Dv (slE (slE intE)) G r), (1, Dv (slE (slE intE)) G s), (5, E (I k))] ∧ Ext W w ∧ cmpLs (r.drop k) (s.drop k) = cmpLs r s) r.length ⟨0, rfl, Nat.zero_le _, Nat.zero_le _, hf, e, rfl⟩ ?_)
  clear hf e
  rintro r0 a w ⟨k, rfl, hi, hk, hf, e, Ho⟩
  by_cases h1 : k < r.length ∧ k < s.length
  · obtain ⟨h1, h2⟩ := h1
    repeat refine seq ?_
    refine regn 10 hf (by decide +kernel) ?_
    refine st (mv rfl) ?_
    refine st (mv rfl) ?_
    refine st (lenD Tryd.underlying95 (isR rfl)) ?_
    refine st ((lss rfl rfl).eq (congrArg Value.bool (show decide ((k : Int) < (r.length : Nat)) = true from decide_eq_true (by omega)))) ?_
    refine st (mv rfl) ?_
    first | refine sn rfl rfl rfl ?_ | refine su rfl rfl ?_ | refine sy rfl rfl (mv rfl) ?_
    first | refine sn rfl rfl rfl ?_ | refine su rfl rfl ?_ | refine sy rfl rfl (mv rfl) ?_
    first | refine sn rfl rfl rfl ?_ | refine su rfl rfl ?_ | refine sy rfl rfl (lenD Tryd.underlying95 (isR rfl)) ?_
    first | refine sn rfl rfl rfl ?_ | refine su rfl rfl ?_ | refine sy rfl rfl ((lss rfl rfl).eq (congrArg Value.bool (show decide ((k : Int) < (s.length : Nat)) = true from decide_eq_true (by omega)))) ?_
    first | refine st (pkT rfl rfl) ?_ | refine st (pkF rfl rfl) ?_ | refine st (pk rfl rfl rfl) ?_
    refine en fun a w e' hf => ?_
    replace e := Ext.tr e e'
    clear e'
    refine tl_nil ?_
    repeat refine seq ?_
    refine ifc hf rfl (fun _ => ?_) (fun h => by cases h)
    refine wskip ?_
    try simp only [Exit.then, Exit.inBlock, ↓reduceIte]
    repeat refine seq ?_
    refine blk ?_
    have g1 : r[k]? = some r[k] := by simp [h1]
    have g2 : s[k]? = some s[k] := by simp [h2]
    replace hf := hf.keep [0, 1, 5]
    dsimp only [keep, List.filterMap, look, Nat.beq, Option.map] at hf
    repeat refine seq ?_
    refine reg 9 Mix.mix hf (by decide +kernel) ?_
    refine st (mv rfl) ?_
    refine st (mv rfl) ?_
    refine st (idxD Tryd.underlying95 S57 (isR rfl) rfl (by omega) (g1)) ?_
    refine st (ldD T57 (isR rfl)) ?_
    refine st (mv rfl) ?_
    refine st (mv rfl) ?_
    refine st (idxD Tryd.underlying95 S57 (isR rfl) rfl (by omega) (g2)) ?_
    refine st (ldD T57 (isR rfl)) ?_
    refine st (call2 En112 rfl rfl (fun v u w _ h h' => cmp_spec _ _ _ _ _ h h' (hl' _ (List.getElem_mem _)) (hs' _ (List.getElem_mem _)))) ?_
    refine en fun a w e' hf => ?_
    replace e := Ext.tr e e'
    clear e'
    refine tl_as hf rfl (by decide) fun a hf => ?_
    refine tl_nil ?_
    rw [List.drop_eq_getElem_cons h1, List.drop_eq_getElem_cons h2, cmpLs] at Ho
    repeat refine seq ?_
    refine regn 2 hf (by decide +kernel) ?_
    refine st (mv rfl) ?_
    refine st (neq rfl rfl) ?_
    refine en fun a w e' hf => ?_
    replace e := Ext.tr e e'
    clear e'
    refine tl_nil ?_
    repeat refine seq ?_
    refine ifc hf rfl (fun hb => ?_) (fun hb => ?_)
    · have hb' : cmpL r[k] s[k] ≠ 0 := by simpa using hb
      rw [if_neg hb'] at Ho
      repeat refine seq ?_
      refine regn 1 hf (by decide +kernel) ?_
      refine st (mv rfl) ?_
      refine en fun a w e' hf => ?_
      replace e := Ext.tr e e'
      clear e'
      refine tl_as hf rfl (by decide) fun a hf => ?_
      refine tl_nil ?_
      refine wret ?_
      try simp only [Exit.then, Exit.inBlock]
      refine ret1 rfl hf rfl ?_
      rintro _ rfl
      exact ⟨_, rfl, e, congrArg I Ho⟩
    · have hb' : cmpL r[k] s[k] = 0 := by simpa using hb
      rw [if_pos hb'] at Ho
      refine wskip ?_
      try simp only [Exit.then, Exit.inBlock, ↓reduceIte]
      repeat refine seq ?_
      refine regn 2 hf (by decide +kernel) ?_
      refine st (mv rfl) ?_
      refine st ((add rfl rfl (by omega)).eq (congrArg (Value.int .i64) (show (k : Int) + 1 = ((k + 1 : Nat) : Int) from rfl))) ?_
      refine en fun a w e' hf => ?_
      replace e := Ext.tr e e'
      clear e'
      refine tl_as hf rfl (by decide) fun a hf => ?_
      refine tl_nil ?_
      replace hf := hf.keep [0, 1, 5]
      dsimp only [keep, List.filterMap, look, Nat.beq, Option.map] at hf
      exact ⟨r.length - (k + 1), by omega, k + 1, rfl, by omega, by omega, hf, e, Ho⟩
  · cases h2 : decide ((k : Int) < (r.length : Nat))
    · have h2' := of_decide_eq_false h2
      obtain rfl : k = r.length := by omega
      repeat refine seq ?_
      refine regn 10 hf (by decide +kernel) ?_
      refine st (mv rfl) ?_
      refine st (mv rfl) ?_
      refine st (lenD Tryd.underlying95 (isR rfl)) ?_
      refine st ((lss rfl rfl).eq (congrArg Value.bool (h2))) ?_
      refine st (mv rfl) ?_
      first | refine sn rfl rfl rfl ?_ | refine su rfl rfl ?_ | refine sy rfl rfl (mv rfl) ?_
      first | refine sn rfl rfl rfl ?_ | refine su rfl rfl ?_ | refine sy rfl rfl (mv rfl) ?_
      first | refine sn rfl rfl rfl ?_ | refine su rfl rfl ?_ | refine sy rfl rfl (lenD Tryd.underlying95 (isR rfl)) ?_
      first | refine sn rfl rfl rfl ?_ | refine su rfl rfl ?_ | refine sy rfl rfl (lss rfl rfl) ?_
      first | refine st (pkT rfl rfl) ?_ | refine st (pkF rfl rfl) ?_ | refine st (pk rfl rfl rfl) ?_
      refine en fun a w e' hf => ?_
      replace e := Ext.tr e e'
      clear e'
      refine tl_nil ?_
      repeat refine seq ?_
      refine ifc hf rfl (fun h => by cases h) (fun _ => ?_)
      refine wexit ?_
      simp only [Exit.then, Exit.inBlock, ↓reduceIte]
      rw [List.drop_length] at Ho
      replace hf := hf.keep [0, 1]
      dsimp only [keep, List.filterMap, look, Nat.beq, Option.map] at hf
      repeat refine seq ?_
      refine regn 5 hf (by decide +kernel) ?_
      refine st (mv rfl) ?_
      refine st (lenD Tryd.underlying95 (isR rfl)) ?_
      refine st (mv rfl) ?_
      refine st (lenD Tryd.underlying95 (isR rfl)) ?_
      refine st (lss rfl rfl) ?_
      refine en fun a w e' hf => ?_
      replace e := Ext.tr e e'
      clear e'
      refine tl_nil ?_
      repeat refine seq ?_
      refine ifc hf rfl (fun hb => ?_) (fun hb => ?_)
      · have hb' := of_decide_eq_true hb
        rw [List.drop_eq_getElem_cons (by omega), cmpLs] at Ho
        repeat refine seq ?_
        refine regn0 ?_
        refine tl_as hf rfl (by decide) fun a hf => ?_
        refine tl_nil ?_
        refine wret ?_
        try simp only [Exit.then, Exit.inBlock]
        refine ret1 rfl hf rfl ?_
        rintro _ rfl
        exact ⟨_, rfl, e, congrArg I Ho⟩
      · have hb' := of_decide_eq_false hb
        rw [List.drop_eq_nil_of_le (by omega), cmpLs] at Ho
        refine wskip ?_
        try simp only [Exit.then, Exit.inBlock, ↓reduceIte]
        repeat refine seq ?_
        refine regn 5 hf (by decide +kernel) ?_
        refine st (mv rfl) ?_
        refine st (lenD Tryd.underlying95 (isR rfl)) ?_
        refine st (mv rfl) ?_
        refine st (lenD Tryd.underlying95 (isR rfl)) ?_
        refine st ((gtr rfl rfl).eq (congrArg Value.bool (show decide (((s.length : Nat) : Int) < (r.length : Nat)) = false from decide_eq_false (by omega)))) ?_
        refine en fun a w e' hf => ?_
        replace e := Ext.tr e e'
        clear e'
        refine tl_nil ?_
        repeat refine seq ?_
        refine ifc hf rfl (fun h => by cases h) (fun _ => ?_)
        refine wskip ?_
        try simp only [Exit.then, Exit.inBlock, ↓reduceIte]
        repeat refine seq ?_
        refine regn0 ?_
        refine tl_as hf rfl (by decide) fun a hf => ?_
        refine tl_nil ?_
        refine wret ?_
        try simp only [Exit.then, Exit.inBlock]
        refine ret1 rfl hf rfl ?_
        rintro _ rfl
        exact ⟨_, rfl, e, congrArg I Ho⟩
    · have h2' := of_decide_eq_true h2
      have h3 : ¬ k < s.length := by omega
      repeat refine seq ?_
      refine regn 10 hf (by decide +kernel) ?_
      refine st (mv rfl) ?_
      refine st (mv rfl) ?_
      refine st (lenD Tryd.underlying95 (isR rfl)) ?_
      refine st ((lss rfl rfl).eq (congrArg Value.bool (h2))) ?_
      refine st (mv rfl) ?_
      first | refine sn rfl rfl rfl ?_ | refine su rfl rfl ?_ | refine sy rfl rfl (mv rfl) ?_
      first | refine sn rfl rfl rfl ?_ | refine su rfl rfl ?_ | refine sy rfl rfl (mv rfl) ?_
      first | refine sn rfl rfl rfl ?_ | refine su rfl rfl ?_ | refine sy rfl rfl (lenD Tryd.underlying95 (isR rfl)) ?_
      first | refine sn rfl rfl rfl ?_ | refine su rfl rfl ?_ | refine sy rfl rfl ((lss rfl rfl).eq (congrArg Value.bool (show decide ((k : Int) < (s.length : Nat)) = false from decide_eq_false (by omega)))) ?_
      first | refine st (pkT rfl rfl) ?_ | refine st (pkF rfl rfl) ?_ | refine st (pk rfl rfl rfl) ?_
      refine en fun a w e' hf => ?_
      replace e := Ext.tr e e'
      clear e'
      refine tl_nil ?_
      repeat refine seq ?_
      refine ifc hf rfl (fun h => by cases h) (fun _ => ?_)
      refine wexit ?_
      simp only [Exit.then, Exit.inBlock, ↓reduceIte]
      rw [List.drop_eq_getElem_cons (by omega), show s.drop k = [] from List.drop_eq_nil_of_le (by omega), cmpLs] at Ho
      replace hf := hf.keep [0, 1]
      dsimp only [keep, List.filterMap, look, Nat.beq, Option.map] at hf
      repeat refine seq ?_
      refine regn 5 hf (by decide +kernel) ?_
      refine st (mv rfl) ?_
      refine st (lenD Tryd.underlying95 (isR rfl)) ?_
      refine st (mv rfl) ?_
      refine st (lenD Tryd.underlying95 (isR rfl)) ?_
      refine st ((lss rfl rfl).eq (congrArg Value.bool (show decide (((r.length : Nat) : Int) < (s.length : Nat)) = false from decide_eq_false (by omega)))) ?_
      refine en fun a w e' hf => ?_
      replace e := Ext.tr e e'
      clear e'
      refine tl_nil ?_
      repeat refine seq ?_
      refine ifc hf rfl (fun h => by cases h) (fun _ => ?_)
      refine wskip ?_
      try simp only [Exit.then, Exit.inBlock, ↓reduceIte]
      repeat refine seq ?_
      refine regn 5 hf (by decide +kernel) ?_
      refine st (mv rfl) ?_
      refine st (lenD Tryd.underlying95 (isR rfl)) ?_
      refine st (mv rfl) ?_
      refine st (lenD Tryd.underlying95 (isR rfl)) ?_
      refine st ((gtr rfl rfl).eq (congrArg Value.bool (show decide (((s.length : Nat) : Int) < (r.length : Nat)) = true from decide_eq_true (by omega)))) ?_
      refine en fun a w e' hf => ?_
      replace e := Ext.tr e e'
      clear e'
      refine tl_nil ?_
      repeat refine seq ?_
      refine ifc hf rfl (fun _ => ?_) (fun h => by cases h)
      repeat refine seq ?_
      refine regn0 ?_
      refine tl_as hf rfl (by decide) fun a hf => ?_
      refine tl_nil ?_
      refine wret ?_
      try simp only [Exit.then, Exit.inBlock]
      refine ret1 rfl hf rfl ?_
      rintro _ rfl
      exact ⟨_, rfl, e, congrArg I Ho⟩

theorem sameLs_spec {G : Nat → Prop} (r s : List (List Int)) (v u : Value) (W : World) (h : (Dv (slE (slE intE)) G r).p v W) (h' : (Dv (slE (slE intE)) G s).p u W) (hl : r.length ≤ 4096) (hs : s.length ≤ 4096) (hl' : ∀ x ∈ r, x.length ≤ 4096) (hs' : ∀ x ∈ s, x.length ≤ 4096) :
    Calls Tryd.prog 85 #[v, u] W (Post (E (B (cmpLs r s == 0))) W) := by
  refine enter (args := [v, u]) (As := [Dv (slE (slE intE)) G r, Dv (slE (slE intE)) G s]) Tryd.func85 rfl Tryd.ntmps85 (Nat.le_of_ble_eq_true rfl) ?_ (fun a hf => ?_) (Nat.le_of_ble_eq_true rfl)
  rotate_left
  dsimp only [params, Nat.reduceAdd] at hf
  rotate_right
  · exact arg2 h h'
  have e := Ext.rfl' W
  repeat refine seq ?_
  refine regn0 ?_
  refine tl_as hf rfl (by decide) fun a hf => ?_
  refine tl_nil ?_
  repeat refine seq ?_
  refine regn 4 hf (by decide +kernel) ?_
  refine st (mv rfl) ?_
  refine st (mv rfl) ?_
  refine st (call2 En134 rfl rfl (fun v u w _ h h' => cmpLs_spec _ _ _ _ _ h h' hl hs hl' hs')) ?_
  refine st (eql rfl rfl) ?_
  refine en fun a w e' hf => ?_
  replace e := Ext.tr e e'
  clear e'
  refine tl_as hf rfl (by decide) fun a hf => ?_
  refine tl_nil ?_
  refine wret ?_
  try simp only [Exit.then, Exit.inBlock]
  refine ret1 rfl hf rfl ?_
  rintro _ rfl
  exact ⟨_, rfl, e, rfl⟩

/-- the elements of a set, ascending -/
def toL (S : BS) : List Int := selN (fun i => S.getLsbD i) 1024
theorem toL_len (S : BS) : (toL S).length ≤ 1024 := selN_len _ _

theorem shr_one (x : BitVec 64) (j : Nat) : ((x >>> j &&& 1#64) == 1#64) = x.getLsbD j := by
  rw [Bool.eq_iff_iff, beq_iff_eq]
  constructor
  · intro h
    have := congrArg (fun y : BitVec 64 => y.getLsbD 0) h
    simpa using this
  · intro h
    refine BitVec.eq_of_getLsbD_eq fun i hi => ?_
    rw [BitVec.getLsbD_and, BitVec.getLsbD_ushiftRight, BitVec.getLsbD_one]
    by_cases hi0 : i = 0
    · subst hi0; simp [h]
    · simp [hi0]
theorem toL_bit (S : BS) {k : Nat} (h : k < 1024) : ((word S ((k : Int) / 64).toNat >>> ((k : Int) % 64).toNat &&& 1#64) == 1#64) = S.getLsbD k := by
  rw [shr_one, word_bit _ _ _ (by omega)]
  congr 1
  omega

theorem toL_spec {G : Nat → Prop} (S : BS) (W : World) (hG : ∀ b, G b → b < W.heap.size) : Calls Tryd.prog 41 #[setV S] W (Post (Dv (slE intE) G (toL S)) W) := by
  refine enter (args := [setV S]) (As := [E (setV S)]) Tryd.func41 rfl Tryd.ntmps41 (Nat.le_of_ble_eq_true rfl) ?_ (fun a hf => ?_) (Nat.le_of_ble_eq_true rfl)
  rotate_left
  dsimp only [params, Nat.reduceAdd] at hf
  rotate_right
  · exact arg1 rfl
  have e := Ext.rfl' W
  repeat refine seq ?_
  refine regn0 ?_
  refine tl_box hf rfl (by decide) fun a b1 w v1 hv1 e' hb1 hs1 B1 hf => ?_
  have hle1 := Nat.le_trans e.size (Nat.le_of_eq hb1.symm)
  replace e := Ext.tr e e'
  clear e'
  refine tl_as hf rfl (by decide) fun a hf => ?_
  refine tl_nil ?_
  subst hv1
  rw [setV_cells] at B1
  have hne : W.heap.size ≤ b1 := by omega
  replace hf := hf.keep [1]
  dsimp only [keep, List.filterMap, look, Nat.beq, Option.map] at hf
  repeat refine seq ?_
  refine regn0 ?_
  refine tl_bsl0 W.heap.size G intE Tryd.underlying57 S3 hf (by decide) e.size hG fun a v w e' hov Ho hf => ?_
  replace e := Ext.tr e e'
  replace B1 := B1.ext e'
  clear e'
  refine tl_as hf rfl (by decide) fun a hf => ?_
  refine tl_nil ?_
  repeat refine seq ?_
  refine regn0 ?_
  refine tl_as hf rfl (by decide) fun a hf => ?_
  refine tl_nil ?_
  have hov : v.ownBlock ≠ some b1 := by rw [hov]; simp; omega
  replace hf := hf.keep [1, 3, 4]
  dsimp only [keep, List.filterMap, look, Nat.beq, Option.map] at hf
  repeat refine seq ?_
  refine blk (loopN (fun r0 a w => ∃ (k : Nat) (u : Value), r0 = 1024 - k ∧ k ≤ 1024 ∧ Fr 24 a w [(1, E (.pointer (some ⟨b1, 0, none⟩))), (3, E u), (4, E (I k))] ∧ Ext W w ∧ Blk w b1 (setC S) 37 ∧ u.ownBlock ≠ some b1 ∧ OwR intE 3 W.heap.size G w (selN (fun i => S.getLsbD i) k) u) 1024 ⟨0, _, rfl, by omega, hf, e, B1, hov, Ho⟩ ?_)
  clear hf e; try clear B1; try clear hov; try clear Ho
  rintro r0 a w ⟨k, u, rfl, hk, hf, e, B1, hov, Ho⟩
  repeat refine seq ?_
  refine regn 2 hf (by decide +kernel) ?_
  refine st (mv rfl) ?_
  refine st (lss rfl rfl) ?_
  refine en fun a w e' hf => ?_
  replace e := Ext.tr e e'
  replace B1 := B1.ext e'
  replace Ho := Ho.ext e'
  clear e'
  refine tl_nil ?_
  repeat refine seq ?_
  refine ifc hf rfl (fun hc => wskip ?_) (fun hc => wexit ?_)
  rotate_left
  rotate_left
  · have hlt : k < 1024 := by have := of_decide_eq_true hc; (try dsimp only at this); omega
    clear hc
    replace hf := hf.keep [1, 3, 4]
    dsimp only [keep, List.filterMap, look, Nat.beq, Option.map] at hf
    repeat refine seq ?_
    refine blk ?_
    have hsel := selN_len (fun i => S.getLsbD i) k
    repeat refine seq ?_
    refine regn 9 hf (by decide +kernel) ?_
    refine st (mv rfl) ?_
    refine st (quo rfl rfl (by omega)) ?_
    refine st (idxA Tryd.underlying37 ⟨_, T35⟩ rfl rfl (by omega)) ?_
    refine st (ld1 T35 rfl B1 (by rw [Nat.zero_add, Nat.mul_one, setC]; exact wordsC_get _ _ (by omega))) ?_
    refine st (mv rfl) ?_
    refine st (rem rfl rfl (by omega)) ?_
    refine st (shrW rfl rfl (by omega)) ?_
    refine st (andW (v := 1#64) rfl rfl) ?_
    refine st ((eqlW (v := 1#64) rfl rfl).eq (congrArg Value.bool (toL_bit S hlt))) ?_
    refine en fun a w e' hf => ?_
    replace e := Ext.tr e e'
    replace B1 := B1.ext e'
    replace Ho := Ho.ext e'
    clear e'
    refine tl_nil ?_
    repeat refine seq ?_
    refine ifc hf rfl (fun hb => ?_) (fun hb => ?_)
    · replace hf := hf.keep [1, 3, 4]
      dsimp only [keep, List.filterMap, look, Nat.beq, Option.map] at hf
      repeat refine seq ?_
      refine regn 3 hf (by decide +kernel) ?_
      refine st (mv rfl) ?_
      refine st (mv rfl) ?_
      refine st (bsl1 Tryd.underlying57 I3 rfl (by decide) rfl Ho.avs (isI rfl)) ?_
      refine en fun a w e' hf => ?_
      replace e := Ext.tr e e'
      replace B1 := B1.ext e'
      replace Ho := Ho.ext e'
      clear e'
      haveI hin : ∀ G0, InR (GB W G0) _ := OwR.inGB Ho (Nat.le_refl _)
      refine tl_app Tryd.underlying57 I3 rfl rfl hf (by decide) rfl Ho (isR rfl) (by simp only [List.length_singleton]; omega) (by simp only [List.length_singleton, maxLen]; omega) fun a v w hg hat Hn hf => ?_
      replace e := e.gro hg (Ho.row (Nat.le_refl _))
      have hov' := own_ne hat hov B1.lt
      replace B1 := B1.gro hg (by assumption)
      replace hov := hov'; clear hov'
      replace Ho := Hn; clear Hn hg hat hin
      refine tl_as hf rfl (by decide) fun a hf => ?_
      refine tl_nil ?_
      try simp only [Exit.then, Exit.inBlock, ↓reduceIte]
      repeat refine seq ?_
      refine regn 2 hf (by decide +kernel) ?_
      refine st (mv rfl) ?_
      refine st ((add rfl rfl (by omega)).eq (congrArg (Value.int .i64) (show (k : Int) + 1 = ((k + 1 : Nat) : Int) from rfl))) ?_
      refine en fun a w e' hf => ?_
      replace e := Ext.tr e e'
      replace B1 := B1.ext e'
      replace Ho := Ho.ext e'
      clear e'
      refine tl_as hf rfl (by decide) fun a hf => ?_
      refine tl_nil ?_
      replace hf := hf.keep [1, 3, 4]
      dsimp only [keep, List.filterMap, look, Nat.beq, Option.map] at hf
      refine ⟨_, ?_, k + 1, _, rfl, by omega, hf, e, ?_⟩
      · omega
      rw [selN_succ, if_pos hb]; exact ⟨B1, hov, Ho⟩
    · refine wskip ?_
      try simp only [Exit.then, Exit.inBlock, ↓reduceIte]
      try simp only [Exit.then, Exit.inBlock, ↓reduceIte]
      repeat refine seq ?_
      refine regn 2 hf (by decide +kernel) ?_
      refine st (mv rfl) ?_
      refine st ((add rfl rfl (by omega)).eq (congrArg (Value.int .i64) (show (k : Int) + 1 = ((k + 1 : Nat) : Int) from rfl))) ?_
      refine en fun a w e' hf => ?_
      replace e := Ext.tr e e'
      replace B1 := B1.ext e'
      replace Ho := Ho.ext e'
      clear e'
      refine tl_as hf rfl (by decide) fun a hf => ?_
      refine tl_nil ?_
      replace hf := hf.keep [1, 3, 4]
      dsimp only [keep, List.filterMap, look, Nat.beq, Option.map] at hf
      refine ⟨_, ?_, k + 1, _, rfl, by omega, hf, e, ?_⟩
      · omega
      rw [selN_succ, if_neg (by simp [hb])]; exact ⟨B1, hov, Ho⟩
  · obtain rfl : k = 1024 := by have := of_decide_eq_false hc; (try dsimp only at this); omega
    clear hc
    simp only [Exit.then, Exit.inBlock, ↓reduceIte]
    repeat refine seq ?_
    refine regn 1 hf (by decide +kernel) ?_
    refine st (mv rfl) ?_
    refine en fun a w e' hf => ?_
    replace e := Ext.tr e e'
    replace B1 := B1.ext e'
    replace Ho := Ho.ext e'
    clear e'
    refine tl_as hf rfl (by decide) fun a hf => ?_
    refine tl_nil ?_
    refine wret ?_
    try simp only [Exit.then, Exit.inBlock]
    refine ret1 rfl hf rfl ?_
    rintro _ rfl
    exact ⟨_, rfl, e, Ho.sl⟩
end Go.Mono

set_option linter.unusedVariables false
namespace Go.Mono
open Go Go.Proofs Go.RowKit

/-- a bag of the reference: the bag above it, its vertices -/
abbrev RB := Int × List Int
abbrev rbE : Enc RB := prE intE (slE intE)
abbrev rtE : Enc (List RB) := slE rbE
/-- the bag above bag i -/
def up (xs : List RB) (i : Nat) : Int := match xs[i]? with
  | some b => b.1
  | none => 0
def hs (xs : List RB) (i : Nat) : List Int := match xs[i]? with
  | some b => b.2
  | none => []
theorem up_get {xs : List RB} {i : Nat} (h : i < xs.length) : xs[i]? = some (up xs i, hs xs i) := by
  simp [up, hs, h]
def kids (xs : List RB) (at_ : Int) : List Int := selN (fun i => decide (up xs i = at_)) xs.length

theorem kids_spec {G : Nat → Prop} (xs : List RB) (b : Int) (v : Value) (W : World) (h : (Dv rtE G xs).p v W) (hG : ∀ b, G b → b < W.heap.size) (hl : xs.length ≤ 4096) :
    Calls Tryd.prog 44 #[v, I b] W (Post (Dv (slE intE) G (kids xs b)) W) := by
  refine enter (args := [v, I b]) (As := [Dv rtE (GB W G) xs, E (I b)]) Tryd.func44 rfl Tryd.ntmps44 (Nat.le_of_ble_eq_true rfl) ?_ (fun a hf => ?_) (Nat.le_of_ble_eq_true rfl)
  rotate_left
  dsimp only [params, Nat.reduceAdd] at hf
  rotate_right
  · exact arg2 (Dv.toB h) rfl
  have e := Ext.rfl' W
  repeat refine seq ?_
  refine regn0 ?_
  refine tl_as hf rfl (by decide) fun a hf => ?_
  refine tl_nil ?_
  repeat refine seq ?_
  refine regn0 ?_
  refine tl_as hf rfl (by decide) fun a hf => ?_
  refine tl_nil ?_
  repeat refine seq ?_
  refine regn0 ?_
  refine tl_as hf rfl (by decide) fun a hf => ?_
  refine tl_nil ?_
  have Ho : OwR intE 3 W.heap.size G W [] (.slice none 0 0) := OwR.nil intE _ e.size hG
  replace hf := hf.keep [0, 1, 5, 6]
  dsimp only [keep, List.filterMap, look, Nat.beq, Option.map] at hf
  replace hf := hf.keep [0, 1, 5, 6]
  dsimp only [keep, List.filterMap, look, Nat.beq, Option.map] at hf
  repeat refine seq ?_
  refine blk (loopN (fun r0 a w => ∃ (k : Nat) (u : Value), r0 = xs.length - k ∧ k ≤ xs.length ∧ Fr 25 a w [(0, Dv rtE (GB W G) xs), (1, E (I b)), (5, E u), (6, E (I k))] ∧ Ext W w ∧ OwR intE 3 W.heap.size G w (selN (fun i => decide (up xs i = b)) k) u) xs.length ⟨0, _, rfl, by omega, hf, e, Ho⟩ ?_)
  clear hf e; try clear Ho
  rintro r0 a w ⟨k, u, rfl, hk, hf, e, Ho⟩
  repeat refine seq ?_
  refine regn 4 hf (by decide +kernel) ?_
  refine st (mv rfl) ?_
  refine st (mv rfl) ?_
  refine st (lenD Tryd.underlying26 (isR rfl)) ?_
  refine st (lss rfl rfl) ?_
  refine en fun a w e' hf => ?_
  replace e := Ext.tr e e'
  replace Ho := Ho.ext e'
  clear e'
  refine tl_nil ?_
  repeat refine seq ?_
  refine ifc hf rfl (fun hc => wskip ?_) (fun hc => wexit ?_)
  rotate_left
  rotate_left
  · have hlt : k < xs.length := by have := of_decide_eq_true hc; (try dsimp only at this); omega
    clear hc
    replace hf := hf.keep [0, 1, 5, 6]
    dsimp only [keep, List.filterMap, look, Nat.beq, Option.map] at hf
    repeat refine seq ?_
    refine blk ?_
    repeat refine seq ?_
    refine regn 7 hf (by decide +kernel) ?_
    refine st (mv rfl) ?_
    refine st (mv rfl) ?_
    refine st (idxD Tryd.underlying26 S60 (isR rfl) rfl (by omega) (up_get hlt)) ?_
    refine st (fldD Tryd.underlying60 rfl T3 (by decide) (Fld.fst Fld.refl) (isR rfl)) ?_
    refine st (ldI T3 (isR rfl)) ?_
    refine st (mv rfl) ?_
    refine st (eql rfl rfl) ?_
    refine en fun a w e' hf => ?_
    replace e := Ext.tr e e'
    replace Ho := Ho.ext e'
    clear e'
    refine tl_nil ?_
    repeat refine seq ?_
    refine ifc hf rfl (fun hb => ?_) (fun hb => ?_)
    · have hsel := selN_len (fun i => decide (up xs i = b)) k
      replace hf := hf.keep [0, 1, 5, 6]
      dsimp only [keep, List.filterMap, look, Nat.beq, Option.map] at hf
      repeat refine seq ?_
      refine regn 3 hf (by decide +kernel) ?_
      refine st (mv rfl) ?_
      refine st (mv rfl) ?_
      refine st (bsl1 Tryd.underlying43 I3 rfl (by decide) rfl Ho.avs (isI rfl)) ?_
      refine en fun a w e' hf => ?_
      replace e := Ext.tr e e'
      replace Ho := Ho.ext e'
      clear e'
      haveI hin : ∀ G0, InR (GB W G0) _ := OwR.inGB Ho (Nat.le_refl _)
      refine tl_app Tryd.underlying43 I3 rfl rfl hf (by decide) rfl Ho (isR rfl) (by simp only [List.length_singleton]; omega) (by simp only [List.length_singleton, maxLen]; omega) fun a v w hg hat Hn hf => ?_
      replace e := e.gro hg (Ho.row (Nat.le_refl _))
      replace Ho := Hn; clear Hn hg hat hin
      refine tl_as hf rfl (by decide) fun a hf => ?_
      refine tl_nil ?_
      try simp only [Exit.then, Exit.inBlock, ↓reduceIte]
      repeat refine seq ?_
      refine regn 2 hf (by decide +kernel) ?_
      refine st (mv rfl) ?_
      refine st ((add rfl rfl (by omega)).eq (congrArg (Value.int .i64) (show (k : Int) + 1 = ((k + 1 : Nat) : Int) from rfl))) ?_
      refine en fun a w e' hf => ?_
      replace e := Ext.tr e e'
      replace Ho := Ho.ext e'
      clear e'
      refine tl_as hf rfl (by decide) fun a hf => ?_
      refine tl_nil ?_
      replace hf := hf.keep [0, 1, 5, 6]
      dsimp only [keep, List.filterMap, look, Nat.beq, Option.map] at hf
      refine ⟨_, ?_, k + 1, _, rfl, by omega, hf, e, ?_⟩
      · omega
      rw [selN_succ, if_pos (by simpa using hb)]; exact Ho
    · refine wskip ?_
      try simp only [Exit.then, Exit.inBlock, ↓reduceIte]
      try simp only [Exit.then, Exit.inBlock, ↓reduceIte]
      repeat refine seq ?_
      refine regn 2 hf (by decide +kernel) ?_
      refine st (mv rfl) ?_
      refine st ((add rfl rfl (by omega)).eq (congrArg (Value.int .i64) (show (k : Int) + 1 = ((k + 1 : Nat) : Int) from rfl))) ?_
      refine en fun a w e' hf => ?_
      replace e := Ext.tr e e'
      replace Ho := Ho.ext e'
      clear e'
      refine tl_as hf rfl (by decide) fun a hf => ?_
      refine tl_nil ?_
      replace hf := hf.keep [0, 1, 5, 6]
      dsimp only [keep, List.filterMap, look, Nat.beq, Option.map] at hf
      refine ⟨_, ?_, k + 1, _, rfl, by omega, hf, e, ?_⟩
      · omega
      rw [selN_succ, if_neg (by simpa using hb)]; exact Ho
  · obtain rfl : k = xs.length := by have := of_decide_eq_false hc; (try dsimp only at this); omega
    clear hc
    simp only [Exit.then, Exit.inBlock, ↓reduceIte]
    repeat refine seq ?_
    refine regn 1 hf (by decide +kernel) ?_
    refine st (mv rfl) ?_
    refine en fun a w e' hf => ?_
    replace e := Ext.tr e e'
    replace Ho := Ho.ext e'
    clear e'
    refine tl_as hf rfl (by decide) fun a hf => ?_
    refine tl_nil ?_
    refine wret ?_
    try simp only [Exit.then, Exit.inBlock]
    refine ret1 rfl hf rfl ?_
    rintro _ rfl
    exact ⟨_, rfl, e, Ho.sl⟩
end Go.Mono

set_option linter.unusedVariables false
namespace Go.Mono
open Go Go.Proofs Go.RowKit

/-- the first of some numbers below n for which p holds, or -1 -/
def fstN (p : Nat → Bool) : Nat → Int
  | 0 => -1
  | n + 1 => if fstN p n = -1 then (if p n then (n : Int) else -1) else fstN p n
theorem fstN_none {p : Nat → Bool} : ∀ {n : Nat}, (∀ i, i < n → p i = false) → fstN p n = -1
  | 0, _ => rfl
  | n + 1, h => by
    rw [fstN, if_pos (fstN_none fun i hi => h i (by omega)), h n (by omega)]; rfl
theorem fstN_hit {p : Nat → Bool} {k : Nat} : ∀ {n : Nat}, k < n → (∀ i, i < k → p i = false) → p k = true → fstN p n = k
  | 0, h, _, _ => by omega
  | n + 1, h, h1, h2 => by
    rw [fstN]
    by_cases hk : k = n
    · subst hk
      rw [if_pos (fstN_none h1), h2]; rfl
    · rw [fstN_hit (by omega) h1 h2, if_neg (by omega)]

def rootR (xs : List RB) : Int := fstN (fun i => decide (up xs i < 0)) xs.length

theorem rootR_spec {G : Nat → Prop} (xs : List RB) (v : Value) (W : World) (h : (Dv rtE G xs).p v W) (hl : xs.length ≤ 4096) :
    Calls Tryd.prog 34 #[v] W (Post (E (I (rootR xs))) W) := by
  refine enter (args := [v]) (As := [Dv rtE G xs]) Tryd.func34 rfl Tryd.ntmps34 (Nat.le_of_ble_eq_true rfl) ?_ (fun a hf => ?_) (Nat.le_of_ble_eq_true rfl)
  rotate_left
  dsimp only [params, Nat.reduceAdd] at hf
  rotate_right
  · exact arg1 h
  have e := Ext.rfl' W
  repeat refine seq ?_
  refine regn0 ?_
  refine tl_as hf rfl (by decide) fun a hf => ?_
  refine tl_nil ?_
  repeat refine seq ?_
  refine regn0 ?_
  refine tl_as hf rfl (by decide) fun a hf => ?_
  refine tl_nil ?_
  replace hf := hf.keep [0, 3]
  dsimp only [keep, List.filterMap, look, Nat.beq, Option.map] at hf
  repeat refine seq ?_
  refine blk (loopN (fun r0 a w => ∃ (k : Nat) , r0 = xs.length - k ∧ k ≤ xs.length ∧ Fr 17 a w [(0, Dv rtE G xs), (3, E (I k))] ∧ Ext W w ∧ ∀ i, i < k → decide (up xs i < 0) = false) xs.length ⟨0, rfl, by omega, hf, e, (fun i hi => by omega)⟩ ?_)
  clear hf e; try clear Ho
  rintro r0 a w ⟨k, rfl, hk, hf, e, Ho⟩
  repeat refine seq ?_
  refine regn 4 hf (by decide +kernel) ?_
  refine st (mv rfl) ?_
  refine st (mv rfl) ?_
  refine st (lenD Tryd.underlying26 (isR rfl)) ?_
  refine st (lss rfl rfl) ?_
  refine en fun a w e' hf => ?_
  replace e := Ext.tr e e'
  clear e'
  refine tl_nil ?_
  repeat refine seq ?_
  refine ifc hf rfl (fun hc => wskip ?_) (fun hc => wexit ?_)
  rotate_left
  rotate_left
  · have hlt : k < xs.length := by have := of_decide_eq_true hc; (try dsimp only at this); omega
    clear hc
    replace hf := hf.keep [0, 3]
    dsimp only [keep, List.filterMap, look, Nat.beq, Option.map] at hf
    repeat refine seq ?_
    refine blk ?_
    repeat refine seq ?_
    refine regn 6 hf (by decide +kernel) ?_
    refine st (mv rfl) ?_
    refine st (mv rfl) ?_
    refine st (idxD Tryd.underlying26 S60 (isR rfl) rfl (by omega) (up_get hlt)) ?_
    refine st (fldD Tryd.underlying60 rfl T3 (by decide) (Fld.fst Fld.refl) (isR rfl)) ?_
    refine st (ldI T3 (isR rfl)) ?_
    refine st (lss rfl rfl) ?_
    refine en fun a w e' hf => ?_
    replace e := Ext.tr e e'
    clear e'
    refine tl_nil ?_
    repeat refine seq ?_
    refine ifc hf rfl (fun hb => ?_) (fun hb => ?_)
    · repeat refine seq ?_
      refine regn 1 hf (by decide +kernel) ?_
      refine st (mv rfl) ?_
      refine en fun a w e' hf => ?_
      replace e := Ext.tr e e'
      clear e'
      refine tl_as hf rfl (by decide) fun a hf => ?_
      refine tl_nil ?_
      refine wret ?_
      try simp only [Exit.then, Exit.inBlock]
      refine ret1 rfl hf rfl ?_
      rintro _ rfl
      exact ⟨_, rfl, e, congrArg I (fstN_hit hlt Ho hb).symm⟩
    · refine wskip ?_
      try simp only [Exit.then, Exit.inBlock, ↓reduceIte]
      try simp only [Exit.then, Exit.inBlock, ↓reduceIte]
      repeat refine seq ?_
      refine regn 2 hf (by decide +kernel) ?_
      refine st (mv rfl) ?_
      refine st ((add rfl rfl (by omega)).eq (congrArg (Value.int .i64) (show (k : Int) + 1 = ((k + 1 : Nat) : Int) from rfl))) ?_
      refine en fun a w e' hf => ?_
      replace e := Ext.tr e e'
      clear e'
      refine tl_as hf rfl (by decide) fun a hf => ?_
      refine tl_nil ?_
      replace hf := hf.keep [0, 3]
      dsimp only [keep, List.filterMap, look, Nat.beq, Option.map] at hf
      refine ⟨_, ?_, k + 1, rfl, by omega, hf, e, ?_⟩
      · omega
      intro i hi
      by_cases hk : i = k
      · subst hk; exact hb
      · exact Ho i (by omega)
  · obtain rfl : k = xs.length := by have := of_decide_eq_false hc; (try dsimp only at this); omega
    clear hc
    simp only [Exit.then, Exit.inBlock, ↓reduceIte]
    repeat refine seq ?_
    refine regn0 ?_
    refine tl_as hf rfl (by decide) fun a hf => ?_
    refine tl_nil ?_
    refine wret ?_
    try simp only [Exit.then, Exit.inBlock]
    refine ret1 rfl hf rfl ?_
    rintro _ rfl
    exact ⟨_, rfl, e, congrArg I (fstN_none Ho).symm⟩

/-- bag i has the vertex, the bag above does not -/
def topB (xs : List RB) (id : Int) (i : Nat) : Bool := hasL (hs xs i) id && (decide (up xs i < 0) || !hasL (hs xs (up xs i).toNat) id)
def topsR (xs : List RB) (id : Int) : List Int := selN (topB xs id) xs.length
/-- the bags above lie in the tree; the vertices' lists are short -/
structure Ok (xs : List RB) : Prop where
  up : ∀ i, i < xs.length → up xs i < xs.length
  hs : ∀ i, i < xs.length → (hs xs i).length ≤ 4096
theorem topB_eq {xs : List RB} {id : Int} {i : Nat} {a b c : Bool} (h1 : hasL (hs xs i) id = a) (h2 : decide (up xs i < 0) = b) (h3 : hasL (hs xs (up xs i).toNat) id = c) : (a && (b || !c)) = topB xs id i := by
  rw [topB, h1, h2, h3]

theorem topsR_spec {G : Nat → Prop} (xs : List RB) (id : Int) (v : Value) (W : World) (h : (Dv rtE G xs).p v W) (hG : ∀ b, G b → b < W.heap.size) (hl : xs.length ≤ 4096) (hok : Ok xs) :
    Calls Tryd.prog 145 #[v, I id] W (Post (Dv (slE intE) G (topsR xs id)) W) := by
  refine enter (args := [v, I id]) (As := [Dv rtE (GB W G) xs, E (I id)]) Tryd.func145 rfl Tryd.ntmps145 (Nat.le_of_ble_eq_true rfl) ?_ (fun a hf => ?_) (Nat.le_of_ble_eq_true rfl)
  rotate_left
  dsimp only [params, Nat.reduceAdd] at hf
  rotate_right
  · exact arg2 (Dv.toB h) rfl
  have e := Ext.rfl' W
  repeat refine seq ?_
  refine regn0 ?_
  refine tl_as hf rfl (by decide) fun a hf => ?_
  refine tl_nil ?_
  repeat refine seq ?_
  refine regn0 ?_
  refine tl_as hf rfl (by decide) fun a hf => ?_
  refine tl_nil ?_
  repeat refine seq ?_
  refine regn0 ?_
  refine tl_as hf rfl (by decide) fun a hf => ?_
  refine tl_nil ?_
  replace hf := hf.keep [0, 1, 5, 6]
  dsimp only [keep, List.filterMap, look, Nat.beq, Option.map] at hf
  repeat refine seq ?_
  refine blk (loopN (fun r0 a w => ∃ (k : Nat) (u : Value), r0 = xs.length - k ∧ k ≤ xs.length ∧ Fr 47 a w [(0, Dv rtE (GB W G) xs), (1, E (I id)), (5, E u), (6, E (I k))] ∧ Ext W w ∧ OwR intE 3 W.heap.size G w (selN (topB xs id) k) u) xs.length ⟨0, _, rfl, by omega, hf, e, OwR.nil intE _ (Nat.le_refl _) hG⟩ ?_)
  clear hf e; try clear Ho
  rintro r0 a w ⟨k, u, rfl, hk, hf, e, Ho⟩
  repeat refine seq ?_
  refine regn 4 hf (by decide +kernel) ?_
  refine st (mv rfl) ?_
  refine st (mv rfl) ?_
  refine st (lenD Tryd.underlying26 (isR rfl)) ?_
  refine st (lss rfl rfl) ?_
  refine en fun a w e' hf => ?_
  replace e := Ext.tr e e'
  replace Ho := Ho.ext e'
  clear e'
  refine tl_nil ?_
  repeat refine seq ?_
  refine ifc hf rfl (fun hc => wskip ?_) (fun hc => wexit ?_)
  rotate_left
  rotate_left
  · have hlt : k < xs.length := by have := of_decide_eq_true hc; (try dsimp only at this); omega
    clear hc
    replace hf := hf.keep [0, 1, 5, 6]
    dsimp only [keep, List.filterMap, look, Nat.beq, Option.map] at hf
    repeat refine seq ?_
    refine blk ?_
    have hx := up_get hlt
    obtain ⟨c, hc0⟩ : ∃ c : Bool, c = topB xs id k := ⟨_, rfl⟩
    repeat refine seq ?_
    refine cut (J := fun a w => Fr 47 a w [(0, Dv rtE (GB W G) xs), (1, E (I id)), (5, E u), (6, E (I k)), (41, E (B c))] ∧ Ext W w ∧ OwR intE 3 W.heap.size G w (selN (topB xs id) k) u) ?_ (fun a w hJ => ?_)
    · cases h1 : hasL (hs xs k) id
      all_goals cases h2 : decide (up xs k < 0)
      all_goals cases h3 : hasL (hs xs (up xs k).toNat) id
      all_goals try have h2' := of_decide_eq_false h2
      all_goals
        repeat refine seq ?_
        refine regn 29 hf (by decide +kernel) ?_
        refine st (mv rfl) ?_
        refine st (mv rfl) ?_
        refine st (idxD Tryd.underlying26 S60 (isR rfl) rfl (by omega) (hx)) ?_
        refine st (fldD Tryd.underlying60 rfl T57 (by decide) (Fld.snd Fld.refl rfl) (isR rfl)) ?_
        refine st (ldD T57 (isR rfl)) ?_
        refine st (mv rfl) ?_
        refine st ((call2 En84 rfl rfl (fun v u w he h h' => by cases h'; exact hasL_spec _ _ _ _ h (hok.hs k hlt))).eq (congrArg Value.bool (h1))) ?_
        refine st (mv rfl) ?_
        first | refine sn rfl rfl rfl ?_ | refine su rfl rfl ?_ | refine sy rfl rfl (mv rfl) ?_
        first | refine sn rfl rfl rfl ?_ | refine su rfl rfl ?_ | refine sy rfl rfl (mv rfl) ?_
        first | refine sn rfl rfl rfl ?_ | refine su rfl rfl ?_ | refine sy rfl rfl (idxD Tryd.underlying26 S60 (isR rfl) rfl (by omega) (hx)) ?_
        first | refine sn rfl rfl rfl ?_ | refine su rfl rfl ?_ | refine sy rfl rfl (fldD Tryd.underlying60 rfl T3 (by decide) (Fld.fst Fld.refl) (isR rfl)) ?_
        first | refine sn rfl rfl rfl ?_ | refine su rfl rfl ?_ | refine sy rfl rfl (ldI T3 (isR rfl)) ?_
        first | refine sn rfl rfl rfl ?_ | refine su rfl rfl ?_ | refine sy rfl rfl ((lss rfl rfl).eq (congrArg Value.bool (h2))) ?_
        first | refine sn rfl rfl rfl ?_ | refine su rfl rfl ?_ | refine sy rfl rfl (mv rfl) ?_
        first | refine sn rfl rfl rfl ?_ | refine su rfl rfl ?_ | refine sy rfl rfl (mv rfl) ?_
        first | refine sn rfl rfl rfl ?_ | refine su rfl rfl ?_ | refine sy rfl rfl (mv rfl) ?_
        first | refine sn rfl rfl rfl ?_ | refine su rfl rfl ?_ | refine sy rfl rfl (mv rfl) ?_
        first | refine sn rfl rfl rfl ?_ | refine su rfl rfl ?_ | refine sy rfl rfl (idxD Tryd.underlying26 S60 (isR rfl) rfl (by omega) (hx)) ?_
        first | refine sn rfl rfl rfl ?_ | refine su rfl rfl ?_ | refine sy rfl rfl (fldD Tryd.underlying60 rfl T3 (by decide) (Fld.fst Fld.refl) (isR rfl)) ?_
        first | refine sn rfl rfl rfl ?_ | refine su rfl rfl ?_ | refine sy rfl rfl (ldI T3 (isR rfl)) ?_
        first | refine sn rfl rfl rfl ?_ | refine su rfl rfl ?_ | refine sy rfl rfl (idxD Tryd.underlying26 S60 (isR rfl) rfl (by omega) (up_get (i := (up xs k).toNat) (by have := hok.up k hlt; omega))) ?_
        first | refine sn rfl rfl rfl ?_ | refine su rfl rfl ?_ | refine sy rfl rfl (fldD Tryd.underlying60 rfl T57 (by decide) (Fld.snd Fld.refl rfl) (isR rfl)) ?_
        first | refine sn rfl rfl rfl ?_ | refine su rfl rfl ?_ | refine sy rfl rfl (ldD T57 (isR rfl)) ?_
        first | refine sn rfl rfl rfl ?_ | refine su rfl rfl ?_ | refine sy rfl rfl (mv rfl) ?_
        first | refine sn rfl rfl rfl ?_ | refine su rfl rfl ?_ | refine sy rfl rfl ((call2 En84 rfl rfl (fun v u w he h h' => by cases h'; exact hasL_spec _ _ _ _ h (hok.hs _ (by have := hok.up k hlt; omega)))).eq (congrArg Value.bool (h3))) ?_
        first | refine sn rfl rfl rfl ?_ | refine su rfl rfl ?_ | refine sy rfl rfl (notp rfl) ?_
        first | refine sn rfl rfl rfl ?_ | refine su rfl rfl ?_ | refine sy rfl rfl (pkT rfl rfl) ?_ | refine sy rfl rfl (pkF rfl rfl) ?_ | refine sy rfl rfl (pk rfl rfl rfl) ?_
        first | refine st ((pkT rfl rfl).eq (show Value.bool _ = B c from congrArg Value.bool ((topB_eq h1 h2 h3).trans hc0.symm))) ?_ | refine st ((pkF rfl rfl).eq (show Value.bool _ = B c from congrArg Value.bool ((topB_eq h1 h2 h3).trans hc0.symm))) ?_ | refine st ((pk rfl rfl rfl).eq (show Value.bool _ = B c from congrArg Value.bool ((topB_eq h1 h2 h3).trans hc0.symm))) ?_
        refine en fun a w e' hf => ?_
        replace e := Ext.tr e e'
        replace Ho := Ho.ext e'
        clear e'
        refine tl_nil ?_
        replace hf := hf.keep [0, 1, 5, 6, 41]
        dsimp only [keep, List.filterMap, look, Nat.beq, Option.map] at hf
        exact ⟨rfl, hf, e, Ho⟩
    clear hf e Ho
    obtain ⟨hf, e, Ho⟩ := hJ
    try simp only [Exit.then]
    have hsel := selN_len (topB xs id) k
    repeat refine seq ?_
    refine ifc hf rfl (fun hb => ?_) (fun hb => ?_)
    · replace hf := hf.keep [0, 1, 5, 6]
      dsimp only [keep, List.filterMap, look, Nat.beq, Option.map] at hf
      repeat refine seq ?_
      refine regn 3 hf (by decide +kernel) ?_
      refine st (mv rfl) ?_
      refine st (mv rfl) ?_
      refine st (bsl1 Tryd.underlying43 I3 rfl (by decide) rfl Ho.avs (isI rfl)) ?_
      refine en fun a w e' hf => ?_
      replace e := Ext.tr e e'
      replace Ho := Ho.ext e'
      clear e'
      haveI hin : ∀ G0, InR (GB W G0) _ := OwR.inGB Ho (Nat.le_refl _)
      refine tl_app Tryd.underlying43 I3 rfl rfl hf (by decide) rfl Ho (isR rfl) (by simp only [List.length_singleton]; omega) (by simp only [List.length_singleton, maxLen]; omega) fun a v w hg hat Hn hf => ?_
      replace e := e.gro hg (Ho.row (Nat.le_refl _))
      replace Ho := Hn; clear Hn hg hat hin
      refine tl_as hf rfl (by decide) fun a hf => ?_
      refine tl_nil ?_
      try simp only [Exit.then, Exit.inBlock, ↓reduceIte]
      repeat refine seq ?_
      refine regn 2 hf (by decide +kernel) ?_
      refine st (mv rfl) ?_
      refine st ((add rfl rfl (by omega)).eq (congrArg (Value.int .i64) (show (k : Int) + 1 = ((k + 1 : Nat) : Int) from rfl))) ?_
      refine en fun a w e' hf => ?_
      replace e := Ext.tr e e'
      replace Ho := Ho.ext e'
      clear e'
      refine tl_as hf rfl (by decide) fun a hf => ?_
      refine tl_nil ?_
      replace hf := hf.keep [0, 1, 5, 6]
      dsimp only [keep, List.filterMap, look, Nat.beq, Option.map] at hf
      refine ⟨_, ?_, k + 1, _, rfl, by omega, hf, e, ?_⟩
      · omega
      rw [selN_succ, if_pos (hc0 ▸ hb)]; exact Ho
    · refine wskip ?_
      try simp only [Exit.then, Exit.inBlock, ↓reduceIte]
      try simp only [Exit.then, Exit.inBlock, ↓reduceIte]
      repeat refine seq ?_
      refine regn 2 hf (by decide +kernel) ?_
      refine st (mv rfl) ?_
      refine st ((add rfl rfl (by omega)).eq (congrArg (Value.int .i64) (show (k : Int) + 1 = ((k + 1 : Nat) : Int) from rfl))) ?_
      refine en fun a w e' hf => ?_
      replace e := Ext.tr e e'
      replace Ho := Ho.ext e'
      clear e'
      refine tl_as hf rfl (by decide) fun a hf => ?_
      refine tl_nil ?_
      replace hf := hf.keep [0, 1, 5, 6]
      dsimp only [keep, List.filterMap, look, Nat.beq, Option.map] at hf
      refine ⟨_, ?_, k + 1, _, rfl, by omega, hf, e, ?_⟩
      · omega
      rw [selN_succ, if_neg (by rw [← hc0, hb]; decide)]; exact Ho
  · obtain rfl : k = xs.length := by have := of_decide_eq_false hc; (try dsimp only at this); omega
    clear hc
    simp only [Exit.then, Exit.inBlock, ↓reduceIte]
    repeat refine seq ?_
    refine regn 1 hf (by decide +kernel) ?_
    refine st (mv rfl) ?_
    refine en fun a w e' hf => ?_
    replace e := Ext.tr e e'
    replace Ho := Ho.ext e'
    clear e'
    refine tl_as hf rfl (by decide) fun a hf => ?_
    refine tl_nil ?_
    refine wret ?_
    try simp only [Exit.then, Exit.inBlock]
    refine ret1 rfl hf rfl ?_
    rintro _ rfl
    exact ⟨_, rfl, e, Ho.sl⟩

/-- the bags above a, nearest first; none: too many -/
def abv (xs : List RB) : Nat → Int → Option (List Int)
  | 0, a => if a < 0 then some [] else none
  | f + 1, a => if a < 0 then some [] else (abv xs f (up xs a.toNat)).map (a :: ·)
def above (xs : List RB) (i : Nat) : Option (List Int) := abv xs (xs.length + 1) (up xs i)

theorem above_spec {G : Nat → Prop} (xs : List RB) (i : Nat) (v : Value) (W : World) (h : (Dv rtE G xs).p v W) (hG : ∀ b, G b → b < W.heap.size) (hl : xs.length ≤ 4096) (hok : ∀ i, i < xs.length → up xs i < xs.length) (hi : i < xs.length) :
    Calls Tryd.prog 113 #[v, I (i : Nat)] W (Post (Tup [Dv (slE intE) G ((above xs i).getD []), E (B (above xs i).isSome)]) W) := by
  refine enter (args := [v, I (i : Nat)]) (As := [Dv rtE (GB W G) xs, E (I (i : Nat))]) Tryd.func113 rfl Tryd.ntmps113 (Nat.le_of_ble_eq_true rfl) ?_ (fun a hf => ?_) (Nat.le_of_ble_eq_true rfl)
  rotate_left
  dsimp only [params, Nat.reduceAdd] at hf
  rotate_right
  · exact arg2 (Dv.toB h) rfl
  have e := Ext.rfl' W
  repeat refine seq ?_
  refine regn0 ?_
  refine tl_as hf rfl (by decide) fun a hf => ?_
  refine tl_as hf rfl (by decide) fun a hf => ?_
  refine tl_nil ?_
  repeat refine seq ?_
  refine regn0 ?_
  refine tl_as hf rfl (by decide) fun a hf => ?_
  refine tl_nil ?_
  repeat refine seq ?_
  refine regn 5 hf (by decide +kernel) ?_
  refine st (mv rfl) ?_
  refine st (mv rfl) ?_
  refine st (idxD Tryd.underlying26 S60 (isR rfl) rfl (by omega) (up_get hi)) ?_
  refine st (fldD Tryd.underlying60 rfl T3 (by decide) (Fld.fst Fld.refl) (isR rfl)) ?_
  refine st (ldI T3 (isR rfl)) ?_
  refine en fun a w e' hf => ?_
  replace e := Ext.tr e e'
  clear e'
  refine tl_as hf rfl (by decide) fun a hf => ?_
  refine tl_nil ?_
  have Ho : OwR intE 3 W.heap.size G w [] (.slice none 0 0) := OwR.nil intE _ e.size hG
  replace hf := hf.keep [0, 1, 6]
  dsimp only [keep, List.filterMap, look, Nat.beq, Option.map] at hf
  repeat refine seq ?_
  refine blk (loopN (fun f a w => ∃ (c : Int) (out : List Int) (u : Value), f + out.length = xs.length + 1 ∧ c < xs.length ∧ Fr 29 a w [(0, Dv rtE (GB W G) xs), (1, E (I c)), (6, E u)] ∧ Ext W w ∧ above xs i = (abv xs f c).map (out ++ ·) ∧
    OwR intE 3 W.heap.size G w out u) (xs.length + 1) ⟨_, [], _, rfl, hok i hi, hf, e, by simp [above], Ho⟩ ?_)
  clear hf e Ho
  rintro f a w ⟨c, out, u, hf0, hc, hf, e, ha, Ho⟩
  repeat refine seq ?_
  refine regn 2 hf (by decide +kernel) ?_
  refine st (mv rfl) ?_
  refine st (geq rfl rfl) ?_
  refine en fun a w e' hf => ?_
  replace e := Ext.tr e e'
  replace Ho := Ho.ext e'
  clear e'
  refine tl_nil ?_
  repeat refine seq ?_
  refine ifc hf rfl (fun hb => wskip ?_) (fun hb => wexit ?_)
  · have hb' := of_decide_eq_true hb
    repeat refine seq ?_
    refine blk ?_
    replace hf := hf.keep [0, 1, 6]
    dsimp only [keep, List.filterMap, look, Nat.beq, Option.map] at hf
    repeat refine seq ?_
    refine regn 5 hf (by decide +kernel) ?_
    refine st (mv rfl) ?_
    refine st (lenD Tryd.underlying43 (isE rfl Ho.sl)) ?_
    refine st (mv rfl) ?_
    refine st (lenD Tryd.underlying26 (isR rfl)) ?_
    refine st (gtr rfl rfl) ?_
    refine en fun a w e' hf => ?_
    replace e := Ext.tr e e'
    replace Ho := Ho.ext e'
    clear e'
    refine tl_nil ?_
    repeat refine seq ?_
    refine ifc hf rfl (fun hb => ?_) (fun hb => ?_)
    · have h0 : f = 0 := by have := of_decide_eq_true hb; omega
      subst h0
      rw [abv, if_neg (by omega)] at ha
      repeat refine seq ?_
      refine regn0 ?_
      refine tl_as hf rfl (by decide) fun a hf => ?_
      refine tl_as hf rfl (by decide) fun a hf => ?_
      refine tl_nil ?_
      refine wret ?_
      try simp only [Exit.then, Exit.inBlock]
      refine ret2 rfl hf rfl rfl ?_
      rintro _ _ rfl rfl
      exact ⟨_, rfl, e, by rw [ha]; exact Tup.two Dv.nil rfl⟩
    · have h0 : 0 < f := by have := of_decide_eq_false hb; omega
      obtain ⟨f, rfl⟩ : ∃ g, f = g + 1 := ⟨f - 1, by omega⟩
      rw [abv, if_neg (by omega)] at ha
      refine wskip ?_
      try simp only [Exit.then, Exit.inBlock, ↓reduceIte]
      replace hf := hf.keep [0, 1, 6]
      dsimp only [keep, List.filterMap, look, Nat.beq, Option.map] at hf
      repeat refine seq ?_
      refine regn 3 hf (by decide +kernel) ?_
      refine st (mv rfl) ?_
      refine st (mv rfl) ?_
      refine st (bsl1 Tryd.underlying43 I3 rfl (by decide) rfl Ho.avs (isI rfl)) ?_
      refine en fun a w e' hf => ?_
      replace e := Ext.tr e e'
      replace Ho := Ho.ext e'
      clear e'
      haveI hin : ∀ G0, InR (GB W G0) _ := OwR.inGB Ho (Nat.le_refl _)
      refine tl_app Tryd.underlying43 I3 rfl rfl hf (by decide) rfl Ho (isR rfl) (by simp only [List.length_singleton]; omega) (by simp only [List.length_singleton, maxLen]; omega) fun a v w hg hat Hn hf => ?_
      replace e := e.gro hg (Ho.row (Nat.le_refl _))
      replace Ho := Hn; clear Hn hg hat hin
      refine tl_as hf rfl (by decide) fun a hf => ?_
      refine tl_nil ?_
      try simp only [Exit.then, Exit.inBlock, ↓reduceIte]
      repeat refine seq ?_
      refine regn 5 hf (by decide +kernel) ?_
      refine st (mv rfl) ?_
      refine st (mv rfl) ?_
      refine st (idxD Tryd.underlying26 S60 (isR rfl) rfl (by omega) (up_get (i := c.toNat) (by omega))) ?_
      refine st (fldD Tryd.underlying60 rfl T3 (by decide) (Fld.fst Fld.refl) (isR rfl)) ?_
      refine st (ldI T3 (isR rfl)) ?_
      refine en fun a w e' hf => ?_
      replace e := Ext.tr e e'
      replace Ho := Ho.ext e'
      clear e'
      refine tl_as hf rfl (by decide) fun a hf => ?_
      refine tl_nil ?_
      replace hf := hf.keep [0, 1, 6]
      dsimp only [keep, List.filterMap, look, Nat.beq, Option.map] at hf
      refine ⟨f, Nat.lt_succ_self _, up xs c.toNat, out ++ [c], _, ?_, hok _ (by omega), hf, e, ?_, Ho⟩
      · simp only [List.length_append, List.length_singleton]; omega
      · rw [ha, Option.map_map]
        congr 1
        funext l
        simp
  · have hb' := of_decide_eq_false hb
    simp only [Exit.then, Exit.inBlock, ↓reduceIte]
    have ha' : above xs i = some out := by
      rw [ha]
      cases f <;> rw [abv, if_pos (by omega)] <;> simp
    repeat refine seq ?_
    refine regn 1 hf (by decide +kernel) ?_
    refine st (mv rfl) ?_
    refine en fun a w e' hf => ?_
    replace e := Ext.tr e e'
    replace Ho := Ho.ext e'
    clear e'
    refine tl_as hf rfl (by decide) fun a hf => ?_
    refine tl_as hf rfl (by decide) fun a hf => ?_
    refine tl_nil ?_
    refine wret ?_
    refine ret2 rfl hf rfl rfl ?_
    rintro _ _ rfl rfl
    exact ⟨_, rfl, e, by rw [ha']; exact Tup.two Ho.sl rfl⟩

def depthR (xs : List RB) (i : Nat) : Nat := ((above xs i).getD []).length
theorem depthR_spec {G : Nat → Prop} (xs : List RB) (i : Nat) (v : Value) (W : World) (h : (Dv rtE G xs).p v W) (hl : xs.length ≤ 4096) (hok : ∀ i, i < xs.length → up xs i < xs.length) (hi : i < xs.length) :
    Calls Tryd.prog 45 #[v, I (i : Nat)] W (Post (E (I (depthR xs i : Nat))) W) := by
  refine enter (args := [v, I (i : Nat)]) (As := [Dv rtE G0 xs, E (I (i : Nat))]) Tryd.func45 rfl Tryd.ntmps45 (Nat.le_of_ble_eq_true rfl) ?_ (fun a hf => ?_) (Nat.le_of_ble_eq_true rfl)
  rotate_left
  dsimp only [params, Nat.reduceAdd] at hf
  rotate_right
  · exact arg2 (Dv.weak h fun b _ hb => hb.elim) rfl
  have e := Ext.rfl' W
  repeat refine seq ?_
  refine regn0 ?_
  refine tl_as hf rfl (by decide) fun a hf => ?_
  refine tl_nil ?_
  repeat refine seq ?_
  refine regn 6 hf (by decide +kernel) ?_
  refine st (mv rfl) ?_
  refine st (mv rfl) ?_
  refine st (call2 En113 rfl rfl (fun v u w he h h' => by cases h'; exact above_spec (G := G0) _ _ _ _ h (fun b hb => hb.elim) hl hok hi)) ?_
  refine st (mv rfl) ?_
  refine st (ext_ rfl rfl) ?_
  refine st (ext_ rfl rfl) ?_
  refine en fun a w e' hf => ?_
  replace e := Ext.tr e e'
  clear e'
  refine tl_as hf rfl (by decide) fun a hf => ?_
  refine tl_as hf rfl (by decide) fun a hf => ?_
  refine tl_nil ?_
  repeat refine seq ?_
  refine regn 2 hf (by decide +kernel) ?_
  refine st (mv rfl) ?_
  refine st (lenD Tryd.underlying43 (isR rfl)) ?_
  refine en fun a w e' hf => ?_
  replace e := Ext.tr e e'
  clear e'
  refine tl_as hf rfl (by decide) fun a hf => ?_
  refine tl_nil ?_
  refine wret ?_
  try simp only [Exit.then, Exit.inBlock]
  refine ret1 rfl hf rfl ?_
  rintro _ rfl
  exact ⟨_, rfl, e, rfl⟩

theorem sameT_spec {G : Nat → Prop} (xs ys : List RB) (v u : Value) (W : World) (h : (Dv rtE G xs).p v W) (h' : (Dv rtE G ys).p u W) (hl : xs.length ≤ 4096) (hl' : ys.length ≤ 4096) (hx : ∀ b ∈ xs, b.2.length ≤ 4096) (hy : ∀ b ∈ ys, b.2.length ≤ 4096) :
    Calls Tryd.prog 35 #[v, u] W (Post (E (B (decide (xs.length = ys.length ∧ ∀ i, i < xs.length → up xs i = up ys i ∧ cmpL (hs xs i) (hs ys i) = 0)))) W) := by
  obtain ⟨c, hc0⟩ : ∃ c : Bool, c = decide (xs.length = ys.length ∧ ∀ i, i < xs.length → up xs i = up ys i ∧ cmpL (hs xs i) (hs ys i) = 0) := ⟨_, rfl⟩
  rw [← hc0]
  have lx : ∀ {i}, i < xs.length → (hs xs i).length ≤ 4096 := fun hi => hx _ (List.mem_of_getElem? (up_get hi))
  have ly : ∀ {i}, i < ys.length → (hs ys i).length ≤ 4096 := fun hi => hy _ (List.mem_of_getElem? (up_get hi))
  refine enter (args := [v, u]) (As := [Dv rtE G xs, Dv rtE G ys]) Tryd.func35 rfl Tryd.ntmps35 (Nat.le_of_ble_eq_true rfl) ?_ (fun a hf => ?_) (Nat.le_of_ble_eq_true rfl)
  rotate_left
  dsimp only [params, Nat.reduceAdd] at hf
  rotate_right
  · exact arg2 h h'
  have e := Ext.rfl' W
  repeat refine seq ?_
  refine regn0 ?_
  refine tl_as hf rfl (by decide) fun a hf => ?_
  refine tl_nil ?_
  repeat refine seq ?_
  refine regn 5 hf (by decide +kernel) ?_
  refine st (mv rfl) ?_
  refine st (lenD Tryd.underlying26 (isR rfl)) ?_
  refine st (mv rfl) ?_
  refine st (lenD Tryd.underlying26 (isR rfl)) ?_
  refine st (neq rfl rfl) ?_
  refine en fun a w e' hf => ?_
  replace e := Ext.tr e e'
  clear e'
  refine tl_nil ?_
  repeat refine seq ?_
  refine ifc hf rfl (fun hb => ?_) (fun hb => ?_)
  · have hb' : ¬ xs.length = ys.length := by have : ((xs.length : Nat) : Int) ≠ (ys.length : Nat) := by simpa using hb
                                             omega
    repeat refine seq ?_
    refine regn0 ?_
    refine tl_as hf rfl (by decide) fun a hf => ?_
    refine tl_nil ?_
    refine wret ?_
    try simp only [Exit.then, Exit.inBlock]
    refine ret1 rfl hf rfl ?_
    rintro _ rfl
    exact ⟨_, rfl, e, congrArg B (by rw [hc0]; exact (decide_eq_false fun h => hb' h.1).symm)⟩
  · have hb' : xs.length = ys.length := by have : ((xs.length : Nat) : Int) = (ys.length : Nat) := by simpa using hb
                                           omega
    refine wskip ?_
    try simp only [Exit.then, Exit.inBlock, ↓reduceIte]
    repeat refine seq ?_
    refine regn0 ?_
    refine tl_as hf rfl (by decide) fun a hf => ?_
    refine tl_nil ?_
    replace hf := hf.keep [0, 1, 5]
    dsimp only [keep, List.filterMap, look, Nat.beq, Option.map] at hf
    repeat refine seq ?_
    refine blk (loopN (fun r0 a w => ∃ (k : Nat) , r0 = xs.length - k ∧ k ≤ xs.length ∧ Fr 42 a w [(0, Dv rtE G xs), (1, Dv rtE G ys), (5, E (I k))] ∧ Ext W w ∧ ∀ i, i < k → up xs i = up ys i ∧ cmpL (hs xs i) (hs ys i) = 0) xs.length ⟨0, rfl, by omega, hf, e, (fun i hi => by omega)⟩ ?_)
    clear hf e; try clear Ho
    rintro r0 a w ⟨k, rfl, hk, hf, e, Ho⟩
    repeat refine seq ?_
    refine regn 4 hf (by decide +kernel) ?_
    refine st (mv rfl) ?_
    refine st (mv rfl) ?_
    refine st (lenD Tryd.underlying26 (isR rfl)) ?_
    refine st (lss rfl rfl) ?_
    refine en fun a w e' hf => ?_
    replace e := Ext.tr e e'
    clear e'
    refine tl_nil ?_
    repeat refine seq ?_
    refine ifc hf rfl (fun hc => wskip ?_) (fun hc => wexit ?_)
    rotate_left
    rotate_left
    · have hlt : k < xs.length := by have := of_decide_eq_true hc; (try dsimp only at this); omega
      clear hc
      replace hf := hf.keep [0, 1, 5]
      dsimp only [keep, List.filterMap, look, Nat.beq, Option.map] at hf
      repeat refine seq ?_
      refine blk ?_
      have g1 := up_get hlt
      have g2 := up_get (xs := ys) (i := k) (by omega)
      cases h1 : (up xs k != up ys k)
      · repeat refine seq ?_
        refine reg 25 Mix.mix hf (by decide +kernel) ?_
        refine st (mv rfl) ?_
        refine st (mv rfl) ?_
        refine st (idxD Tryd.underlying26 S60 (isR rfl) rfl (by omega) (g1)) ?_
        refine st (fldD Tryd.underlying60 rfl T3 (by decide) (Fld.fst Fld.refl) (isR rfl)) ?_
        refine st (ldI T3 (isR rfl)) ?_
        refine st (mv rfl) ?_
        refine st (mv rfl) ?_
        refine st (idxD Tryd.underlying26 S60 (isR rfl) rfl (by omega) (g2)) ?_
        refine st (fldD Tryd.underlying60 rfl T3 (by decide) (Fld.fst Fld.refl) (isR rfl)) ?_
        refine st (ldI T3 (isR rfl)) ?_
        refine st ((neq rfl rfl).eq (congrArg Value.bool (h1))) ?_
        refine st (mv rfl) ?_
        first | refine sn rfl rfl rfl ?_ | refine su rfl rfl ?_ | refine sy rfl rfl (mv rfl) ?_
        first | refine sn rfl rfl rfl ?_ | refine su rfl rfl ?_ | refine sy rfl rfl (mv rfl) ?_
        first | refine sn rfl rfl rfl ?_ | refine su rfl rfl ?_ | refine sy rfl rfl (idxD Tryd.underlying26 S60 (isR rfl) rfl (by omega) (g1)) ?_
        first | refine sn rfl rfl rfl ?_ | refine su rfl rfl ?_ | refine sy rfl rfl (fldD Tryd.underlying60 rfl T57 (by decide) (Fld.snd Fld.refl rfl) (isR rfl)) ?_
        first | refine sn rfl rfl rfl ?_ | refine su rfl rfl ?_ | refine sy rfl rfl (ldD T57 (isR rfl)) ?_
        first | refine sn rfl rfl rfl ?_ | refine su rfl rfl ?_ | refine sy rfl rfl (mv rfl) ?_
        first | refine sn rfl rfl rfl ?_ | refine su rfl rfl ?_ | refine sy rfl rfl (mv rfl) ?_
        first | refine sn rfl rfl rfl ?_ | refine su rfl rfl ?_ | refine sy rfl rfl (idxD Tryd.underlying26 S60 (isR rfl) rfl (by omega) (g2)) ?_
        first | refine sn rfl rfl rfl ?_ | refine su rfl rfl ?_ | refine sy rfl rfl (fldD Tryd.underlying60 rfl T57 (by decide) (Fld.snd Fld.refl rfl) (isR rfl)) ?_
        first | refine sn rfl rfl rfl ?_ | refine su rfl rfl ?_ | refine sy rfl rfl (ldD T57 (isR rfl)) ?_
        first | refine sn rfl rfl rfl ?_ | refine su rfl rfl ?_ | refine sy rfl rfl (call2 En40 rfl rfl (fun v u w he h h' => sameL_spec _ _ _ _ _ h h' (lx hlt) (ly (by omega)))) ?_
        first | refine sn rfl rfl rfl ?_ | refine su rfl rfl ?_ | refine sy rfl rfl (notp rfl) ?_
        first | refine st (pkT rfl rfl) ?_ | refine st (pkF rfl rfl) ?_ | refine st (pk rfl rfl rfl) ?_
        refine en fun a w e' hf => ?_
        replace e := Ext.tr e e'
        clear e'
        refine tl_nil ?_
        have h1' : up xs k = up ys k := by simpa using h1
        repeat refine seq ?_
        refine ifc hf rfl (fun hb => ?_) (fun hb => ?_)
        · have hb2 : ¬ cmpL (hs xs k) (hs ys k) = 0 := by simpa using hb
          repeat refine seq ?_
          refine regn0 ?_
          refine tl_as hf rfl (by decide) fun a hf => ?_
          refine tl_nil ?_
          refine wret ?_
          try simp only [Exit.then, Exit.inBlock]
          refine ret1 rfl hf rfl ?_
          rintro _ rfl
          exact ⟨_, rfl, e, congrArg B (by rw [hc0]; exact (decide_eq_false fun h => hb2 (h.2 k hlt).2).symm)⟩
        · have hb2 : cmpL (hs xs k) (hs ys k) = 0 := by simpa using hb
          refine wskip ?_
          try simp only [Exit.then, Exit.inBlock, ↓reduceIte]
          try simp only [Exit.then, Exit.inBlock, ↓reduceIte]
          repeat refine seq ?_
          refine regn 2 hf (by decide +kernel) ?_
          refine st (mv rfl) ?_
          refine st ((add rfl rfl (by omega)).eq (congrArg (Value.int .i64) (show (k : Int) + 1 = ((k + 1 : Nat) : Int) from rfl))) ?_
          refine en fun a w e' hf => ?_
          replace e := Ext.tr e e'
          clear e'
          refine tl_as hf rfl (by decide) fun a hf => ?_
          refine tl_nil ?_
          replace hf := hf.keep [0, 1, 5]
          dsimp only [keep, List.filterMap, look, Nat.beq, Option.map] at hf
          refine ⟨_, ?_, k + 1, rfl, by omega, hf, e, ?_⟩
          · omega
          intro i hi
          by_cases hk : i = k
          · subst hk; exact ⟨h1', hb2⟩
          · exact Ho i (by omega)
      · repeat refine seq ?_
        refine reg 25 Mix.mix hf (by decide +kernel) ?_
        refine st (mv rfl) ?_
        refine st (mv rfl) ?_
        refine st (idxD Tryd.underlying26 S60 (isR rfl) rfl (by omega) (g1)) ?_
        refine st (fldD Tryd.underlying60 rfl T3 (by decide) (Fld.fst Fld.refl) (isR rfl)) ?_
        refine st (ldI T3 (isR rfl)) ?_
        refine st (mv rfl) ?_
        refine st (mv rfl) ?_
        refine st (idxD Tryd.underlying26 S60 (isR rfl) rfl (by omega) (g2)) ?_
        refine st (fldD Tryd.underlying60 rfl T3 (by decide) (Fld.fst Fld.refl) (isR rfl)) ?_
        refine st (ldI T3 (isR rfl)) ?_
        refine st ((neq rfl rfl).eq (congrArg Value.bool (h1))) ?_
        refine st (mv rfl) ?_
        first | refine sn rfl rfl rfl ?_ | refine su rfl rfl ?_ | refine sy rfl rfl (mv rfl) ?_
        first | refine sn rfl rfl rfl ?_ | refine su rfl rfl ?_ | refine sy rfl rfl (mv rfl) ?_
        first | refine sn rfl rfl rfl ?_ | refine su rfl rfl ?_ | refine sy rfl rfl (idxD Tryd.underlying26 S60 (isR rfl) rfl (by omega) (by assumption)) ?_
        first | refine sn rfl rfl rfl ?_ | refine su rfl rfl ?_ | refine sy rfl rfl (fldD Tryd.underlying60 rfl T57 (by decide) (Fld.snd Fld.refl rfl) (isR rfl)) ?_
        first | refine sn rfl rfl rfl ?_ | refine su rfl rfl ?_ | refine sy rfl rfl (ldD T57 (isR rfl)) ?_
        first | refine sn rfl rfl rfl ?_ | refine su rfl rfl ?_ | refine sy rfl rfl (mv rfl) ?_
        first | refine sn rfl rfl rfl ?_ | refine su rfl rfl ?_ | refine sy rfl rfl (mv rfl) ?_
        first | refine sn rfl rfl rfl ?_ | refine su rfl rfl ?_ | refine sy rfl rfl (idxD Tryd.underlying26 S60 (isR rfl) rfl (by omega) (by assumption)) ?_
        first | refine sn rfl rfl rfl ?_ | refine su rfl rfl ?_ | refine sy rfl rfl (fldD Tryd.underlying60 rfl T57 (by decide) (Fld.snd Fld.refl rfl) (isR rfl)) ?_
        first | refine sn rfl rfl rfl ?_ | refine su rfl rfl ?_ | refine sy rfl rfl (ldD T57 (isR rfl)) ?_
        first | refine sn rfl rfl rfl ?_ | refine su rfl rfl ?_ | refine sy rfl rfl (TODO_call) ?_
        first | refine sn rfl rfl rfl ?_ | refine su rfl rfl ?_ | refine sy rfl rfl (notp rfl) ?_
        first | refine st (pkT rfl rfl) ?_ | refine st (pkF rfl rfl) ?_ | refine st (pk rfl rfl rfl) ?_
        refine en fun a w e' hf => ?_
        replace e := Ext.tr e e'
        clear e'
        refine tl_nil ?_
        have h1' : ¬ up xs k = up ys k := by simpa using h1
        repeat refine seq ?_
        refine ifc hf rfl (fun _ => ?_) (fun h => by cases h)
        repeat refine seq ?_
        refine regn0 ?_
        refine tl_as hf rfl (by decide) fun a hf => ?_
        refine tl_nil ?_
        refine wret ?_
        try simp only [Exit.then, Exit.inBlock]
        refine ret1 rfl hf rfl ?_
        rintro _ rfl
        exact ⟨_, rfl, e, congrArg B (by rw [hc0]; exact (decide_eq_false fun h => h1' (h.2 k hlt).1).symm)⟩
    · obtain rfl : k = xs.length := by have := of_decide_eq_false hc; (try dsimp only at this); omega
      clear hc
      simp only [Exit.then, Exit.inBlock, ↓reduceIte]
      repeat refine seq ?_
      refine regn0 ?_
      refine tl_as hf rfl (by decide) fun a hf => ?_
      refine tl_nil ?_
      refine wret ?_
      try simp only [Exit.then, Exit.inBlock]
      refine ret1 rfl hf rfl ?_
      rintro _ rfl
      exact ⟨_, rfl, e, congrArg B (by rw [hc0]; exact (decide_eq_true ⟨hb', Ho⟩).symm)⟩
end Go.Mono

set_option linter.unusedVariables false
namespace Go.Mono
open Go Go.Proofs Go.RowKit

abbrev bagE : Enc (Int × BS) := prE intE setE
abbrev treeE : Enc (List (Int × BS)) := slE bagE
def toB (b : Int × BS) : RB := (b.1, toL b.2)
def toT (t : List (Int × BS)) : List RB := t.map toB
/-- bag i -/
def bg (t : List (Int × BS)) (i : Nat) : Int × BS := match t[i]? with
  | some b => b
  | none => (0, 0)
theorem bg_get {t : List (Int × BS)} {i : Nat} (h : i < t.length) : t[i]? = some (bg t i) := by simp [bg, h]
theorem map_take_succ {α β : Type} (f : α → β) {xs : List α} {k : Nat} {x : α} (h : xs[k]? = some x) : (xs.take (k + 1)).map f = (xs.take k).map f ++ [f x] := by
  rw [take_succ_get h, List.map_append]; rfl

theorem lists_spec {G : Nat → Prop} (xs : List BS) (v : Value) (W : World) (h : (Dv (slE setE) G xs).p v W) (hG : ∀ b, G b → b < W.heap.size) (hl : xs.length ≤ 4096) :
    Calls Tryd.prog 86 #[v] W (Post (Dv (slE (slE intE)) G (xs.map toL)) W) := by
  refine enter (args := [v]) (As := [Dv (slE setE) (GB W G) xs]) Tryd.func86 rfl Tryd.ntmps86 (Nat.le_of_ble_eq_true rfl) ?_ (fun a hf => ?_) (Nat.le_of_ble_eq_true rfl)
  rotate_left
  dsimp only [params, Nat.reduceAdd] at hf
  rotate_right
  · exact arg1 (Dv.toB h)
  have e := Ext.rfl' W
  repeat refine seq ?_
  refine regn0 ?_
  refine tl_as hf rfl (by decide) fun a hf => ?_
  refine tl_nil ?_
  repeat refine seq ?_
  refine regn0 ?_
  refine tl_as hf rfl (by decide) fun a hf => ?_
  refine tl_nil ?_
  repeat refine seq ?_
  refine regn0 ?_
  refine tl_as hf rfl (by decide) fun a hf => ?_
  refine tl_nil ?_
  replace hf := hf.keep [0, 3, 4]
  dsimp only [keep, List.filterMap, look, Nat.beq, Option.map] at hf
  repeat refine seq ?_
  refine blk (loopN (fun r0 a w => ∃ (k : Nat) (u : Value), r0 = xs.length - k ∧ k ≤ xs.length ∧ Fr 20 a w [(0, Dv (slE setE) (GB W G) xs), (3, E u), (4, E (I k))] ∧ Ext W w ∧ OwR (slE intE) 57 W.heap.size G w ((xs.take k).map toL) u) xs.length ⟨0, _, rfl, by omega, hf, e, OwR.nil (slE intE) _ (Nat.le_refl _) hG⟩ ?_)
  clear hf e; try clear Ho
  rintro r0 a w ⟨k, u, rfl, hk, hf, e, Ho⟩
  repeat refine seq ?_
  refine regn 4 hf (by decide +kernel) ?_
  refine st (mv rfl) ?_
  refine st (mv rfl) ?_
  refine st (lenD Tryd.underlying88 (isR rfl)) ?_
  refine st (lss rfl rfl) ?_
  refine en fun a w e' hf => ?_
  replace e := Ext.tr e e'
  replace Ho := Ho.ext e'
  clear e'
  refine tl_nil ?_
  repeat refine seq ?_
  refine ifc hf rfl (fun hc => wskip ?_) (fun hc => wexit ?_)
  rotate_left
  rotate_left
  · have hlt : k < xs.length := by have := of_decide_eq_true hc; (try dsimp only at this); omega
    clear hc
    replace hf := hf.keep [0, 3, 4]
    dsimp only [keep, List.filterMap, look, Nat.beq, Option.map] at hf
    repeat refine seq ?_
    refine blk ?_
    have hx : xs[k]? = some xs[k] := by simp [hlt]
    have hsel := List.length_take_le k xs
    repeat refine seq ?_
    refine regn 7 hf (by decide +kernel) ?_
    refine st (mv rfl) ?_
    refine st (mv rfl) ?_
    refine st (mv rfl) ?_
    refine st (idxD Tryd.underlying88 S37 (isR rfl) rfl (by omega) (hx)) ?_
    refine st (ldS T37 (isR rfl)) ?_
    refine st (call1 En41 rfl (fun v w he h => by cases h; exact toL_spec _ _ (fun b hb => Nat.lt_of_lt_of_le (Ho.avs b hb) he.size))) ?_
    refine st (bsl1 Tryd.underlying95 I57 rfl (by decide) rfl Ho.avs (isR rfl)) ?_
    refine en fun a w e' hf => ?_
    replace e := Ext.tr e e'
    replace Ho := Ho.ext e'
    clear e'
    haveI hin : ∀ G0, InR (GB W G0) _ := OwR.inGB Ho (Nat.le_refl _)
    refine tl_app Tryd.underlying95 I57 rfl rfl hf (by decide) rfl Ho (isR rfl) (by simp only [List.length_singleton, List.length_map, maxLen]; omega) (by simp only [List.length_singleton, List.length_map, maxLen]; omega) fun a v w hg hat Hn hf => ?_
    replace e := e.gro hg (Ho.row (Nat.le_refl _))
    replace Ho := Hn; clear Hn hg hat hin
    refine tl_as hf rfl (by decide) fun a hf => ?_
    refine tl_nil ?_
    try simp only [Exit.then, Exit.inBlock, ↓reduceIte]
    repeat refine seq ?_
    refine regn 2 hf (by decide +kernel) ?_
    refine st (mv rfl) ?_
    refine st ((add rfl rfl (by omega)).eq (congrArg (Value.int .i64) (show (k : Int) + 1 = ((k + 1 : Nat) : Int) from rfl))) ?_
    refine en fun a w e' hf => ?_
    replace e := Ext.tr e e'
    replace Ho := Ho.ext e'
    clear e'
    refine tl_as hf rfl (by decide) fun a hf => ?_
    refine tl_nil ?_
    replace hf := hf.keep [0, 3, 4]
    dsimp only [keep, List.filterMap, look, Nat.beq, Option.map] at hf
    refine ⟨_, ?_, k + 1, _, rfl, by omega, hf, e, ?_⟩
    · omega
    rw [map_take_succ toL hx]; exact Ho
  · obtain rfl : k = xs.length := by have := of_decide_eq_false hc; (try dsimp only at this); omega
    clear hc
    simp only [Exit.then, Exit.inBlock, ↓reduceIte]
    repeat refine seq ?_
    refine regn 1 hf (by decide +kernel) ?_
    refine st (mv rfl) ?_
    refine en fun a w e' hf => ?_
    replace e := Ext.tr e e'
    replace Ho := Ho.ext e'
    clear e'
    refine tl_as hf rfl (by decide) fun a hf => ?_
    refine tl_nil ?_
    refine wret ?_
    try simp only [Exit.then, Exit.inBlock]
    refine ret1 rfl hf rfl ?_
    rintro _ rfl
    exact ⟨_, rfl, e, (by rw [List.take_length] at Ho; exact Ho.sl)⟩

theorem toT_spec {G : Nat → Prop} (t : List (Int × BS)) (v : Value) (W : World) (h : (Dv treeE G t).p v W) (hG : ∀ b, G b → b < W.heap.size) (hl : t.length ≤ 4096) :
    Calls Tryd.prog 31 #[v] W (Post (Dv rtE G (toT t)) W) := by
  refine enter (args := [v]) (As := [Dv treeE (GB W G) t]) Tryd.func31 rfl Tryd.ntmps31 (Nat.le_of_ble_eq_true rfl) ?_ (fun a hf => ?_) (Nat.le_of_ble_eq_true rfl)
  rotate_left
  dsimp only [params, Nat.reduceAdd] at hf
  rotate_right
  · exact arg1 (Dv.toB h)
  have e := Ext.rfl' W
  repeat refine seq ?_
  refine regn0 ?_
  refine tl_as hf rfl (by decide) fun a hf => ?_
  refine tl_nil ?_
  repeat refine seq ?_
  refine regn0 ?_
  refine tl_as hf rfl (by decide) fun a hf => ?_
  refine tl_nil ?_
  repeat refine seq ?_
  refine regn0 ?_
  refine tl_as hf rfl (by decide) fun a hf => ?_
  refine tl_nil ?_
  replace hf := hf.keep [0, 3, 4]
  dsimp only [keep, List.filterMap, look, Nat.beq, Option.map] at hf
  repeat refine seq ?_
  refine blk (loopN (fun r0 a w => ∃ (k : Nat) (u : Value), r0 = t.length - k ∧ k ≤ t.length ∧ Fr 27 a w [(0, Dv treeE (GB W G) t), (3, E u), (4, E (I k))] ∧ Ext W w ∧ OwR rbE 60 W.heap.size G w ((t.take k).map toB) u) t.length ⟨0, _, rfl, by omega, hf, e, OwR.nil rbE _ (Nat.le_refl _) hG⟩ ?_)
  clear hf e; try clear Ho
  rintro r0 a w ⟨k, u, rfl, hk, hf, e, Ho⟩
  repeat refine seq ?_
  refine regn 4 hf (by decide +kernel) ?_
  refine st (mv rfl) ?_
  refine st (mv rfl) ?_
  refine st (lenD Tryd.underlying23 (isR rfl)) ?_
  refine st (lss rfl rfl) ?_
  refine en fun a w e' hf => ?_
  replace e := Ext.tr e e'
  replace Ho := Ho.ext e'
  clear e'
  refine tl_nil ?_
  repeat refine seq ?_
  refine ifc hf rfl (fun hc => wskip ?_) (fun hc => wexit ?_)
  rotate_left
  rotate_left
  · have hlt : k < t.length := by have := of_decide_eq_true hc; (try dsimp only at this); omega
    clear hc
    replace hf := hf.keep [0, 3, 4]
    dsimp only [keep, List.filterMap, look, Nat.beq, Option.map] at hf
    repeat refine seq ?_
    refine blk ?_
    have hx := bg_get hlt
    have hsel := List.length_take_le k t
    repeat refine seq ?_
    refine reg 14 Mix.mix hf (by decide +kernel) ?_
    refine st (mv rfl) ?_
    refine st (mv rfl) ?_
    refine st (mv rfl) ?_
    refine st (idxD Tryd.underlying23 S86 (isR rfl) rfl (by omega) (hx)) ?_
    refine st (fldD Tryd.underlying86 rfl T3 (by decide) (Fld.fst Fld.refl) (isR rfl)) ?_
    refine st (ldI T3 (isR rfl)) ?_
    refine st (mv rfl) ?_
    refine st (mv rfl) ?_
    refine st (idxD Tryd.underlying23 S86 (isR rfl) rfl (by omega) (hx)) ?_
    refine st (fldD Tryd.underlying86 rfl T37 (by decide) (Fld.snd Fld.refl rfl) (isR rfl)) ?_
    refine st (ldS T37 (isR rfl)) ?_
    refine st (call1 En41 rfl (fun v w he h => by cases h; exact toL_spec _ _ (fun b hb => Nat.lt_of_lt_of_le (Ho.avs b hb) he.size))) ?_
    refine st (bld2 Tryd.underlying60 rfl rfl rfl S3 S57 I60 rfl (isI rfl) (isR rfl)) ?_
    refine st (bsl1 Tryd.underlying26 I60 rfl (by decide) rfl Ho.avs (isR rfl)) ?_
    refine en fun a w e' hf => ?_
    replace e := Ext.tr e e'
    replace Ho := Ho.ext e'
    clear e'
    haveI hin : ∀ G0, InR (GB W G0) _ := OwR.inGB Ho (Nat.le_refl _)
    refine tl_app Tryd.underlying26 I60 rfl rfl hf (by decide) rfl Ho (isR rfl) (by simp only [List.length_singleton, List.length_map, maxLen]; omega) (by simp only [List.length_singleton, List.length_map, maxLen]; omega) fun a v w hg hat Hn hf => ?_
    replace e := e.gro hg (Ho.row (Nat.le_refl _))
    replace Ho := Hn; clear Hn hg hat hin
    refine tl_as hf rfl (by decide) fun a hf => ?_
    refine tl_nil ?_
    try simp only [Exit.then, Exit.inBlock, ↓reduceIte]
    repeat refine seq ?_
    refine regn 2 hf (by decide +kernel) ?_
    refine st (mv rfl) ?_
    refine st ((add rfl rfl (by omega)).eq (congrArg (Value.int .i64) (show (k : Int) + 1 = ((k + 1 : Nat) : Int) from rfl))) ?_
    refine en fun a w e' hf => ?_
    replace e := Ext.tr e e'
    replace Ho := Ho.ext e'
    clear e'
    refine tl_as hf rfl (by decide) fun a hf => ?_
    refine tl_nil ?_
    replace hf := hf.keep [0, 3, 4]
    dsimp only [keep, List.filterMap, look, Nat.beq, Option.map] at hf
    refine ⟨_, ?_, k + 1, _, rfl, by omega, hf, e, ?_⟩
    · omega
    rw [map_take_succ toB hx]; exact Ho
  · obtain rfl : k = t.length := by have := of_decide_eq_false hc; (try dsimp only at this); omega
    clear hc
    simp only [Exit.then, Exit.inBlock, ↓reduceIte]
    repeat refine seq ?_
    refine regn 1 hf (by decide +kernel) ?_
    refine st (mv rfl) ?_
    refine en fun a w e' hf => ?_
    replace e := Ext.tr e e'
    replace Ho := Ho.ext e'
    clear e'
    refine tl_as hf rfl (by decide) fun a hf => ?_
    refine tl_nil ?_
    refine wret ?_
    try simp only [Exit.then, Exit.inBlock]
    refine ret1 rfl hf rfl ?_
    rintro _ rfl
    exact ⟨_, rfl, e, (by rw [List.take_length] at Ho; exact Ho.sl)⟩

theorem from_spec {G : Nat → Prop} (r : List Int) (v : Value) (W : World) (h : (Dv (slE intE) G r).p v W) (hl : r.length ≤ 4096) :
    Calls Tryd.prog 38 #[v] W (Post (E (setV (r.foldl ins 0))) W) := by
  refine enter (args := [v]) (As := [Dv (slE intE) (GB W G) r]) Tryd.func38 rfl Tryd.ntmps38 (Nat.le_of_ble_eq_true rfl) ?_ (fun a hf => ?_) (Nat.le_of_ble_eq_true rfl)
  rotate_left
  dsimp only [params, Nat.reduceAdd] at hf
  rotate_right
  · exact arg1 (Dv.toB h)
  have e := Ext.rfl' W
  repeat refine seq ?_
  refine regn0 ?_
  refine tl_alloc I37 hf (by decide) fun a b2 w e' hb2 hs2 B2 hf => ?_
  have hle2 := Nat.le_trans e.size (Nat.le_of_eq hb2.symm)
  replace e := Ext.tr e e'
  clear e'
  refine tl_nil ?_
  repeat refine seq ?_
  refine regn0 ?_
  refine tl_alloc I37 hf (by decide) fun a b3 w e' hb3 hs3 B3 hf => ?_
  have hle3 := Nat.le_trans e.size (Nat.le_of_eq hb3.symm)
  have lt3_B2 := B2.lt
  replace e := Ext.tr e e'
  replace B2 := B2.ext e'
  clear e'
  refine tl_nil ?_
  have hne : b2 ≠ b3 := by omega
  simp only [Value.cells, zeroC] at B2 B3
  repeat refine seq ?_
  refine regn0 ?_
  refine tl_as hf rfl (by decide) fun a hf => ?_
  refine tl_nil ?_
  replace hf := hf.keep [0, 2, 3, 4]
  dsimp only [keep, List.filterMap, look, Nat.beq, Option.map] at hf
  repeat refine seq ?_
  refine blk (loopN (fun r0 a w => ∃ (k : Nat) , r0 = r.length - k ∧ k ≤ r.length ∧ Fr 44 a w [(0, Dv (slE intE) (GB W G) r), (2, E (.pointer (some ⟨b2, 0, none⟩))), (3, E (.pointer (some ⟨b3, 0, none⟩))), (4, E (I k))] ∧ Ext W w ∧ Blk w b2 (setC 0) 37 ∧ Blk w b3 (setC ((r.take k).foldl ins 0)) 37) r.length ⟨0, rfl, by omega, hf, e, B2, B3⟩ ?_)
  clear hf e; try clear B2; try clear B3
  rintro r0 a w ⟨k, rfl, hk, hf, e, B2, B3⟩
  repeat refine seq ?_
  refine regn 4 hf (by decide +kernel) ?_
  refine st (mv rfl) ?_
  refine st (mv rfl) ?_
  refine st (lenD Tryd.underlying57 (isR rfl)) ?_
  refine st (lss rfl rfl) ?_
  refine en fun a w e' hf => ?_
  replace e := Ext.tr e e'
  replace B2 := B2.ext e'
  replace B3 := B3.ext e'
  clear e'
  refine tl_nil ?_
  repeat refine seq ?_
  refine ifc hf rfl (fun hc => wskip ?_) (fun hc => wexit ?_)
  rotate_left
  rotate_left
  · have hlt : k < r.length := by have := of_decide_eq_true hc; (try dsimp only at this); omega
    clear hc
    replace hf := hf.keep [0, 2, 3, 4]
    dsimp only [keep, List.filterMap, look, Nat.beq, Option.map] at hf
    repeat refine seq ?_
    refine blk ?_
    have hx := gi_get hlt
    have hS : (r.take (k + 1)).foldl ins 0 = ins ((r.take k).foldl ins 0) (gi r k) := by rw [gi_take hlt, List.foldl_append]; rfl
    obtain ⟨S, hS0⟩ : ∃ S, S = (r.take k).foldl ins 0 := ⟨_, rfl⟩
    rw [← hS0] at B3 hS
    cases h1 : decide (0 ≤ gi r k)
    · repeat refine seq ?_
      refine regn 12 hf (by decide +kernel) ?_
      refine st (mv rfl) ?_
      refine st (mv rfl) ?_
      refine st (idxD Tryd.underlying57 S3 (isR rfl) rfl (by omega) (hx)) ?_
      refine st (ldI T3 (isR rfl)) ?_
      refine st ((geq rfl rfl).eq (congrArg Value.bool (h1))) ?_
      refine st (mv rfl) ?_
      first | refine sn rfl rfl rfl ?_ | refine su rfl rfl ?_ | refine sy rfl rfl (mv rfl) ?_
      first | refine sn rfl rfl rfl ?_ | refine su rfl rfl ?_ | refine sy rfl rfl (mv rfl) ?_
      first | refine sn rfl rfl rfl ?_ | refine su rfl rfl ?_ | refine sy rfl rfl (idxD Tryd.underlying57 S3 (isR rfl) rfl (by omega) (by assumption)) ?_
      first | refine sn rfl rfl rfl ?_ | refine su rfl rfl ?_ | refine sy rfl rfl (ldI T3 (isR rfl)) ?_
      first | refine sn rfl rfl rfl ?_ | refine su rfl rfl ?_ | refine sy rfl rfl (lss rfl rfl) ?_
      first | refine st (pkT rfl rfl) ?_ | refine st (pkF rfl rfl) ?_ | refine st (pk rfl rfl rfl) ?_
      refine en fun a w e' hf => ?_
      replace e := Ext.tr e e'
      replace B2 := B2.ext e'
      replace B3 := B3.ext e'
      clear e'
      refine tl_nil ?_
      repeat refine seq ?_
      refine ifc hf rfl (fun h => by cases h) (fun _ => ?_)
      refine wskip ?_
      try simp only [Exit.then, Exit.inBlock, ↓reduceIte]
      try simp only [Exit.then, Exit.inBlock, ↓reduceIte]
      repeat refine seq ?_
      refine regn 2 hf (by decide +kernel) ?_
      refine st (mv rfl) ?_
      refine st ((add rfl rfl (by omega)).eq (congrArg (Value.int .i64) (show (k : Int) + 1 = ((k + 1 : Nat) : Int) from rfl))) ?_
      refine en fun a w e' hf => ?_
      replace e := Ext.tr e e'
      replace B2 := B2.ext e'
      replace B3 := B3.ext e'
      clear e'
      refine tl_as hf rfl (by decide) fun a hf => ?_
      refine tl_nil ?_
      replace hf := hf.keep [0, 2, 3, 4]
      dsimp only [keep, List.filterMap, look, Nat.beq, Option.map] at hf
      refine ⟨_, ?_, k + 1, rfl, by omega, hf, e, ?_⟩
      · omega
      have h1' := of_decide_eq_false h1
      rw [hS, ins, if_neg (by rw [fitsB_iff]; omega)]
      exact ⟨B2, B3⟩
    · repeat refine seq ?_
      refine regn 12 hf (by decide +kernel) ?_
      refine st (mv rfl) ?_
      refine st (mv rfl) ?_
      refine st (idxD Tryd.underlying57 S3 (isR rfl) rfl (by omega) (hx)) ?_
      refine st (ldI T3 (isR rfl)) ?_
      refine st ((geq rfl rfl).eq (congrArg Value.bool (h1))) ?_
      refine st (mv rfl) ?_
      first | refine sn rfl rfl rfl ?_ | refine su rfl rfl ?_ | refine sy rfl rfl (mv rfl) ?_
      first | refine sn rfl rfl rfl ?_ | refine su rfl rfl ?_ | refine sy rfl rfl (mv rfl) ?_
      first | refine sn rfl rfl rfl ?_ | refine su rfl rfl ?_ | refine sy rfl rfl (idxD Tryd.underlying57 S3 (isR rfl) rfl (by omega) (hx)) ?_
      first | refine sn rfl rfl rfl ?_ | refine su rfl rfl ?_ | refine sy rfl rfl (ldI T3 (isR rfl)) ?_
      first | refine sn rfl rfl rfl ?_ | refine su rfl rfl ?_ | refine sy rfl rfl (lss rfl rfl) ?_
      first | refine st (pkT rfl rfl) ?_ | refine st (pkF rfl rfl) ?_ | refine st (pk rfl rfl rfl) ?_
      refine en fun a w e' hf => ?_
      replace e := Ext.tr e e'
      replace B2 := B2.ext e'
      replace B3 := B3.ext e'
      clear e'
      refine tl_nil ?_
      have h1' := of_decide_eq_true h1
      repeat refine seq ?_
      refine ifc hf rfl (fun hb => ?_) (fun hb => ?_)
      · have h2' := of_decide_eq_true hb
        replace hf := hf.keep [0, 2, 3, 4]
        dsimp only [keep, List.filterMap, look, Nat.beq, Option.map] at hf
        haveI : InR (GB W G) (some b3) := InR.gb (by omega)
        repeat refine seq ?_
        refine reg 20 Mix.mix hf (by decide +kernel) ?_
        refine st (mv rfl) ?_
        refine st (mv rfl) ?_
        refine st (idxD Tryd.underlying57 S3 (isR rfl) rfl (by omega) (hx)) ?_
        refine st (ldI T3 (isR rfl)) ?_
        refine st (quo rfl rfl (by omega)) ?_
        refine st (mv rfl) ?_
        refine st (mv rfl) ?_
        refine st (idxD Tryd.underlying57 S3 (isR rfl) rfl (by omega) (hx)) ?_
        refine st (ldI T3 (isR rfl)) ?_
        refine st (quo rfl rfl (by omega)) ?_
        refine st (idxA Tryd.underlying37 ⟨_, T35⟩ rfl rfl (by omega)) ?_
        refine st (ld1 T35 rfl B3 (by rw [Nat.zero_add, Nat.mul_one]; exact wordsC_get _ _ (by omega))) ?_
        refine st (mv rfl) ?_
        refine st (mv rfl) ?_
        refine st (idxD Tryd.underlying57 S3 (isR rfl) rfl (by omega) (hx)) ?_
        refine st (ldI T3 (isR rfl)) ?_
        refine st (rem rfl rfl (by omega)) ?_
        refine st (shlW (u := 1#64) rfl rfl (by omega)) ?_
        refine st (orW rfl rfl) ?_
        refine st (idxA Tryd.underlying37 ⟨_, T35⟩ rfl rfl (by omega)) ?_
        refine en fun a w e' hf => ?_
        replace e := Ext.tr e e'
        replace B2 := B2.ext e'
        replace B3 := B3.ext e'
        clear e'
        refine tl_st1 T35 hf rfl rfl rfl B3 (by rw [setC_size]; omega) fun w hg hsz B3 hf => ?_
        replace e := e.gr hg (by omega)
        replace B2 := B2.gr hg (by omega)
        clear hg
        refine tl_nil ?_
        rw [Nat.zero_add, Nat.mul_one, setC, wordsC_set, setC_ins S (fitsB_iff.2 ⟨by omega, by omega⟩), ← hS] at B3
        try simp only [Exit.then, Exit.inBlock, ↓reduceIte]
        try simp only [Exit.then, Exit.inBlock, ↓reduceIte]
        repeat refine seq ?_
        refine regn 2 hf (by decide +kernel) ?_
        refine st (mv rfl) ?_
        refine st ((add rfl rfl (by omega)).eq (congrArg (Value.int .i64) (show (k : Int) + 1 = ((k + 1 : Nat) : Int) from rfl))) ?_
        refine en fun a w e' hf => ?_
        replace e := Ext.tr e e'
        replace B2 := B2.ext e'
        replace B3 := B3.ext e'
        clear e'
        refine tl_as hf rfl (by decide) fun a hf => ?_
        refine tl_nil ?_
        replace hf := hf.keep [0, 2, 3, 4]
        dsimp only [keep, List.filterMap, look, Nat.beq, Option.map] at hf
        refine ⟨_, ?_, k + 1, rfl, by omega, hf, e, ?_⟩
        · omega
        exact ⟨B2, B3⟩
      · have h2' := of_decide_eq_false hb
        refine wskip ?_
        try simp only [Exit.then, Exit.inBlock, ↓reduceIte]
        try simp only [Exit.then, Exit.inBlock, ↓reduceIte]
        repeat refine seq ?_
        refine regn 2 hf (by decide +kernel) ?_
        refine st (mv rfl) ?_
        refine st ((add rfl rfl (by omega)).eq (congrArg (Value.int .i64) (show (k : Int) + 1 = ((k + 1 : Nat) : Int) from rfl))) ?_
        refine en fun a w e' hf => ?_
        replace e := Ext.tr e e'
        replace B2 := B2.ext e'
        replace B3 := B3.ext e'
        clear e'
        refine tl_as hf rfl (by decide) fun a hf => ?_
        refine tl_nil ?_
        replace hf := hf.keep [0, 2, 3, 4]
        dsimp only [keep, List.filterMap, look, Nat.beq, Option.map] at hf
        refine ⟨_, ?_, k + 1, rfl, by omega, hf, e, ?_⟩
        · omega
        rw [hS, ins, if_neg (by rw [fitsB_iff]; omega)]
        exact ⟨B2, B3⟩
  · obtain rfl : k = r.length := by have := of_decide_eq_false hc; (try dsimp only at this); omega
    clear hc
    simp only [Exit.then, Exit.inBlock, ↓reduceIte]
    rw [List.take_length] at B3
    replace hf := hf.keep [2, 3]
    dsimp only [keep, List.filterMap, look, Nat.beq, Option.map] at hf
    repeat refine seq ?_
    refine regn 1 hf (by decide +kernel) ?_
    refine st (ldW T37 rfl (by assumption) rfl) ?_
    refine en fun a w e' hf => ?_
    replace e := Ext.tr e e'
    replace B2 := B2.ext e'
    replace B3 := B3.ext e'
    clear e'
    haveI hinr : ∀ G0, InR (GB W G0) (some b2) := fun G0 => InR.gb (by omega)
    refine tl_stW T37 hf rfl rfl (wordsC_one _) B2 rfl (rfl) fun w hg hsz B2 hf => ?_
    replace e := e.gr hg (by omega)
    replace B3 := B3.gr hg (by omega)
    clear hg
    refine tl_nil ?_
    refine wret (retS rfl T37 hf rfl B2 e rfl)
end Go.Mono

set_option linter.unusedVariables false
namespace Go.Mono
open Go Go.Proofs Go.RowKit

def bagC (b : Int × BS) : Array Value := (Value.int .i64 b.1 :: (setC b.2).toList).toArray
abbrev bagV (b : Int × BS) : Value := .agg (bagC b)
theorem bagC_size (b : Int × BS) : (bagC b).size = 17 := by
  simp [bagC, setC_size]
theorem bagC_one (b : Int × BS) : (bagC b).all (·.oneCell') = true := by
  have := wordsC_one (word b.2)
  rw [Array.all_eq_true_iff_forall_mem] at this ⊢
  intro u hu
  simp only [bagC, List.mem_toArray, List.mem_cons] at hu
  rcases hu with rfl | hu
  · rfl
  · exact this u (by simpa [setC] using hu)
theorem bagC_0 (b : Int × BS) : (bagC b)[0 + 0]? = some (I b.1) := rfl
theorem bagC_le (b : Int × BS) : 0 + 1 + 16 ≤ (bagC b).size := by rw [bagC_size]; omega
theorem bagC_1 (b : Int × BS) : Value.agg ((bagC b).extract (0 + 1) (0 + 1 + 16)) = setV b.2 := by
  refine congrArg Value.agg (Array.toList_inj.1 ?_)
  simp only [bagC, List.extract_toArray, List.extract_eq_take_drop]
  have : (setC b.2).toList.length = 16 := by rw [Array.length_toList, setC_size]
  simp [List.take_of_length_le (Nat.le_of_eq this)]
section
variable {P : Program} {w0 : World} {L : Env} {dst : Option Tmp} {ty : TypeId} {pos : String} {aft : Array Edge} {g : Option (Nat × Bool)} {t : TypeId} {x : Operand} {G : Nat → Prop} {b : Int × BS}
theorem Dv.bag {v : Value} {w : World} : (Dv bagE G b).p v w ↔ v = bagV b := by
  constructor
  · rintro ⟨cs, ⟨c, d, h, h1, h2⟩, hv⟩
    cases h1; cases h2; subst h
    exact hv
  · rintro rfl
    exact ⟨_, ⟨_, _, rfl, rfl, rfl⟩, rfl⟩
theorem isBag (h : opd L x = some (E (bagV b))) : Is L w0 x (Dv bagE G b) := isE h (Dv.bag.2 rfl)
theorem ldBag (ht : TI P t true 17) (hx : Is L w0 x (Dv (ptE bagE) G (some b))) : OpC P w0 L ⟨dst, .load t x, ty, pos, aft, g⟩ (E (bagV b)) := (ldD (e := bagE) ht hx).conv fun v w => Dv.bag.1
end

/-- the index of the first for which p holds, or -1 -/
def fstB (p : Int × BS → Bool) (t : List (Int × BS)) : Int := fstN (fun i => p (bg t i)) t.length

theorem indexFunc_spec {G : Nat → Prop} (t : List (Int × BS)) (v : Value) (id : FuncId) (caps : Array Value) (p : Int × BS → Bool) (W : World) (hen : Proofs.Enters Tryd.prog id) (h : (Dv treeE G t).p v W)
    (hp : ∀ w b, Ext W w → Calls Tryd.prog id (#[bagV b] ++ caps) w (Post (E (B (p b))) w)) (hl : t.length ≤ 4096) :
    Calls Tryd.prog 95 #[v, .func (.func id) #[] caps] W (Post (E (I (fstB p t))) W) := by
  refine enter (args := [v, .func (.func id) #[] caps]) (As := [Dv treeE G t, E (.func (.func id) #[] caps)]) Tryd.func95 rfl Tryd.ntmps95 (Nat.le_of_ble_eq_true rfl) ?_ (fun a hf => ?_) (Nat.le_of_ble_eq_true rfl)
  rotate_left
  dsimp only [params, Nat.reduceAdd] at hf
  rotate_right
  · exact arg2 h rfl
  have e := Ext.rfl' W
  repeat refine seq ?_
  refine regn0 ?_
  refine tl_as hf rfl (by decide) fun a hf => ?_
  refine tl_nil ?_
  repeat refine seq ?_
  refine regn 3 hf (by decide +kernel) ?_
  refine st (mv rfl) ?_
  refine st (lenD Tryd.underlying23 (isR rfl)) ?_
  refine st (mv rfl) ?_
  refine en fun a w e' hf => ?_
  replace e := Ext.tr e e'
  clear e'
  refine tl_nil ?_
  replace hf := hf.keep [0, 1, 7, 8]
  dsimp only [keep, List.filterMap, look, Nat.beq, Option.map] at hf
  repeat refine seq ?_
  refine blk (loopN (fun r0 a w => ∃ (k : Nat) , r0 = t.length - k ∧ k ≤ t.length ∧ Fr 19 a w [(0, Dv treeE G t), (1, E (.func (.func id) #[] caps)), (7, E (I (t.length : Nat))), (8, E (I k))] ∧ Ext W w ∧ ∀ i, i < k → p (bg t i) = false) t.length ⟨0, rfl, by omega, hf, e, (fun i hi => by omega)⟩ ?_)
  clear hf e; try clear Ho
  rintro r0 a w ⟨k, rfl, hk, hf, e, Ho⟩
  repeat refine seq ?_
  refine regn 1 hf (by decide +kernel) ?_
  refine st (lss rfl rfl) ?_
  refine en fun a w e' hf => ?_
  replace e := Ext.tr e e'
  clear e'
  refine tl_nil ?_
  repeat refine seq ?_
  refine ifc hf rfl (fun hc => wskip ?_) (fun hc => wexit ?_)
  rotate_left
  rotate_left
  · have hlt : k < t.length := by have := of_decide_eq_true hc; (try dsimp only at this); omega
    clear hc
    replace hf := hf.keep [0, 1, 7, 8]
    dsimp only [keep, List.filterMap, look, Nat.beq, Option.map] at hf
    repeat refine seq ?_
    refine blk ?_
    repeat refine seq ?_
    refine regn 1 hf (by decide +kernel) ?_
    refine st (mv rfl) ?_
    refine en fun a w e' hf => ?_
    replace e := Ext.tr e e'
    clear e'
    refine tl_as hf rfl (by decide) fun a hf => ?_
    refine tl_nil ?_
    repeat refine seq ?_
    refine regn 6 hf (by decide +kernel) ?_
    refine st (mv rfl) ?_
    refine st (mv rfl) ?_
    refine st (mv rfl) ?_
    refine st (idxD Tryd.underlying23 S86 (isR rfl) rfl (by omega) (bg_get hlt)) ?_
    refine st (ldBag T86 (isR rfl)) ?_
    refine st (callV1 hen rfl rfl (fun v w he h => by cases h; exact hp w _ (Ext.tr e he))) ?_
    refine en fun a w e' hf => ?_
    replace e := Ext.tr e e'
    clear e'
    refine tl_nil ?_
    repeat refine seq ?_
    refine ifc hf rfl (fun hb => ?_) (fun hb => ?_)
    · repeat refine seq ?_
      refine regn 1 hf (by decide +kernel) ?_
      refine st (mv rfl) ?_
      refine en fun a w e' hf => ?_
      replace e := Ext.tr e e'
      clear e'
      refine tl_as hf rfl (by decide) fun a hf => ?_
      refine tl_nil ?_
      refine wret ?_
      try simp only [Exit.then, Exit.inBlock]
      refine ret1 rfl hf rfl ?_
      rintro _ rfl
      exact ⟨_, rfl, e, congrArg I (fstN_hit hlt Ho hb).symm⟩
    · refine wskip ?_
      try simp only [Exit.then, Exit.inBlock, ↓reduceIte]
      try simp only [Exit.then, Exit.inBlock, ↓reduceIte]
      repeat refine seq ?_
      refine regn 1 hf (by decide +kernel) ?_
      refine st ((add rfl rfl (by omega)).eq (congrArg (Value.int .i64) (show (k : Int) + 1 = ((k + 1 : Nat) : Int) from rfl))) ?_
      refine en fun a w e' hf => ?_
      replace e := Ext.tr e e'
      clear e'
      refine tl_op hf (by decide) (mv rfl) fun a w e' hf => ?_
      replace e := Ext.tr e e'
      clear e'
      refine tl_nil ?_
      replace hf := hf.keep [0, 1, 7, 8]
      dsimp only [keep, List.filterMap, look, Nat.beq, Option.map] at hf
      refine ⟨_, ?_, k + 1, rfl, by omega, hf, e, ?_⟩
      · omega
      intro i hi
      by_cases hk : i = k
      · subst hk; exact hb
      · exact Ho i (by omega)
  · obtain rfl : k = t.length := by have := of_decide_eq_false hc; (try dsimp only at this); omega
    clear hc
    simp only [Exit.then, Exit.inBlock, ↓reduceIte]
    repeat refine seq ?_
    refine regn0 ?_
    refine tl_as hf rfl (by decide) fun a hf => ?_
    refine tl_nil ?_
    refine wret ?_
    try simp only [Exit.then, Exit.inBlock]
    refine ret1 rfl hf rfl ?_
    rintro _ rfl
    exact ⟨_, rfl, e, congrArg I (fstN_none Ho).symm⟩

theorem containsFunc_spec {G : Nat → Prop} (t : List (Int × BS)) (v : Value) (id : FuncId) (caps : Array Value) (p : Int × BS → Bool) (W : World) (hen : Proofs.Enters Tryd.prog id) (h : (Dv treeE G t).p v W)
    (hp : ∀ w b, Ext W w → Calls Tryd.prog id (#[bagV b] ++ caps) w (Post (E (B (p b))) w)) (hl : t.length ≤ 4096) :
    Calls Tryd.prog 89 #[v, .func (.func id) #[] caps] W (Post (E (B (decide (0 ≤ fstB p t)))) W) := by
  refine enter (args := [v, .func (.func id) #[] caps]) (As := [Dv treeE G t, E (.func (.func id) #[] caps)]) Tryd.func89 rfl Tryd.ntmps89 (Nat.le_of_ble_eq_true rfl) ?_ (fun a hf => ?_) (Nat.le_of_ble_eq_true rfl)
  rotate_left
  dsimp only [params, Nat.reduceAdd] at hf
  rotate_right
  · exact arg2 h rfl
  have e := Ext.rfl' W
  repeat refine seq ?_
  refine regn0 ?_
  refine tl_as hf rfl (by decide) fun a hf => ?_
  refine tl_nil ?_
  repeat refine seq ?_
  refine regn 4 hf (by decide +kernel) ?_
  refine st (mv rfl) ?_
  refine st (mv rfl) ?_
  refine st (call2 En95 rfl rfl (fun v u w he h h' => by cases h'; exact indexFunc_spec _ _ _ _ p _ hen h (fun w' b he' => hp w' b (Ext.tr (Ext.tr e he) he')) hl)) ?_
  refine st (geq rfl rfl) ?_
  refine en fun a w e' hf => ?_
  replace e := Ext.tr e e'
  clear e'
  refine tl_as hf rfl (by decide) fun a hf => ?_
  refine tl_nil ?_
  refine wret ?_
  try simp only [Exit.then, Exit.inBlock]
  refine ret1 rfl hf rfl ?_
  rintro _ rfl
  exact ⟨_, rfl, e, rfl⟩

def rootsT (t : List (Int × BS)) : List Int := selN (fun i => decide ((bg t i).1 = -1)) t.length
theorem roots_spec {G : Nat → Prop} (t : List (Int × BS)) (v : Value) (W : World) (h : (Dv treeE G t).p v W) (hG : ∀ b, G b → b < W.heap.size) (hl : t.length ≤ 4096) :
    Calls Tryd.prog 138 #[v] W (Post (Dv (slE intE) G (rootsT t)) W) := by
  refine enter (args := [v]) (As := [Dv treeE (GB W G) t]) Tryd.func138 rfl Tryd.ntmps138 (Nat.le_of_ble_eq_true rfl) ?_ (fun a hf => ?_) (Nat.le_of_ble_eq_true rfl)
  rotate_left
  dsimp only [params, Nat.reduceAdd] at hf
  rotate_right
  · exact arg1 (Dv.toB h)
  have e := Ext.rfl' W
  repeat refine seq ?_
  refine regn0 ?_
  refine tl_as hf rfl (by decide) fun a hf => ?_
  refine tl_nil ?_
  repeat refine seq ?_
  refine regn0 ?_
  refine tl_as hf rfl (by decide) fun a hf => ?_
  refine tl_nil ?_
  repeat refine seq ?_
  refine regn 3 hf (by decide +kernel) ?_
  refine st (mv rfl) ?_
  refine st (lenD Tryd.underlying23 (isR rfl)) ?_
  refine st (mv rfl) ?_
  refine en fun a w e' hf => ?_
  replace e := Ext.tr e e'
  clear e'
  refine tl_nil ?_
  replace hf := hf.keep [3, 6, 7, 8]
  dsimp only [keep, List.filterMap, look, Nat.beq, Option.map] at hf
  repeat refine seq ?_
  refine blk (loopN (fun r0 a w => ∃ (k : Nat) (u : Value), r0 = t.length - k ∧ k ≤ t.length ∧ Fr 22 a w [(3, E u), (6, Dv treeE (GB W G) t), (7, E (I (t.length : Nat))), (8, E (I k))] ∧ Ext W w ∧ OwR intE 3 W.heap.size G w (selN (fun i => decide ((bg t i).1 = -1)) k) u) t.length ⟨0, _, rfl, by omega, hf, e, OwR.nil intE _ e.size hG⟩ ?_)
  clear hf e; try clear Ho
  rintro r0 a w ⟨k, u, rfl, hk, hf, e, Ho⟩
  repeat refine seq ?_
  refine regn 1 hf (by decide +kernel) ?_
  refine st (lss rfl rfl) ?_
  refine en fun a w e' hf => ?_
  replace e := Ext.tr e e'
  replace Ho := Ho.ext e'
  clear e'
  refine tl_nil ?_
  repeat refine seq ?_
  refine ifc hf rfl (fun hc => wskip ?_) (fun hc => wexit ?_)
  rotate_left
  rotate_left
  · have hlt : k < t.length := by have := of_decide_eq_true hc; (try dsimp only at this); omega
    clear hc
    replace hf := hf.keep [3, 6, 7, 8]
    dsimp only [keep, List.filterMap, look, Nat.beq, Option.map] at hf
    repeat refine seq ?_
    refine blk ?_
    have hsel := selN_len (fun i => decide ((bg t i).1 = -1)) k
    repeat refine seq ?_
    refine regn0 ?_
    refine tl_op hf (by decide) (mv rfl) fun a w e' hf => ?_
    replace e := Ext.tr e e'
    replace Ho := Ho.ext e'
    clear e'
    refine tl_op hf (by decide) (idxD Tryd.underlying23 S86 (isR rfl) rfl (by omega) (bg_get hlt)) fun a w e' hf => ?_
    replace e := Ext.tr e e'
    replace Ho := Ho.ext e'
    clear e'
    refine tl_op hf (by decide) (ldBag T86 (isR rfl)) fun a w e' hf => ?_
    replace e := Ext.tr e e'
    replace Ho := Ho.ext e'
    clear e'
    refine tl_alloc I86 hf (by decide) fun a b5 w e' hb5 hs5 B5 hf => ?_
    have hle5 := Nat.le_trans e.size (Nat.le_of_eq hb5.symm)
    have ne5_Ho := Ho.ne_new hb5
    replace e := Ext.tr e e'
    replace Ho := Ho.ext e'
    clear e'
    refine tl_as hf rfl (by decide) fun a hf => ?_
    haveI hinr : ∀ G0, InR (GB W G0) (some b5) := fun G0 => InR.gb (by omega)
    refine tl_stW T86 hf rfl rfl (bagC_one _) B5 rfl (bagC_size _) fun w hg hsz B5 hf => ?_
    replace e := e.gr hg (by omega)
    replace Ho := Ho.gr hg (by assumption)
    clear hg
    refine tl_nil ?_
    repeat refine seq ?_
    refine regn 3 hf (by decide +kernel) ?_
    refine st (fldA Tryd.underlying86 rfl T3 (by decide) rfl) ?_
    refine st (ld1 T3 rfl B5 (bagC_0 _)) ?_
    refine st (eql rfl rfl) ?_
    refine en fun a w e' hf => ?_
    replace e := Ext.tr e e'
    replace Ho := Ho.ext e'
    replace B5 := B5.ext e'
    clear e'
    refine tl_nil ?_
    repeat refine seq ?_
    refine ifc hf rfl (fun hb => ?_) (fun hb => ?_)
    · replace hf := hf.keep [3, 4, 6, 7, 8]
      dsimp only [keep, List.filterMap, look, Nat.beq, Option.map] at hf
      repeat refine seq ?_
      refine regn 3 hf (by decide +kernel) ?_
      refine st (mv rfl) ?_
      refine st (mv rfl) ?_
      refine st (bsl1 Tryd.underlying43 I3 rfl (by decide) rfl Ho.avs (isI rfl)) ?_
      refine en fun a w e' hf => ?_
      replace e := Ext.tr e e'
      replace Ho := Ho.ext e'
      replace B5 := B5.ext e'
      clear e'
      haveI hin : ∀ G0, InR (GB W G0) _ := OwR.inGB Ho (Nat.le_refl _)
      refine tl_app Tryd.underlying43 I3 rfl rfl hf (by decide) rfl Ho (isR rfl) (by simp only [List.length_singleton]; omega) (by simp only [List.length_singleton, maxLen]; omega) fun a v w hg hat Hn hf => ?_
      replace e := e.gro hg (Ho.row (Nat.le_refl _))
      replace B5 := B5.gro hg (by assumption)
      replace Ho := Hn; clear Hn hg hat hin
      refine tl_as hf rfl (by decide) fun a hf => ?_
      refine tl_nil ?_
      try simp only [Exit.then, Exit.inBlock, ↓reduceIte]
      repeat refine seq ?_
      refine regn 1 hf (by decide +kernel) ?_
      refine st ((add rfl rfl (by omega)).eq (congrArg (Value.int .i64) (show (k : Int) + 1 = ((k + 1 : Nat) : Int) from rfl))) ?_
      refine en fun a w e' hf => ?_
      replace e := Ext.tr e e'
      replace Ho := Ho.ext e'
      replace B5 := B5.ext e'
      clear e'
      refine tl_op hf (by decide) (mv rfl) fun a w e' hf => ?_
      replace e := Ext.tr e e'
      replace Ho := Ho.ext e'
      replace B5 := B5.ext e'
      clear e'
      refine tl_nil ?_
      replace hf := hf.keep [3, 6, 7, 8]
      dsimp only [keep, List.filterMap, look, Nat.beq, Option.map] at hf
      refine ⟨_, ?_, k + 1, _, rfl, by omega, hf, e, ?_⟩
      · omega
      rw [selN_succ, if_pos (by simpa using hb)]; exact Ho
    · refine wskip ?_
      try simp only [Exit.then, Exit.inBlock, ↓reduceIte]
      try simp only [Exit.then, Exit.inBlock, ↓reduceIte]
      repeat refine seq ?_
      refine regn 1 hf (by decide +kernel) ?_
      refine st ((add rfl rfl (by omega)).eq (congrArg (Value.int .i64) (show (k : Int) + 1 = ((k + 1 : Nat) : Int) from rfl))) ?_
      refine en fun a w e' hf => ?_
      replace e := Ext.tr e e'
      replace Ho := Ho.ext e'
      replace B5 := B5.ext e'
      clear e'
      refine tl_op hf (by decide) (mv rfl) fun a w e' hf => ?_
      replace e := Ext.tr e e'
      replace Ho := Ho.ext e'
      replace B5 := B5.ext e'
      clear e'
      refine tl_nil ?_
      replace hf := hf.keep [3, 6, 7, 8]
      dsimp only [keep, List.filterMap, look, Nat.beq, Option.map] at hf
      refine ⟨_, ?_, k + 1, _, rfl, by omega, hf, e, ?_⟩
      · omega
      rw [selN_succ, if_neg (by simpa using hb)]; exact Ho
  · obtain rfl : k = t.length := by have := of_decide_eq_false hc; (try dsimp only at this); omega
    clear hc
    simp only [Exit.then, Exit.inBlock, ↓reduceIte]
    repeat refine seq ?_
    refine regn 1 hf (by decide +kernel) ?_
    refine st (mv rfl) ?_
    refine en fun a w e' hf => ?_
    replace e := Ext.tr e e'
    replace Ho := Ho.ext e'
    clear e'
    refine tl_as hf rfl (by decide) fun a hf => ?_
    refine tl_nil ?_
    refine wret ?_
    try simp only [Exit.then, Exit.inBlock]
    refine ret1 rfl hf rfl ?_
    rintro _ rfl
    exact ⟨_, rfl, e, Ho.sl⟩

theorem check1_spec {G : Nat → Prop} (b : Int × BS) (c : Nat) (t : List (Int × BS)) (u : Value) (W : World) (hB : Blk W c #[u] 23) (h : (Dv treeE G t).p u W) (hl : t.length ≤ 4096) :
    Calls Tryd.prog 137 #[bagV b, .pointer (some ⟨c, 0, none⟩)] W (Post (E (B (decide (b.1 < -1 ∨ (t.length : Int) ≤ b.1)))) W) := by
  refine enter (args := [bagV b, .pointer (some ⟨c, 0, none⟩)]) (As := [E (bagV b), E (.pointer (some ⟨c, 0, none⟩))]) Tryd.func137 rfl Tryd.ntmps137 (Nat.le_of_ble_eq_true rfl) ?_ (fun a hf => ?_) (Nat.le_of_ble_eq_true rfl)
  rotate_left
  dsimp only [params, Nat.reduceAdd] at hf
  rotate_right
  · exact arg2 rfl rfl
  have e := Ext.rfl' W
  repeat refine seq ?_
  refine regn0 ?_
  refine tl_box hf rfl (by decide) fun a b2 w v2 hv2 e' hb2 hs2 B2 hf => ?_
  have hle2 := Nat.le_trans e.size (Nat.le_of_eq hb2.symm)
  replace e := Ext.tr e e'
  replace hB := hB.ext e'
  clear e'
  refine tl_as hf rfl (by decide) fun a hf => ?_
  refine tl_nil ?_
  cases hv2
  cases h1 : decide (b.1 < -1)
  · repeat refine seq ?_
    refine regn 10 hf (by decide +kernel) ?_
    refine st (fldA Tryd.underlying86 rfl T3 (by decide) rfl) ?_
    refine st (ld1 T3 rfl B2 (bagC_0 _)) ?_
    refine st ((lss rfl rfl).eq (congrArg Value.bool (h1))) ?_
    refine st (mv rfl) ?_
    first | refine sn rfl rfl rfl ?_ | refine su rfl rfl ?_ | refine sy rfl rfl (fldA Tryd.underlying86 rfl T3 (by decide) rfl) ?_
    first | refine sn rfl rfl rfl ?_ | refine su rfl rfl ?_ | refine sy rfl rfl (ld1 T3 rfl B2 (bagC_0 _)) ?_
    first | refine sn rfl rfl rfl ?_ | refine su rfl rfl ?_ | refine sy rfl rfl ((ld1 T23 rfl hB rfl)) ?_
    first | refine sn rfl rfl rfl ?_ | refine su rfl rfl ?_ | refine sy rfl rfl (lenD Tryd.underlying23 (isE rfl ((Dv treeE G t).st _ _ _ e h))) ?_
    first | refine sn rfl rfl rfl ?_ | refine su rfl rfl ?_ | refine sy rfl rfl (geq rfl rfl) ?_
    first | refine st (pkT rfl rfl) ?_ | refine st (pkF rfl rfl) ?_ | refine st (pk rfl rfl rfl) ?_
    refine en fun a w e' hf => ?_
    replace e := Ext.tr e e'
    replace hB := hB.ext e'
    replace B2 := B2.ext e'
    clear e'
    refine tl_as hf rfl (by decide) fun a hf => ?_
    refine tl_nil ?_
    have h1' := of_decide_eq_false h1
    refine wret ?_
    try simp only [Exit.then, Exit.inBlock]
    refine ret1 rfl hf rfl ?_
    rintro _ rfl
    exact ⟨_, rfl, e, congrArg B (by simp only [h1', false_or])⟩
  · repeat refine seq ?_
    refine regn 10 hf (by decide +kernel) ?_
    refine st (fldA Tryd.underlying86 rfl T3 (by decide) rfl) ?_
    refine st (ld1 T3 rfl B2 (bagC_0 _)) ?_
    refine st ((lss rfl rfl).eq (congrArg Value.bool (h1))) ?_
    refine st (mv rfl) ?_
    first | refine sn rfl rfl rfl ?_ | refine su rfl rfl ?_ | refine sy rfl rfl (fldA Tryd.underlying86 rfl T3 (by decide) rfl) ?_
    first | refine sn rfl rfl rfl ?_ | refine su rfl rfl ?_ | refine sy rfl rfl (ld1 T3 rfl B2 (bagC_0 _)) ?_
    first | refine sn rfl rfl rfl ?_ | refine su rfl rfl ?_ | refine sy rfl rfl (ld1 T23 rfl (by assumption) rfl) ?_
    first | refine sn rfl rfl rfl ?_ | refine su rfl rfl ?_ | refine sy rfl rfl (lenD Tryd.underlying23 (isR rfl)) ?_
    first | refine sn rfl rfl rfl ?_ | refine su rfl rfl ?_ | refine sy rfl rfl (geq rfl rfl) ?_
    first | refine st (pkT rfl rfl) ?_ | refine st (pkF rfl rfl) ?_ | refine st (pk rfl rfl rfl) ?_
    refine en fun a w e' hf => ?_
    replace e := Ext.tr e e'
    replace hB := hB.ext e'
    replace B2 := B2.ext e'
    clear e'
    refine tl_as hf rfl (by decide) fun a hf => ?_
    refine tl_nil ?_
    have h1' := of_decide_eq_true h1
    refine wret ?_
    try simp only [Exit.then, Exit.inBlock]
    refine ret1 rfl hf rfl ?_
    rintro _ rfl
    exact ⟨_, rfl, e, congrArg B (by simp only [h1', true_or, decide_true])⟩
end Go.Mono

set_option linter.unusedVariables false
set_option linter.unusedSimpArgs false
namespace Go.Mono
open Go Go.RowKit

/-- the operation that changes the row: it runs once, ahead of it the world has but grown -/
structure XOp (P : Program) (w0 : World) (row : Option Nat) (L : Env) (o : Oper) (A : VA) : Prop where
  out : ∀ ρ w, Ext w0 w → (∀ x ∈ o.op.operands, ∀ B, opd L x = some B → B.p (ρ x) w) → OpR P o ρ w (fun v w' => w.grownBy w' row ∧ A.p v w')

/-- the operations in the order of the text; which one is the row's -/
def RegX (P : Program) (ops : Array Oper) (w0 : World) (row : Option Nat) : Option Nat → List Oper → (Env → Prop) → Env → Prop
  | _, [], K, L => K L
  | some 0, o :: rest, K, L => o.guard = none ∧ ∃ A, XOp P w0 row L o A ∧ RegX P ops w0 row none rest K (push o.dst A L)
  | some (x + 1), o :: rest, K, L => ∃ A, (∀ w1, w0.grownBy w1 row → GOp P ops w1 L o A) ∧ AvR row A ∧ RegX P ops w0 row (some x) rest K (push o.dst A L)
  | none, o :: rest, K, L => ∃ A, (∀ w1, w0.grownBy w1 row → GOp P ops w1 L o A) ∧ AvR row A ∧ RegX P ops w0 row none rest K (push o.dst A L)

section
variable {P : Program} {ops : Array Oper} {Q : Exit → Act → World → Prop} {w0 : World} {n : Nat} {ds : List Deferred} {r : Option Nat}

def consF (A : VA) (As : Nat → VA) : Nat → VA
  | 0 => A
  | i + 1 => As i
theorem envF_cons (L : Env) (A : VA) (As : Nat → VA) (k j : Nat) : envF ops L (consF A As) k (j + 1) = envF ops (push (dstOf ops k) A L) As (k + 1) j := by
  rw [← envF_shift]
  congr 1
theorem RegX_As {row : Option Nat} {K : Env → Prop} : ∀ (M : List Oper) (k : Nat) (x : Option Nat) (L : Env), (∀ j, j < M.length → ops[k + j]? = M[j]?) → RegX P ops w0 row x M K L →
    ∃ As : Nat → VA, (∀ j o, j < M.length → x ≠ some j → ops[k + j]? = some o → (∀ w1, w0.grownBy w1 row → GOp P ops w1 (envF ops L As k j) o (As j)) ∧ AvR row (As j)) ∧
      (∀ j o, j < M.length → x = some j → ops[k + j]? = some o → o.guard = none ∧ XOp P w0 row (envF ops L As k j) o (As j)) ∧ K (envF ops L As k M.length)
  | [], k, x, L, _, h => ⟨fun _ => Any, fun j o hj => by simp at hj, fun j o hj => by simp at hj, by
    match x, h with
    | none, h => exact h
    | some 0, h => exact h
    | some (x + 1), h => exact h⟩
  | o :: M, k, x, L, hM, h => by
    have h0 : ops[k]? = some o := by simpa using hM 0 (by simp)
    have hd : dstOf ops k = o.dst := by simp [dstOf, h0]
    obtain ⟨A, x', hA, hx', hr⟩ : ∃ A x', ((x ≠ some 0 → (∀ w1, w0.grownBy w1 row → GOp P ops w1 L o A) ∧ AvR row A) ∧ (x = some 0 → o.guard = none ∧ XOp P w0 row L o A)) ∧ (∀ j, x = some (j + 1) ↔ x' = some j) ∧ RegX P ops w0 row x' M K (push o.dst A L) := by
      match x, h with
      | none, ⟨A, h1, h2, h3⟩ => exact ⟨A, none, ⟨fun _ => ⟨h1, h2⟩, fun h => by cases h⟩, fun j => by simp, h3⟩
      | some 0, ⟨hg, A, h1, h2⟩ => exact ⟨A, none, ⟨fun h => absurd rfl h, fun _ => ⟨hg, h1⟩⟩, fun j => by simp, h2⟩
      | some (x + 1), ⟨A, h1, h2, h3⟩ => exact ⟨A, some x, ⟨fun _ => ⟨h1, h2⟩, fun h => by cases h⟩, fun j => by simp, h3⟩
    obtain ⟨As, h1, h2, h3⟩ := RegX_As M (k + 1) x' (push o.dst A L) (fun j hj => by
      have := hM (j + 1) (by simpa using hj)
      rw [show k + 1 + j = k + (j + 1) by omega]
      simpa using this) hr
    refine ⟨consF A As, ?_, ?_, ?_⟩
    · intro j o' hj hjx ho'
      cases j with
      | zero =>
        rw [Nat.add_zero, h0] at ho'
        obtain rfl := Option.some.inj ho'
        exact hA.1 hjx
      | succ j =>
        rw [envF_cons, hd]
        exact h1 j o' (by simpa using hj) (fun h => hjx ((hx' j).2 h)) (by rw [show k + 1 + j = k + (j + 1) by omega]; exact ho')
    · intro j o' hj hjx ho'
      cases j with
      | zero =>
        rw [Nat.add_zero, h0] at ho'
        obtain rfl := Option.some.inj ho'
        exact hA.2 hjx
      | succ j =>
        rw [envF_cons, hd]
        exact h2 j o' (by simpa using hj) ((hx' j).1 hjx) (by rw [show k + 1 + j = k + (j + 1) by omega]; exact ho')
    · rw [List.length_cons, envF_cons, hd]
      exact h3

structure InvX (ops : Array Oper) (m x : Nat) (row : Option Nat) (n : Nat) (ds : List Deferred) (w0 : World) (L : Env) (As : Nat → VA) (listed : Array Bool) (a : Act) (w : World) : Prop where
  ext : w0.grownBy w row
  pre : listed.getD x true = false → Ext w0 w
  size : a.tmps.size = n
  defers : a.defers = ds
  hL : ∀ t A, look L t = some A → (∀ j, j < m → dstOf ops j ≠ some t) → A.p (a.eval (.tmp t)) w
  hA : ∀ i, i < m → listed.getD i false = true → ∀ d, dstOf ops i = some d → (As i).p (a.eval (.tmp d)) w

theorem wpAny_mainX {m x : Nat} {row : Option Nat} {L : Env} {As : Nat → VA} (hm : m ≤ ops.size) (hchk : ∀ i, i < m → chkOp ops m n i = true) (hchk2 : ∀ i, m ≤ i → i < ops.size → chkTail ops i = true)
    (hops : ∀ j o, j < m → j ≠ x → ops[j]? = some o → (∀ w1, w0.grownBy w1 row → GOp P ops w1 (envF ops L As 0 j) o (As j)) ∧ AvR row (As j))
    (hX : ∀ o, ops[x]? = some o → o.guard = none ∧ XOp P w0 row (envF ops L As 0 x) o (As x)) (hLav : AvRL row L)
    (hend : ∀ a w, w0.grownBy w row → FrD n ds a w (envF ops L As 0 m) → wpListIn (FW r) 0 P ops Q (ops.toList.drop m) a w) :
    ∀ (c : Nat) (listed : Array Bool) (a : Act) (w : World), (List.range m).countP (fun i => !listed.getD i true) = c → listed.size = ops.size →
      (∀ j, m ≤ j → j < ops.size → listed.getD j true = false) → LD ops listed → InvX ops m x row n ds w0 L As listed a w → wpAnyIn (FW r) 0 P .any ops Q (c + (ops.size - m)) listed a w
  | 0, listed, a, w, hc, hsz, hun, hld, hi => by
    have hall : ∀ j, j < m → listed.getD j false = true := by
      intro j hj
      have := (List.countP_eq_zero.1 hc) j (List.mem_range.2 hj)
      have hjl : j < listed.size := by omega
      simpa [hjl] using this
    rw [Nat.zero_add]
    refine wpAny_tail m hchk2 (ops.size - m) m (by omega) (Nat.le_refl _) listed a w hall hun hsz hld (hend a w hi.ext ⟨hi.size, hi.defers, fun t A ht => ?_⟩)
    rcases look_envF L As t A m ht with ⟨j, hj, hd, rfl⟩ | ⟨hn, hl⟩
    · exact hi.hA j hj (hall j hj) t hd
    · exact hi.hL t A hl hn
  | c + 1, listed, a, w, hc, hsz, hun, hld, hi => by
    have facts : ∀ i o, i < m → ops[i]? = some o → (∀ e ∈ o.after, Region.binds .any e = true → e.on < i) ∧ (∀ d, o.dst = some d → d < n) ∧
        (∀ t, t ∈ tmpsOf o ∨ gdst ops o = some t → ∀ j, j < m → dstOf ops j = some t → bnd ops i j = true) ∧ (∀ j, j < m → j ≠ i → ∀ d, o.dst = some d → dstOf ops j ≠ some d) := by
      intro i o hlt ho
      have := hchk i hlt
      simp only [chkOp, ho, Bool.and_eq_true, Array.all_eq_true_iff_forall_mem, Bool.or_eq_true, Bool.not_eq_true', List.all_eq_true, List.mem_range, List.mem_append, Option.mem_toList] at this
      obtain ⟨⟨⟨h1, h2⟩, h3⟩, h4⟩ := this
      refine ⟨fun e he hb => ?_, fun d hd => ?_, fun t ht j hj hd => ?_, fun j hj hne d hd hd' => ?_⟩
      · rcases h1 e he with h | h
        · rw [hb] at h; cases h
        · simpa [Nat.blt_eq] using h
      · simpa [hd, Nat.blt_eq] using h2
      · have := h3 t ht j hj
        rcases this with h | h
        · rw [hd] at h; simp at h
        · exact h
      · have := h4 j hj
        rcases this with h | h
        · exact hne (Nat.eq_of_beq_eq_true h)
        · rw [hd, hd'] at h; simp at h
    have prog : ∃ i, i < m ∧ listed.getD i true = false ∧ ∀ j, j < i → listed.getD j true = true := by
      have hex : ∃ i, i < m ∧ listed.getD i true = false := by
        have hpos : 0 < (List.range m).countP (fun i => !listed.getD i true) := by omega
        obtain ⟨i, hi, hb⟩ := List.countP_pos_iff.1 hpos
        exact ⟨i, List.mem_range.1 hi, by simpa using hb⟩
      obtain ⟨i, hlt, hb⟩ := hex
      induction i using Nat.strongRecOn with
      | _ i ih =>
        by_cases h : ∃ j, j < i ∧ listed.getD j true = false
        · obtain ⟨j, hj, hjb⟩ := h
          exact ih j hj (by omega) hjb
        · refine ⟨i, hlt, hb, fun j hj => ?_⟩
          cases hjb : listed.getD j true with
          | true => rfl
          | false => exact absurd ⟨j, hj, hjb⟩ h
    obtain ⟨i0, hi0, hu0, hbelow⟩ := prog
    have hready : i0 ∈ Region.ready .any ops listed := by
      have ho : ops[i0]? = some (ops[i0]'(by omega)) := by simp
      refine mem_ready.2 ⟨hu0, _, ho, fun e he hb => ?_⟩
      have hlt := (facts i0 _ hi0 ho).1 e he hb
      have := hbelow _ hlt
      have hjl : e.on < listed.size := by omega
      simpa [hjl] using this
    rw [show c + 1 + (ops.size - m) = (c + (ops.size - m)) + 1 by omega]
    refine ⟨fun h0 => (by rw [h0] at hready; cases hready), fun i hir => ?_⟩
    obtain ⟨hu, o, ho, hall⟩ := mem_ready.1 hir
    have hilt : i < ops.size := (Array.getElem?_eq_some_iff.1 ho).1
    have listed_of_bnd : ∀ j, bnd ops i j = true → listed.getD j false = true := by
      intro j hb
      simp only [bnd, ho] at hb
      obtain ⟨e, he, hb⟩ := Array.any_eq_true'.1 hb
      simp only [Bool.and_eq_true] at hb
      have := hall e he hb.1
      rwa [Nat.eq_of_beq_eq_true hb.2] at this
    have him : i < m := by
      rcases Nat.lt_or_ge i m with h | h
      · exact h
      · have hc := hchk2 i h hilt
        simp only [chkTail, ho, Bool.and_eq_true, List.all_eq_true, List.mem_range] at hc
        have := cov hld 12 i i0 (hc.2 i0 (by omega)) (fun o' ho' e he hb => by
          rw [ho] at ho'
          obtain rfl := Option.some.inj ho'
          exact hall e he hb)
        rw [not_listed hu0] at this
        cases this
    obtain ⟨f1, f2, f3, f4⟩ := facts i o him ho
    have byLook : ∀ t, (t ∈ tmpsOf o ∨ gdst ops o = some t) → ∀ B, look (envF ops L As 0 i) t = some B → B.p (a.eval (.tmp t)) w := by
      intro t ht B hB
      rcases look_envF L As t B i hB with ⟨j, hj, hd, rfl⟩ | ⟨hn, hl⟩
      · exact hi.hA j (by omega) (listed_of_bnd j (f3 t ht j (by omega) hd)) t hd
      · refine hi.hL t B hl fun j hj hd => ?_
        have hb := f3 t ht j hj hd
        simp only [bnd, ho] at hb
        obtain ⟨e, he, hb⟩ := Array.any_eq_true'.1 hb
        simp only [Bool.and_eq_true] at hb
        have hlt := f1 e he hb.1
        rw [Nat.eq_of_beq_eq_true hb.2] at hlt
        exact hn j hlt hd
    have ops1 : ∀ x ∈ o.op.operands, ∀ B, opd (envF ops L As 0 i) x = some B → B.p (a.eval x) w := fun x hx B hB => by
      cases x with
      | tmp t => exact byLook t (.inl (List.mem_filterMap.2 ⟨.tmp t, by simpa using hx, rfl⟩)) B hB
      | const v => simp [opd] at hB; subst hB; rfl
      | global g => simp [opd] at hB; subst hB; rfl
      | func f => simp [opd] at hB; subst hB; rfl
    have hdst : dstOf ops i = o.dst := by simp [dstOf, ho]
    have step : ∀ v w', w.grownBy w' row → (i ≠ x → Ext w w') → (i = x → ∀ j, j < m → j ≠ x → AvR row (As j)) → (As i).p v w' → wpAnyIn (FW r) 0 P .any ops Q (c + (ops.size - m)) (listed.setIfInBounds i true) (a.put o.dst v) w' := by
      intro v w' hx hxe hxa hv
      have stab : ∀ (A : VA) u, AvR row A → A.p u w → A.p u w' := fun A u hA h => hA.av _ _ _ hx h
      refine wpAny_mainX hm hchk hchk2 hops hX hLav hend c _ _ _ ?_ (by simpa using hsz) ?_ ?_ ?_
      · have := countP_upd m (fun j => !listed.getD j true) (fun j => !(listed.setIfInBounds i true).getD j true) i him (by simp only [hu, Bool.not_false])
          (by have hjl : i < listed.size := by omega
              simp [hjl]) (fun j hj => by simp only [getD_set_ne true (Ne.symm hj)])
        omega
      · intro j hj hj'
        rw [getD_set_ne true (by omega)]
        exact hun j hj hj'
      · exact hld.set fun o' ho' e he hb => by
          rw [ho] at ho'
          obtain rfl := Option.some.inj ho'
          exact hall e he hb
      · refine ⟨World.grownBy.trans hi.ext hx, fun hl => ?_, by simp [hi.size], by simp [hi.defers], fun t A ht hn => ?_, fun j hj hl d hd => ?_⟩
        · have hix : i ≠ x := by
            rintro rfl
            have hjl : i < listed.size := by omega
            simp [hjl] at hl
          rw [getD_set_ne true hix] at hl
          exact Ext.tr (hi.pre hl) (hxe hix)
        · have h0 := stab A _ ⟨hLav.av t A ht⟩ (hi.hL t A ht hn)
          cases hod : o.dst with
          | none => exact h0
          | some d =>
            have : d ≠ t := fun e => hn i him (by rw [hdst, hod, e])
            rw [eval_put_ne this]
            exact h0
        · by_cases hji : j = i
          · subst hji
            rw [hdst] at hd
            rw [hd, eval_put_same (by rw [hi.size]; exact f2 d hd)]
            exact hv
          · have hl' : listed.getD j false = true := by rwa [getD_set_ne false (Ne.symm hji)] at hl
            have h1 := hi.hA j hj hl' d hd
            have h0 : (As j).p (a.eval (.tmp d)) w' := by
              by_cases hix : i = x
              · exact stab _ _ (hxa hix j hj (fun h => hji (h.trans hix.symm))) h1
              · exact (As j).st _ _ _ (hxe hix) h1
            cases hod : o.dst with
            | none => exact h0
            | some d' =>
              have : d' ≠ d := fun e => f4 j hj hji d' hod (by rw [hd, e])
              rw [eval_put_ne this]
              exact h0
    unfold wpOpIn
    simp only [ho]
    by_cases hix : i = x
    · obtain ⟨hgd, hxo⟩ := hX o (hix ▸ ho)
      have hw : Region.wanted o (yielded ops a.tmps) = true := by unfold Region.wanted; rw [hgd]
      rw [if_pos hw]
      have hpre : Ext w0 w := hi.pre (hix ▸ hu)
      exact (hxo.out a.eval w hpre (hix ▸ ops1)).wp fun v w' hv => step v w' hv.1 (fun h => absurd hix h) (fun _ j hj hjx => by
        have hoj : ops[j]? = some (ops[j]'(by omega)) := by simp
        exact (hops j _ hj hjx hoj).2) (hix ▸ hv.2)
    · have hg := (hops i o him hix ho).1 w hi.ext a w (Ext.rfl' w) ops1 (fun d B hd hB => byLook d (.inr hd) B hB)
      split
      · rename_i hw
        rw [if_pos hw] at hg
        exact (hg.wp fun v w' hv => step v w' ⟨hv.1.os, hv.1.tape, hv.1.output, hv.1.size, fun k hk _ => hv.1.block k hk⟩ (fun _ => hv.1) (fun h => absurd h hix) hv.2)
      · rename_i hw
        rw [if_neg hw] at hg
        exact ⟨fun _ _ => trivial, step undef w ⟨rfl, rfl, rfl, Nat.le_refl _, fun _ _ _ => rfl⟩ (fun _ => Ext.rfl' _) (fun h => absurd h hix) hg⟩

/-- THE RULE: m operations first, number x of them changes the row -/
theorem regX {id : Nat} {ops : Array Oper} {L : Env} {a : Act} {w : World} (m x : Nat) (row : Option Nat) (hx : x < m) (hmix : P.follows .mixedOrders = true) (hf : FrD n ds a w L) [hL : AvRL row L] (hchk : chk ops m n = true)
    (h : RegX P ops w row (some x) (ops.toList.take m) (fun L' => ∀ a' w', w.grownBy w' row → FrD n ds a' w' L' → wpListIn (FW r) 0 P ops Q (ops.toList.drop m) a' w') L) : (Code.region id ops true).wpIn (FW r) 0 P Q a w := by
  simp only [chk, Bool.and_eq_true, List.all_eq_true, List.mem_range, Bool.or_eq_true, Nat.ble_eq] at hchk
  obtain ⟨⟨hm, h1⟩, h2⟩ := hchk
  refine wpIn_region_any hmix ?_
  have hlen : (ops.toList.take m).length = m := by simp; omega
  obtain ⟨As, hAs, hX, hK⟩ := RegX_As (ops := ops) (ops.toList.take m) 0 (some x) L (fun j hj => by
    rw [hlen] at hj
    rw [Nat.zero_add, List.getElem?_take, if_pos hj]; simp) h
  rw [hlen] at hK hAs hX
  have hdrew : w.grownBy w.drew none := ⟨rfl, rfl, rfl, Nat.le_refl _, fun _ _ _ => rfl⟩
  have hext : Ext w { w with drawn := w.drawn + 1 } := Ext.drew w
  have := wpAny_mainX (P := P) (ops := ops) (Q := Q) (w0 := w) (n := n) (ds := ds) (m := m) (x := x) (row := row) (r := r) (L := L) (As := As) hm h1 (fun i hi hi' => by
      rcases h2 i hi' with h | h
      · simp only [Nat.blt_eq] at h; omega
      · exact h) (fun j o hj hjx ho => hAs j o hj (by simpa using fun h => hjx h.symm) (by simpa using ho)) (fun o ho => hX x o hx rfl (by simpa using ho)) hL (fun a w hx hf => hK a w hx hf) m
    (Array.replicate ops.size false) a { w with drawn := w.drawn + 1 } ?_ (by simp) ?_ ?_ ⟨⟨rfl, rfl, rfl, Nat.le_refl _, fun _ _ _ => rfl⟩, fun _ => hext, hf.size, hf.defers, fun t A ht _ => A.st _ _ _ hext (hf.val t A ht), fun i hi hl => ?_⟩
  · rwa [show m + (ops.size - m) = ops.size by omega] at this
  · have : (List.range m).countP (fun i => !(Array.replicate ops.size false).getD i true) = (List.range m).length := by
      refine List.countP_eq_length.2 fun i hi => ?_
      have := List.mem_range.1 hi
      have hlt : i < ops.size := by omega
      simp [hlt]
    simpa using this
  · intro j _ hj
    simp [hj]
  · intro i o hl
    have : (Array.replicate ops.size false).getD i false = false := by
      by_cases hlt : i < ops.size <;> simp [hlt]
    rw [this] at hl; cases hl
  · have : (Array.replicate ops.size false).getD i false = false := by
      by_cases hlt : i < ops.size <;> simp [hlt]
    rw [this] at hl; cases hl
end
end Go.Mono

set_option linter.unusedVariables false
set_option linter.unusedSimpArgs false
namespace Go.Mono
open Go Go.RowKit

variable {P : Program} {w0 : World} {L : Env} {dst : Option Tmp} {ty : TypeId} {pos : String} {aft : Array Edge} {g : Option (Nat × Bool)} {r : Option Nat} {ds : List Deferred}

/-- the address of an element of a slice whose value is known -/
theorem idxS {x y : Operand} {t te : TypeId} {b off len cap s : Nat} {k : IntKind} {i : Int} (ht : P.underlying t = some (.slice te)) (hs : (P.info? te).map (·.size) = some s) (hx : opd L x = some (E (.slice (some ⟨b, off, none⟩) len cap))) (hy : opd L y = some (E (.int k i))) (hi : 0 ≤ i ∧ i < (len : Int)) :
    OpC P w0 L ⟨dst, .indexAddr t x y, ty, pos, aft, g⟩ (E (.pointer (some ⟨b, off + i.toNat * s, none⟩))) :=
  opc_pure fun ρ w _ hv => by
    have h1 := opE hv (x := x) (by simp [Op.operands]) hx
    have h2 := opE hv (x := y) (by simp [Op.operands]) hy
    have hsz : ∀ w, (sizeOf te).run P w = .ok s w := fun w => by
      cases hi : P.info? te with
      | none => simp [hi] at hs
      | some i => simp [hi] at hs; simp [sizeOf, typeInfo, hi, hs]
    refine ⟨_, ?_, rfl⟩
    simp [execOp, h1, h2, Instr.indexAt, asIntOf, run_underlying ht, hi, hsz, Addr.add_lit]
theorem lenE {x : Operand} {t te : TypeId} {ao : Option Addr} {n cap : Nat} (ht : P.underlying t = some (.slice te)) (hx : opd L x = some (E (.slice ao n cap))) : OpC P w0 L ⟨dst, .call ⟨.builtin .len, #[x], #[t]⟩, ty, pos, aft, g⟩ (E (.int .i64 (n : Nat))) :=
  opc_pure fun ρ w he hv => by
    have h1 := opE hv (x := x) (by simp [Op.operands, Call.operands]) hx
    exact ⟨_, by simp [execOp, resolve, invoke, builtin, Builtin.len_, h1, run_underlying ht, goInt], rfl⟩

theorem FrD.fix {n : Nat} {a : Act} {w : World} {A : VA} (h : FrD n ds a w L) (k : Nat) (hk : look L k = some A) : ∃ v, A.p v w ∧ FrD n ds a w ((k, E v) :: L) :=
  ⟨_, h.val k A hk, FrD.cons rfl h⟩

section tail
variable {ops : Array Oper} {rest : List Oper} {Q : Exit → Act → World → Prop} {n : Nat} {a : Act} {w : World} {x y : Operand}
theorem madeCells_one (z : Value) (n : Nat) : madeCells #[z] n = (List.replicate n z).toArray := by
  unfold madeCells
  apply Array.toList_inj.1
  rw [Array.toList_map, Array.toList_range]
  refine List.ext_getElem (by simp) fun i h1 h2 => ?_
  simp [Nat.mod_one]
theorem tl_mk {t te : TypeId} {z : Value} {k : IntKind} {d c bz : Nat} (ht : P.underlying t = some (.slice te)) (hi : (P.info? te).map (fun i => (i.zero, i.size, i.bytes)) = some (some z, 1, bz)) (hz : z.cells = #[z]) (hf : FrD n ds a w L) (hd : d < n)
    (hx : opd L x = some (E (.int k (c : Nat)))) (hc : c ≤ 1048576) (hb : bz ≤ 1048576)
    (h : ∀ a' b w', Ext w w' → b = w.heap.size → w'.heap.size = b + 1 → Blk w' b (List.replicate c z).toArray te → FrD n ds a' w' ((d, E (.slice (some ⟨b, 0, none⟩) c c)) :: L) → wpListIn (FW r) 0 P ops Q rest a' w') :
    wpListIn (FW r) 0 P ops Q (⟨some d, .makeSlice t x x, ty, pos, aft, none⟩ :: rest) a w :=
  wpListIn_plain rfl fun K hK => by
    obtain ⟨it, hit, hiz, hs, hby⟩ := info_parts hi
    have hxv : a.eval x = .int k (c : Nat) := hf.opd x _ hx
    have hprod : (bz : Int) * (c : Nat) ≤ 1048576 * 1048576 := Int.mul_le_mul (by omega) (by omega) (by omega) (by omega)
    have hr := run_make (P := P) w t te it z ht hit hiz k k (c : Nat) (c : Nat) (by omega) (by omega) (by rw [hby]; omega) (by omega)
    rw [hs, Int.toNat_natCast, Nat.mul_one, hz, madeCells_one] at hr
    refine OpR.wp (R := fun v w' => v = .slice (some ⟨w.heap.size, 0, none⟩) c c ∧ w' = w.alloc (.cells (List.replicate c z).toArray te)) ?_ ?_
    · simp only [OpR, execOp, hxv, Sem.run_bind, hr, Result.andThen_ok, Sem.run_pure, and_self]
    · rintro v w' ⟨rfl, rfl⟩
      exact hK _ _ (h _ _ _ (ext_alloc _ _) rfl (by simp) (blk_alloc _ _ _) (hf.put (d := some d) (ext_alloc _ _) (fun k hk => by cases hk; exact hd) rfl))
end tail

/-- slices of numbers, each in a block of its own, none in block bo -/
structure Rows (ety B : Nat) (G : Nat → Prop) (w : World) (bo : Nat) (xss : List (List Int)) (vs : List Value) : Prop where
  len : vs.length = xss.length
  at' : ∀ (p : Nat) (v : Value) (xs : List Int), vs[p]? = some v → xss[p]? = some xs → OwR intE ety B G w xs v ∧ v.ownBlock ≠ some bo
  sep : ∀ (p q : Nat) (u v : Value), p ≠ q → vs[p]? = some u → vs[q]? = some v → u.ownBlock = none ∨ u.ownBlock ≠ v.ownBlock
variable {ety B bo : Nat} {G : Nat → Prop} {w w' : World} {xss : List (List Int)} {vs : List Value}
theorem Rows.ext (h : Rows ety B G w bo xss vs) (k : Ext w w') : Rows ety B G w' bo xss vs :=
  ⟨h.len, fun p v xs h1 h2 => ⟨(h.at' p v xs h1 h2).1.ext k, (h.at' p v xs h1 h2).2⟩, h.sep⟩
theorem Rows.lt (h : Rows ety B G w bo xss vs) {p : Nat} {v : Value} (hv : vs[p]? = some v) {b : Nat} (hb : v.ownBlock = some b) : B ≤ b ∧ b < w.heap.size := by
  have hp := (List.getElem?_eq_some_iff.1 hv).1
  exact (h.at' p v _ hv (List.getElem?_eq_getElem (by rw [← h.len]; exact hp))).1.lt hb
/-- a new block's contents change -/
theorem Rows.gr (h : Rows ety B G w bo xss vs) {b : Nat} (hg : w.grownBy w' (some b)) (hb : ∀ (p : Nat) (v : Value), vs[p]? = some v → v.ownBlock ≠ some b) : Rows ety B G w' bo xss vs :=
  ⟨h.len, fun p v xs h1 h2 => ⟨OwR.gr (h.at' p v xs h1 h2).1 hg (hb p v h1), (h.at' p v xs h1 h2).2⟩, h.sep⟩
theorem Rows.nil {n : Nat} (hB : B ≤ w.heap.size) (hG : ∀ b, G b → b < B) : Rows ety B G w bo (List.replicate n []) (List.replicate n (.slice none 0 0)) := by
  refine ⟨by simp, fun p v xs h1 h2 => ?_, fun p q u v _ h1 _ => ?_⟩
  · rw [List.getElem?_replicate] at h1 h2
    split at h1
    · rename_i hp
      rw [if_pos hp] at h2
      cases h1
      cases h2
      exact ⟨OwR.nil intE _ hB hG, by simp [Value.ownBlock]⟩
    · cases h1
  · rw [List.getElem?_replicate] at h1
    split at h1
    · cases h1
      exact .inl rfl
    · cases h1
/-- one of them has grown -/
theorem Rows.upd (h : Rows ety B G w bo xss vs) {p : Nat} {v v' : Value} {xs' : List Int} (hv : vs[p]? = some v) (hg : w.grownBy w' v.ownBlock) (ho : OwR intE ety B G w' xs' v') (hat : v'.ownBlock = v.ownBlock ∨ ∃ c, v'.ownBlock = some c ∧ w.heap.size ≤ c) (hbo : bo < w.heap.size) :
    Rows ety B G w' bo (xss.set p xs') (vs.set p v') := by
  have hp := (List.getElem?_eq_some_iff.1 hv).1
  have hx : ∃ xs, xss[p]? = some xs := ⟨_, List.getElem?_eq_getElem (by rw [← h.len]; exact hp)⟩
  obtain ⟨xs, hx⟩ := hx
  refine ⟨by simp [h.len], fun q u ys h1 h2 => ?_, fun q s u y hqs h1 h2 => ?_⟩
  · by_cases hpq : p = q
    · subst hpq
      rw [List.getElem?_set_self hp] at h1
      rw [List.getElem?_set_self (by rw [← h.len]; exact hp)] at h2
      cases h1; cases h2
      refine ⟨ho, ?_⟩
      rcases hat with hat | ⟨c, hat, hc⟩
      · rw [hat]; exact (h.at' p v xs hv hx).2
      · rw [hat]; simp; omega
    · rw [List.getElem?_set_ne hpq] at h1 h2
      have := h.at' q u ys h1 h2
      exact ⟨OwR.grF this.1 hg (h.sep q p u v (Ne.symm hpq) h1 hv), this.2⟩
  · by_cases hpq : p = q
    · subst hpq
      rw [List.getElem?_set_self hp] at h1
      rw [List.getElem?_set_ne hqs] at h2
      cases h1
      rcases hat with hat | ⟨c, hat, hc⟩
      · rw [hat]; exact h.sep p s v y hqs hv h2
      · refine .inr fun he => ?_
        rw [hat] at he
        have := h.lt h2 he.symm
        omega
    · rw [List.getElem?_set_ne hpq] at h1
      by_cases hps : p = s
      · subst hps
        rw [List.getElem?_set_self hp] at h2
        cases h2
        rcases hat with hat | ⟨c, hat, hc⟩
        · rw [hat]; exact h.sep q p u v hqs h1 hv
        · refine .inr fun he => ?_
          rw [hat] at he
          have := h.lt h1 he
          omega
      · rw [List.getElem?_set_ne hps] at h2
        exact h.sep q s u y hqs h1 h2
theorem Rows.cells (h : Rows ety B G w bo xss vs) : Cells (slE intE) G w xss vs := by
  have hl := h.len
  have ha := h.at'
  clear h
  induction xss generalizing vs with
  | nil => exact List.eq_nil_of_length_eq_zero hl
  | cons xs xss ih =>
    match vs, hl, ha with
    | v :: vs, hl, ha =>
      refine ⟨[v], vs, rfl, ⟨v, rfl, Dv.sl.1 (ha 0 v xs rfl rfl).1.sl⟩, ih (by simpa using hl) fun p u ys h1 h2 => ha (p + 1) u ys h1 h2⟩
/-- as a datum -/
theorem Rows.dv (h : Rows ety B G w bo xss vs) {bt : TypeId} (hb : Blk w bo vs.toArray bt) (hG : ¬G bo) {cap : Nat} (hc : xss.length ≤ cap) : (Dv (slE (slE intE)) G xss).p (.slice (some ⟨bo, 0, none⟩) xss.length cap) w :=
  Dv.sl.2 (.inr ⟨_, cap, vs, rfl, hc, hG, hb.lt, h.cells, fun i u hu => by
    rw [Addr.add_lit, Nat.zero_add, hb.cell i, List.getElem?_toArray]; exact hu⟩)

/-- append to one of the rows, in a region that draws its order -/
theorem xapp {x y : Operand} {t te : TypeId} {z0 : Value} {sz bz : Nat} {α : Type} {e : Enc α} {xs ys : List α} {v : Value} (ht : P.underlying t = some (.slice te)) (hi : (P.info? te).map (fun i => (i.zero, i.size, i.bytes)) = some (some z0, sz, bz)) (hsz : sz = e.k) (hz0 : z0.cells.size = e.k)
    (hx : opd L x = some (E v)) (ho : OwR e te B G w0 xs v) (hy : opd L y = some (Dv (slE e) (GO G v) ys)) (hb : (xs.length + ys.length) * bz ≤ 140737488355328) (h63 : xs.length + ys.length ≤ maxLen) :
    XOp P w0 v.ownBlock L ⟨dst, .call ⟨.builtin .append, #[x, y], #[t, t]⟩, ty, pos, aft, none⟩
      ⟨fun v' w' => OwR e te B G w' (xs ++ ys) v' ∧ (v'.ownBlock = v.ownBlock ∨ ∃ c, v'.ownBlock = some c ∧ w0.heap.size ≤ c), fun v' w1 w2 k h => ⟨h.1.ext k, h.2⟩⟩ := by
  refine ⟨fun ρ w he hv => ?_⟩
  have hxv : ρ x = v := hv x (by simp [Op.operands, Call.operands]) _ hx
  have hyv := hv y (by simp [Op.operands, Call.operands]) _ hy
  obtain ⟨v', w', h1, h2, h3, h4⟩ := run_appD (P := P) (ty := ty) ht hi hsz hz0 (ho.ext he) hyv h63 hb
  simp only [OpR, execOp, resolve, invoke, builtin, Sem.run_bind, Sem.run_pure, Result.andThen_ok, List.map_toArray, List.map_cons, List.map_nil, hxv, h1]
  exact ⟨h3, h2, h4.imp id fun h => ⟨_, h, he.size⟩⟩
section
variable {ops : Array Oper} {rest : List Oper} {K : Env → Prop} {A : VA} {op : Op} {dd : Nat} {row : Option Nat}
theorem xm {x : Nat} (h : ∀ w1, w0.grownBy w1 row → OpC P w1 L ⟨some dd, op, ty, pos, aft, none⟩ A) [hA : AvR row A] (k : RegX P ops w0 row (some x) rest K ((dd, A) :: L)) : RegX P ops w0 row (some (x + 1)) (⟨some dd, op, ty, pos, aft, none⟩ :: rest) K L :=
  ⟨A, fun w1 h1 a w he hv _ => by simp only [Region.wanted, if_true]; exact (h w1 h1).out _ w he hv, hA, k⟩
theorem xn (h : ∀ w1, w0.grownBy w1 row → OpC P w1 L ⟨some dd, op, ty, pos, aft, none⟩ A) [hA : AvR row A] (k : RegX P ops w0 row none rest K ((dd, A) :: L)) : RegX P ops w0 row none (⟨some dd, op, ty, pos, aft, none⟩ :: rest) K L :=
  ⟨A, fun w1 h1 a w he hv _ => by simp only [Region.wanted, if_true]; exact (h w1 h1).out _ w he hv, hA, k⟩
theorem xx (h : XOp P w0 row L ⟨some dd, op, ty, pos, aft, none⟩ A) (k : RegX P ops w0 row none rest K ((dd, A) :: L)) : RegX P ops w0 row (some 0) (⟨some dd, op, ty, pos, aft, none⟩ :: rest) K L :=
  ⟨rfl, A, h, k⟩
theorem xe {x : Option Nat} (h : K L) : RegX P ops w0 row x [] K L := by
  match x, h with
  | none, h => exact h
  | some 0, h => exact h
  | some (x + 1), h => exact h
end
end Go.Mono
namespace Go.Mono
open Go Go.RowKit
theorem Rows.ne_new {ety B bo : Nat} {G : Nat → Prop} {w : World} {xss : List (List Int)} {vs : List Value} (h : Rows ety B G w bo xss vs) {b : Nat} (hb : b = w.heap.size) : ∀ (p : Nat) (v : Value), vs[p]? = some v → v.ownBlock ≠ some b := fun p v hv hb' => by
  have := (h.lt hv hb').2
  omega
end Go.Mono
namespace Go.Mono
open Go Go.RowKit
theorem Rows.ne_bo {ety B bo : Nat} {G : Nat → Prop} {w : World} {xss : List (List Int)} {vs : List Value} (h : Rows ety B G w bo xss vs) : ∀ (p : Nat) (v : Value), vs[p]? = some v → v.ownBlock ≠ some bo := fun p v hv => by
  have hp := (List.getElem?_eq_some_iff.1 hv).1
  exact (h.at' p v _ hv (List.getElem?_eq_getElem (by rw [← h.len]; exact hp))).2
theorem OwR.one {α : Type} {e : Enc α} {ty : TypeId} {B : Nat} {G : Nat → Prop} {w : World} {xs : List α} {v : Value} (h : OwR e ty B G w xs v) : v.oneCell' = true := by
  rcases Dv.sl.1 h.sl with ⟨rfl, _⟩ | ⟨ad, cap, cs, rfl, _⟩ <;> rfl
theorem set_arr (vs : List Value) (p : Nat) (v : Value) : vs.toArray.setIfInBounds (0 + (p : Int).toNat * 1) v = (vs.set p v).toArray := by simp
theorem get_arr {vs : List Value} {p : Nat} {v : Value} (h : vs[p]? = some v) : vs.toArray[0 + (p : Int).toNat * 1]? = some v := by simpa using h
end Go.Mono

set_option linter.unusedVariables false
namespace Go.Mono
open Go Go.Proofs Go.RowKit

/-- the bags below bag p, of the first k -/
def kidT (t : List (Int × BS)) (k : Nat) (p : Nat) : List Int := selN (fun i => decide ((bg t i).1 = (p : Int))) k
def belowTo (t : List (Int × BS)) (k : Nat) : List (List Int) := (List.range t.length).map (kidT t k)
def belowT (t : List (Int × BS)) : List (List Int) := belowTo t t.length
theorem belowTo_len (t : List (Int × BS)) (k : Nat) : (belowTo t k).length = t.length := by simp [belowTo]
theorem belowTo_get {t : List (Int × BS)} {k p : Nat} (h : p < t.length) : (belowTo t k)[p]? = some (kidT t k p) := by simp [belowTo, h]
theorem belowTo_zero (t : List (Int × BS)) : belowTo t 0 = List.replicate t.length [] := by
  refine List.ext_getElem (by simp [belowTo]) fun i h1 h2 => ?_
  simp [belowTo, kidT, selN]
theorem belowTo_none {t : List (Int × BS)} {k : Nat} (h : (bg t k).1 = -1) : belowTo t (k + 1) = belowTo t k := by
  unfold belowTo
  refine List.map_congr_left fun p _ => ?_
  rw [kidT, selN_succ, if_neg (by rw [h]; simp)]
  rfl
theorem belowTo_succ {t : List (Int × BS)} {k p : Nat} (h : (bg t k).1 = (p : Int)) (hp : p < t.length) : belowTo t (k + 1) = (belowTo t k).set p (kidT t k p ++ [(k : Int)]) := by
  refine List.ext_getElem (by simp [belowTo]) fun i h1 h2 => ?_
  rw [List.getElem_set]
  by_cases hi : p = i
  · subst hi
    simp [belowTo, kidT, selN_succ, h]
  · have : ¬ (p : Int) = (i : Int) := by omega
    simp [belowTo, kidT, selN_succ, h, this, hi]

/-- each bag's number above is -1 or a bag's -/
def Rng (t : List (Int × BS)) : Prop := ∀ i, i < t.length → -1 ≤ (bg t i).1 ∧ (bg t i).1 < t.length

theorem below_spec {G : Nat → Prop} (t : List (Int × BS)) (v : Value) (W : World) (h : (Dv treeE G t).p v W) (hG : ∀ b, G b → b < W.heap.size) (hl : t.length ≤ 4096) (hr : Rng t) :
    Calls Tryd.prog 141 #[v] W (Post (Dv (slE (slE intE)) G (belowT t)) W) := by
  refine enter (args := [v]) (As := [Dv treeE (GB W G) t]) Tryd.func141 rfl Tryd.ntmps141 (Nat.le_of_ble_eq_true rfl) ?_ (fun a hf => ?_) (Nat.le_of_ble_eq_true rfl)
  rotate_left
  dsimp only [params, Nat.reduceAdd] at hf
  rotate_right
  · exact arg1 (Dv.toB h)
  have e := Ext.rfl' W
  repeat refine seq ?_
  refine regn0 ?_
  refine tl_as hf rfl (by decide) fun a hf => ?_
  refine tl_nil ?_
  repeat refine seq ?_
  refine regn 2 hf (by decide +kernel) ?_
  refine st (mv rfl) ?_
  refine st (lenD Tryd.underlying23 (isR rfl)) ?_
  refine en fun a w e' hf => ?_
  replace e := Ext.tr e e'
  clear e'
  refine tl_mk Tryd.underlying112 I43 rfl hf (by decide) rfl (by omega) (by decide) fun a b8 w e' hb8 hs8 B8 hf => ?_
  have hle8 := Nat.le_trans e.size (Nat.le_of_eq hb8.symm)
  replace e := Ext.tr e e'
  clear e'
  refine tl_as hf rfl (by decide) fun a hf => ?_
  refine tl_nil ?_
  have HR : Rows 3 W.heap.size G w b8 (belowTo t 0) (List.replicate t.length (.slice none 0 0)) := by rw [belowTo_zero]; exact Rows.nil e.size hG
  have hlen : (List.replicate t.length (Value.slice none 0 0)).length = t.length := by simp
  repeat refine seq ?_
  refine regn 3 hf (by decide +kernel) ?_
  refine st (mv rfl) ?_
  refine st (lenD Tryd.underlying23 (isR rfl)) ?_
  refine st (mv rfl) ?_
  refine en fun a w e' hf => ?_
  replace e := Ext.tr e e'
  replace B8 := B8.ext e'
  replace HR := HR.ext e'
  clear e'
  refine tl_nil ?_
  replace hf := hf.keep [3, 9, 10, 11]
  dsimp only [keep, List.filterMap, look, Nat.beq, Option.map] at hf
  repeat refine seq ?_
  refine blk (loopN (fun r0 a w => ∃ (k : Nat) (vs : List Value), r0 = t.length - k ∧ k ≤ t.length ∧ Fr 33 a w [(3, E (.slice (some ⟨b8, 0, none⟩) t.length t.length)), (9, Dv treeE (GB W G) t), (10, E (I (t.length : Nat))), (11, E (I k))] ∧ Ext W w ∧ Blk w b8 vs.toArray 43 ∧ vs.length = t.length ∧ Rows 3 W.heap.size G w b8 (belowTo t k) vs) t.length ⟨0, _, rfl, by omega, hf, e, B8, hlen, HR⟩ ?_)
  clear hf e; try clear B8; try clear hlen; try clear HR
  rintro r0 a w ⟨k, vs, rfl, hk, hf, e, B8, hlen, HR⟩
  repeat refine seq ?_
  refine regn 1 hf (by decide +kernel) ?_
  refine st (lss rfl rfl) ?_
  refine en fun a w e' hf => ?_
  replace e := Ext.tr e e'
  replace B8 := B8.ext e'
  replace HR := HR.ext e'
  clear e'
  refine tl_nil ?_
  repeat refine seq ?_
  refine ifc hf rfl (fun hc => wskip ?_) (fun hc => wexit ?_)
  rotate_left
  rotate_left
  · have hlt : k < t.length := by have := of_decide_eq_true hc; (try dsimp only at this); omega
    clear hc
    replace hf := hf.keep [3, 9, 10, 11]
    dsimp only [keep, List.filterMap, look, Nat.beq, Option.map] at hf
    repeat refine seq ?_
    refine blk ?_
    have hx := bg_get hlt
    have hrk := hr k hlt
    repeat refine seq ?_
    refine regn0 ?_
    refine tl_op hf (by decide) (mv rfl) fun a w e' hf => ?_
    replace e := Ext.tr e e'
    replace B8 := B8.ext e'
    replace HR := HR.ext e'
    clear e'
    refine tl_op hf (by decide) (idxD Tryd.underlying23 S86 (isR rfl) rfl (by omega) (hx)) fun a w e' hf => ?_
    replace e := Ext.tr e e'
    replace B8 := B8.ext e'
    replace HR := HR.ext e'
    clear e'
    refine tl_op hf (by decide) (ldBag T86 (isR rfl)) fun a w e' hf => ?_
    replace e := Ext.tr e e'
    replace B8 := B8.ext e'
    replace HR := HR.ext e'
    clear e'
    refine tl_alloc I86 hf (by decide) fun a b5 w e' hb5 hs5 B5 hf => ?_
    have hle5 := Nat.le_trans e.size (Nat.le_of_eq hb5.symm)
    have ne5_HR := HR.ne_new hb5
    have lt5_B8 := B8.lt
    replace e := Ext.tr e e'
    replace B8 := B8.ext e'
    replace HR := HR.ext e'
    clear e'
    refine tl_as hf rfl (by decide) fun a hf => ?_
    haveI hinr : ∀ G0, InR (GB W G0) (some b5) := fun G0 => InR.gb (by omega)
    refine tl_stW T86 hf rfl rfl (bagC_one _) B5 rfl (bagC_size _) fun w hg hsz B5 hf => ?_
    replace e := e.gr hg (by omega)
    replace B8 := B8.gr hg (by omega)
    replace HR := HR.gr hg (by assumption)
    clear hg
    refine tl_nil ?_
    repeat refine seq ?_
    refine regn 3 hf (by decide +kernel) ?_
    refine st (fldA Tryd.underlying86 rfl T3 (by decide) rfl) ?_
    refine st (ld1 T3 rfl B5 (bagC_0 _)) ?_
    refine st (neq rfl rfl) ?_
    refine en fun a w e' hf => ?_
    replace e := Ext.tr e e'
    replace B8 := B8.ext e'
    replace HR := HR.ext e'
    replace B5 := B5.ext e'
    clear e'
    refine tl_nil ?_
    repeat refine seq ?_
    refine ifc hf rfl (fun hb => ?_) (fun hb => ?_)
    · have hne : (bg t k).1 ≠ -1 := by simpa using hb
      obtain ⟨p, hp⟩ : ∃ p : Nat, (bg t k).1 = (p : Int) := ⟨(bg t k).1.toNat, by omega⟩
      have hpl : p < t.length := by omega
      have hvp : vs[p]? = some (vs[p]'(by omega)) := by simp
      obtain ⟨u, hu⟩ : ∃ u, u = vs[p]'(by omega) := ⟨_, rfl⟩
      rw [← hu] at hvp
      obtain ⟨Ho, hob⟩ := HR.at' p u _ hvp (belowTo_get hpl)
      have n5 : u.ownBlock ≠ some b5 := ne5_HR p u hvp
      have hsel := selN_len (fun i => decide ((bg t i).1 = (p : Int))) k
      haveI hin : ∀ G0, InR (GB W G0) u.ownBlock := OwR.inGB Ho (Nat.le_refl _)
      replace hf := hf.keep [3, 4, 5, 9, 10, 11]
      dsimp only [keep, List.filterMap, look, Nat.beq, Option.map] at hf
      have h8 := B8.lt
      repeat refine seq ?_
      refine regX 12 10 u.ownBlock (by decide) Mix.mix hf (by decide +kernel) ?_
      refine xm (fun w1 h1 => mv rfl) ?_
      refine xm (fun w1 h1 => fldA Tryd.underlying86 rfl T3 (by decide) rfl) ?_
      refine xm (fun w1 h1 => (ld1 T3 rfl (B5.gro h1 n5) (bagC_0 _)).eq (congrArg (Value.int .i64) hp)) ?_
      refine xm (fun w1 h1 => mv rfl) ?_
      refine xm (fun w1 h1 => fldA Tryd.underlying86 rfl T3 (by decide) rfl) ?_
      refine xm (fun w1 h1 => (ld1 T3 rfl (B5.gro h1 n5) (bagC_0 _)).eq (congrArg (Value.int .i64) hp)) ?_
      refine xm (fun w1 h1 => idxS Tryd.underlying112 S43 rfl rfl (by omega)) ?_
      refine xm (fun w1 h1 => ld1 T43 rfl (B8.gro h1 hob) (get_arr hvp)) ?_
      refine xm (fun w1 h1 => mv rfl) ?_
      refine xm (fun w1 h1 => bsl1 Tryd.underlying43 I3 rfl (by decide) rfl (fun b hb => Nat.lt_of_lt_of_le (Ho.avs b hb) h1.size) (isI rfl)) ?_
      refine xx (xapp Tryd.underlying43 I3 rfl rfl rfl Ho rfl (by simp only [List.length_singleton, kidT]; omega) (by simp only [List.length_singleton, kidT, maxLen]; omega)) ?_
      refine xn (fun w1 h1 => idxS Tryd.underlying112 S43 rfl rfl (by omega)) ?_
      refine xe fun a w hg hf => ?_
      obtain ⟨v', ⟨Hn, hat⟩, hf⟩ := hf.fix 29 rfl
      replace e := e.gro hg (Ho.row (Nat.le_refl _))
      replace HR := HR.upd hvp hg Hn hat h8
      replace B8 := B8.gro hg hob
      have hone := Hn.one
      have hbo := HR.ne_bo
      clear Ho Hn hg hat B5
      rw [← belowTo_succ hp hpl] at HR
      replace hf := hf.keep [3, 9, 10, 11, 29, 30]
      dsimp only [keep, List.filterMap, look, Nat.beq, Option.map] at hf
      haveI hinr : ∀ G0, InR (GB W G0) (some b8) := fun G0 => InR.gb (by omega)
      refine tl_st1 T43 hf rfl rfl hone B8 (by simp; omega) fun w hg hsz B8 hf => ?_
      replace e := e.gr hg (by omega)
      replace HR := HR.gr hg hbo
      rw [set_arr] at B8
      refine tl_nil ?_
      try simp only [Exit.then, Exit.inBlock, ↓reduceIte]
      repeat refine seq ?_
      refine regn 1 hf (by decide +kernel) ?_
      refine st ((add rfl rfl (by omega)).eq (congrArg (Value.int .i64) (show (k : Int) + 1 = ((k + 1 : Nat) : Int) from rfl))) ?_
      refine en fun a w e' hf => ?_
      replace e := Ext.tr e e'
      replace B8 := B8.ext e'
      replace HR := HR.ext e'
      clear e'
      refine tl_op hf (by decide) (mv rfl) fun a w e' hf => ?_
      replace e := Ext.tr e e'
      replace B8 := B8.ext e'
      replace HR := HR.ext e'
      clear e'
      refine tl_nil ?_
      replace hf := hf.keep [3, 9, 10, 11]
      dsimp only [keep, List.filterMap, look, Nat.beq, Option.map] at hf
      refine ⟨_, ?_, k + 1, vs.set p v', rfl, by omega, hf, e, ?_⟩
      · omega
      exact ⟨B8, by simpa using hlen, HR⟩
    · have hne : (bg t k).1 = -1 := by simpa using hb
      refine wskip ?_
      try simp only [Exit.then, Exit.inBlock, ↓reduceIte]
      try simp only [Exit.then, Exit.inBlock, ↓reduceIte]
      repeat refine seq ?_
      refine regn 1 hf (by decide +kernel) ?_
      refine st ((add rfl rfl (by omega)).eq (congrArg (Value.int .i64) (show (k : Int) + 1 = ((k + 1 : Nat) : Int) from rfl))) ?_
      refine en fun a w e' hf => ?_
      replace e := Ext.tr e e'
      replace B5 := B5.ext e'
      replace B8 := B8.ext e'
      replace HR := HR.ext e'
      clear e'
      refine tl_op hf (by decide) (mv rfl) fun a w e' hf => ?_
      replace e := Ext.tr e e'
      replace B5 := B5.ext e'
      replace B8 := B8.ext e'
      replace HR := HR.ext e'
      clear e'
      refine tl_nil ?_
      replace hf := hf.keep [3, 9, 10, 11]
      dsimp only [keep, List.filterMap, look, Nat.beq, Option.map] at hf
      refine ⟨_, ?_, k + 1, vs, rfl, by omega, hf, e, ?_⟩
      · omega
      exact ⟨B8, hlen, by rw [belowTo_none hne]; exact HR⟩
  · obtain rfl : k = t.length := by have := of_decide_eq_false hc; (try dsimp only at this); omega
    clear hc
    simp only [Exit.then, Exit.inBlock, ↓reduceIte]
    repeat refine seq ?_
    refine regn 1 hf (by decide +kernel) ?_
    refine st (mv rfl) ?_
    refine en fun a w e' hf => ?_
    replace e := Ext.tr e e'
    replace B8 := B8.ext e'
    replace HR := HR.ext e'
    clear e'
    refine tl_as hf rfl (by decide) fun a hf => ?_
    refine tl_nil ?_
    have hd := HR.dv B8 (fun hg => by have := hG _ hg; omega) (Nat.le_of_eq (belowTo_len t _))
    rw [belowTo_len] at hd
    refine wret ?_
    try simp only [Exit.then, Exit.inBlock]
    refine ret1 rfl hf rfl ?_
    rintro _ rfl
    exact ⟨_, rfl, e, hd⟩
end Go.Mono

set_option linter.unusedVariables false
set_option linter.unusedSimpArgs false
namespace Go.Mono
open Go Go.RowKit

/-- the world has grown; of the old blocks only those of S may have changed -/
structure Chg (S : Nat → Prop) (w w' : World) : Prop where
  os : w'.os = w.os
  tape : w'.tape = w.tape
  output : w'.output = w.output
  size : w.heap.size ≤ w'.heap.size
  block : ∀ k, k < w.heap.size → ¬S k → w'.heap[k]? = w.heap[k]?
section
variable {S S' : Nat → Prop} {w w' w'' W : World}
theorem Chg.rfl' (S : Nat → Prop) (w : World) : Chg S w w := ⟨rfl, rfl, rfl, Nat.le_refl _, fun _ _ _ => rfl⟩
theorem Chg.tr (h : Chg S w w') (k : Chg S w' w'') : Chg S w w'' :=
  ⟨k.os.trans h.os, k.tape.trans h.tape, k.output.trans h.output, Nat.le_trans h.size k.size, fun b hb hS => (k.block b (Nat.lt_of_lt_of_le hb h.size) hS).trans (h.block b hb hS)⟩
theorem Chg.ext (h : Chg S w w') (k : Ext w' w'') : Chg S w w'' :=
  ⟨k.os.trans h.os, k.tape.trans h.tape, k.output.trans h.output, Nat.le_trans h.size k.size, fun b hb hS => (k.block b (Nat.lt_of_lt_of_le hb h.size)).trans (h.block b hb hS)⟩
theorem Ext.chg (h : Ext w w') (S : Nat → Prop) : Chg S w w' := ⟨h.os, h.tape, h.output, h.size, fun b hb _ => h.block b hb⟩
theorem Chg.gr (h : Chg S w w') {b : Nat} (k : w'.grownBy w'' (some b)) (hb : S b ∨ w.heap.size ≤ b) : Chg S w w'' :=
  ⟨k.os.trans h.os, k.tape.trans h.tape, k.output.trans h.output, Nat.le_trans h.size k.size, fun c hc hS => (k.block c (Nat.lt_of_lt_of_le hc h.size) (fun he => by
    cases he
    rcases hb with hb | hb
    · exact hS hb
    · omega)).trans (h.block c hc hS)⟩
theorem Chg.to (h : Chg S w w') (hS : ∀ b, b < w.heap.size → S b → S' b) : Chg S' w w' := ⟨h.os, h.tape, h.output, h.size, fun b hb hn => h.block b hb (fun hs => hn (hS b hb hs))⟩
/-- what changes lies behind the base -/
theorem Ext.ch (e : Ext W w) (h : Chg S w w') (hS : ∀ b, S b → W.heap.size ≤ b) : Ext W w' :=
  ⟨h.os.trans e.os, h.tape.trans e.tape, h.output.trans e.output, Nat.le_trans e.size h.size, fun b hb => (h.block b (Nat.lt_of_lt_of_le hb e.size) (fun hs => by have := hS b hs; omega)).trans (e.block b hb)⟩
theorem Blk.ch {b : Nat} {cs : Array Value} {t : TypeId} (h : Blk w b cs t) (k : Chg S w w') (hS : ¬S b) : Blk w' b cs t := (k.block b h.lt hS).trans h
class InS (G S : Nat → Prop) : Prop where
  in' : ∀ b, S b → G b
theorem Dv.ch {α : Type} {e : Enc α} {G : Nat → Prop} {x : α} {v : Value} (h : (Dv e G x).p v w) (k : Chg S w w') (hG : ∀ b, S b → G b) : (Dv e G x).p v w' := by
  obtain ⟨cs, h1, h2⟩ := h
  exact ⟨cs, e.pres h1 (fun b hb hn => k.block b hb (fun hs => hn (hG b hs))) k.size, h2⟩
class AvS (S : Nat → Prop) (A : VA) : Prop where
  av : ∀ v w w', Chg S w w' → A.p v w → A.p v w'
class AvSL (S : Nat → Prop) (L : Env) : Prop where
  av : ∀ t A, look L t = some A → ∀ v w w', Chg S w w' → A.p v w → A.p v w'
instance (S : Nat → Prop) (v : Value) : AvS S (E v) := ⟨fun _ _ _ _ h => h⟩
instance (S : Nat → Prop) : AvS S Any := ⟨fun _ _ _ _ h => h⟩
instance (S : Nat → Prop) {α : Type} (e : Enc α) (G : Nat → Prop) (x : α) [h : InS G S] : AvS S (Dv e G x) := ⟨fun v w w' k h1 => Dv.ch h1 k h.in'⟩
instance (S : Nat → Prop) : AvSL S [] := ⟨fun t A h => by simp [look] at h⟩
instance (S : Nat → Prop) (k : Nat) (A : VA) (L : Env) [h : AvS S A] [hl : AvSL S L] : AvSL S ((k, A) :: L) := ⟨fun t B ht => by
  by_cases hkt : k = t
  · subst hkt; rw [look_cons_same] at ht; cases ht; exact h.av
  · rw [look_cons_ne _ _ hkt] at ht; exact hl.av t B ht⟩
theorem FrD.ch {n : Nat} {ds : List Deferred} {a : Act} {L : Env} [h : AvSL S L] (hf : FrD n ds a w L) (k : Chg S w w') : FrD n ds a w' L :=
  ⟨hf.size, hf.defers, fun t A ht => h.av t A ht _ _ _ k (hf.val t A ht)⟩
end

section tail
variable {P : Program} {L : Env} {ty : TypeId} {pos : String} {aft : Array Edge} {r : Option Nat} {ds : List Deferred}
variable {ops : Array Oper} {rest : List Oper} {Q : Exit → Act → World → Prop} {n : Nat} {a : Act} {w : World} {x y : Operand}
/-- a call that changes blocks of S; F: what is known behind it -/
theorem tl_callV {S : Nat → Prop} {F : World → Prop} {fo : Operand} {id : FuncId} {caps : Array Value} {xs : Array Operand} {tys : Array TypeId} {A : VA} {d : Nat} (hf : FrD n ds a w L) [hL : AvSL S L] (hd : d < n) (he : Proofs.Enters P id) (hfo : opd L fo = some (E (.func (.func id) #[] caps)))
    (h : Calls P id (xs.map a.eval ++ caps) w (fun e w' => ∃ v, e = .returned v ∧ Chg S w w' ∧ A.p v w' ∧ F w'))
    (k : ∀ a' w', Chg S w w' → F w' → FrD n ds a' w' ((d, A) :: L) → wpListIn (FW r) 0 P ops Q rest a' w') :
    wpListIn (FW r) 0 P ops Q (⟨some d, .call ⟨.value fo, xs, tys⟩, ty, pos, aft, none⟩ :: rest) a w :=
  wpListIn_plain rfl fun K hK => by
    have hfv : a.eval fo = .func (.func id) #[] caps := hf.opd fo _ hfo
    have hrun : (execOp a.eval ⟨some d, .call ⟨.value fo, xs, tys⟩, ty, pos, aft, none⟩).run P w = .ok (.enter id (xs.map a.eval ++ caps)) w := by
      simp [execOp, resolve, hfv, Deferred.ofValue, invoke, he (xs.map a.eval ++ caps) w]
    refine OpR.wp (R := fun v w' => Chg S w w' ∧ A.p v w' ∧ F w') ?_ ?_
    · simp only [OpR, hrun]
      exact h
    · rintro v w' ⟨h1, h2, h3⟩
      exact hK _ _ (k _ _ h1 h3 ((hf.ch h1).put (d := some d) (Ext.rfl' _) (fun k hk => by cases hk; exact hd) h2))
theorem tl_callF {S : Nat → Prop} {F : World → Prop} {id : FuncId} {xs : Array Operand} {tys : Array TypeId} {A : VA} {d : Nat} (hf : FrD n ds a w L) [hL : AvSL S L] (hd : d < n) (he : Proofs.Enters P id)
    (h : Calls P id (xs.map a.eval) w (fun e w' => ∃ v, e = .returned v ∧ Chg S w w' ∧ A.p v w' ∧ F w'))
    (k : ∀ a' w', Chg S w w' → F w' → FrD n ds a' w' ((d, A) :: L) → wpListIn (FW r) 0 P ops Q rest a' w') :
    wpListIn (FW r) 0 P ops Q (⟨some d, .call ⟨.value (.func id), xs, tys⟩, ty, pos, aft, none⟩ :: rest) a w := by
  refine tl_callV (S := S) (F := F) (A := A) (caps := #[]) hf hd he rfl (by simpa using h) k
end tail
/-- numbers in cells -/
def intsC (l : List Int) : Array Value := (l.map (Value.int .i64)).toArray
theorem intsC_set (l : List Int) (p : Nat) (x : Int) : (intsC l).setIfInBounds p (.int .i64 x) = intsC (l.set p x) := by
  apply Array.toList_inj.1
  simp [intsC, List.map_set]
theorem intsC_size (l : List Int) : (intsC l).size = l.length := by simp [intsC]
end Go.Mono
namespace Go.Mono
open Go Go.RowKit
theorem Dv.gr {α : Type} {e : Enc α} {G : Nat → Prop} {x : α} {v : Value} {w w' : World} {b : Nat} (h : (Dv e G x).p v w) (hg : w.grownBy w' (some b)) (hb : G b) : (Dv e G x).p v w' := by
  obtain ⟨cs, h1, h2⟩ := h
  exact ⟨cs, Enc.gro h1 hg (fun c hc => by cases hc; exact hb), h2⟩
theorem Dv.ex {α : Type} {e : Enc α} {G : Nat → Prop} {x : α} {v : Value} {w w' : World} (h : (Dv e G x).p v w) (k : Ext w w') : (Dv e G x).p v w' := (Dv e G x).st _ _ _ k h
section
variable {P : Program} {w0 : World} {L : Env} {dst : Option Tmp} {ty : TypeId} {pos : String} {aft : Array Edge} {g : Option (Nat × Bool)}
theorem makeF1 {fn : Fn} {x1 : Operand} {v1 : Value} (h1 : opd L x1 = some (E v1)) : OpC P w0 L ⟨dst, .makeFunc fn #[] #[x1], ty, pos, aft, g⟩ (E (.func fn #[] #[v1])) :=
  opc_pure fun ρ w _ hv => ⟨_, by
    have a1 := opE hv (x := x1) (by simp [Op.operands]) h1
    simp [execOp, Instr.makeFunc, a1], rfl⟩
theorem makeF2 {fn : Fn} {x1 x2 : Operand} {v1 v2 : Value} (h1 : opd L x1 = some (E v1)) (h2 : opd L x2 = some (E v2)) : OpC P w0 L ⟨dst, .makeFunc fn #[] #[x1, x2], ty, pos, aft, g⟩ (E (.func fn #[] #[v1, v2])) :=
  opc_pure fun ρ w _ hv => ⟨_, by
    have a1 := opE hv (x := x1) (by simp [Op.operands]) h1
    have a2 := opE hv (x := x2) (by simp [Op.operands]) h2
    simp [execOp, Instr.makeFunc, a1, a2], rfl⟩
theorem makeF4 {fn : Fn} {x1 x2 x3 x4 : Operand} {v1 v2 v3 v4 : Value} (h1 : opd L x1 = some (E v1)) (h2 : opd L x2 = some (E v2)) (h3 : opd L x3 = some (E v3)) (h4 : opd L x4 = some (E v4)) : OpC P w0 L ⟨dst, .makeFunc fn #[] #[x1, x2, x3, x4], ty, pos, aft, g⟩ (E (.func fn #[] #[v1, v2, v3, v4])) :=
  opc_pure fun ρ w _ hv => ⟨_, by
    have a1 := opE hv (x := x1) (by simp [Op.operands]) h1
    have a2 := opE hv (x := x2) (by simp [Op.operands]) h2
    have a3 := opE hv (x := x3) (by simp [Op.operands]) h3
    have a4 := opE hv (x := x4) (by simp [Op.operands]) h4
    simp [execOp, Instr.makeFunc, a1, a2, a3, a4], rfl⟩
end
end Go.Mono
namespace Go.Mono
theorem Dv.slOne {α : Type} {e : Enc α} {G : Nat → Prop} {xs : List α} {v : Go.Value} {w : Go.World} (h : (Dv (slE e) G xs).p v w) : v.oneCell' = true := by
  rcases Dv.sl.1 h with ⟨rfl, _⟩ | ⟨ad, cap, cs, rfl, _⟩ <;> rfl
end Go.Mono
namespace Go.Mono
open Go Go.RowKit
/-- data of their own cells alone -/
class FlE {α : Type} (e : Enc α) : Prop where
  fl : ∀ {G G' w w' x cs}, e.r G w x cs → e.r G' w' x cs
instance {α : Type} (k : Nat) (agg : Bool) (f : α → List Value) (p1 p2 p3 p4) : FlE (flat k agg f p1 p2 p3 p4) := ⟨fun h => h⟩
instance : FlE intE := ⟨fun h => h⟩
instance : FlE boolE := ⟨fun h => h⟩
instance : FlE setE := ⟨fun h => h⟩
instance {α β : Type} (e : Enc α) (f : Enc β) [he : FlE e] [hf : FlE f] : FlE (prE e f) := ⟨fun ⟨c, d, h, h1, h2⟩ => ⟨c, d, h, he.fl h1, hf.fl h2⟩⟩
theorem Cells.fl {α : Type} {e : Enc α} [he : FlE e] {G G' : Nat → Prop} {w w' : World} : ∀ {xs : List α} {cs : List Value}, Cells e G w xs cs → Cells e G' w' xs cs
  | [], cs, h => h
  | x :: xs, cs, ⟨c, d, h, h1, h2⟩ => ⟨c, d, h, he.fl h1, Cells.fl h2⟩
theorem OwR.reG {α : Type} {e : Enc α} [he : FlE e] {ty : TypeId} {B : Nat} {G G' : Nat → Prop} {w : World} {xs : List α} {v : Value} (h : OwR e ty B G w xs v) (hG : ∀ b, G' b → b < B) : OwR e ty B G' w xs v := by
  obtain ⟨cs, h1, h2⟩ := h.own
  exact ⟨⟨cs, h1, Cells.fl h2⟩, hG, h.base⟩
theorem OwR.grE {α : Type} {e : Enc α} [he : FlE e] {ty : TypeId} {B : Nat} {G : Nat → Prop} {w w' : World} {xs : List α} {v : Value} {b : Nat} (h : OwR e ty B G w xs v) (hg : w.grownBy w' (some b)) (hne : v.ownBlock ≠ some b) : OwR e ty B G w' xs v := by
  obtain ⟨cs, h1, h2⟩ := h.own
  exact ⟨⟨cs, h1.kept hg (.inr hne), Cells.fl h2⟩, h.av, Nat.le_trans h.base hg.size⟩
section
variable {P : Program} {w0 : World} {L : Env} {dst : Option Tmp} {ty : TypeId} {pos : String} {aft : Array Edge} {g : Option (Nat × Bool)}
/-- s == nil -/
theorem eqlNil {x : Operand} {t yt te : TypeId} {ao : Option Addr} {n c : Nat} (ht : P.underlying t = some (.slice te)) (hx : opd L x = some (E (.slice ao n c))) :
    OpC P w0 L ⟨dst, .binOp .eql t x (.const (.slice none 0 0)) yt, ty, pos, aft, g⟩ (E (.bool ao.isNone)) :=
  opc_eql hx rfl (fun _ => rfl) rfl fun w _ => run_equal_slice_nil w t te ao n c ht
end
end Go.Mono
