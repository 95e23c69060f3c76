/-
  BalanceBitLen, walked: it answers true.
  No condition.
-/
import Derived.Test.YtnhbkdliljcedaaDoorWF
set_option linter.unusedVariables false
set_option linter.unusedSimpArgs false
set_option linter.unusedVariables false
set_option linter.unusedSimpArgs false
namespace Go.Mono
open Go Go.Proofs Go.RowKit

theorem cut_spec {G : Nat → Prop} (t : List (Int × BS)) (v : Value) (W : World) (h : (Dv treeE G t).p v W) : Calls Tryd.prog 55 #[v] W (Post (Dv treeE G (t.take 40)) W) := by
  refine enter (args := [v]) (As := [Dv treeE G t]) Tryd.func55 rfl Tryd.ntmps55 (Nat.le_of_ble_eq_true rfl) ?_ (fun a hf => ?_) (Nat.le_of_ble_eq_true rfl)
  rotate_left
  dsimp only [params, Nat.reduceAdd] at hf
  rotate_right
  · exact arg1 h
  have e := Ext.rfl' W
  have hm : min ((t.length : Nat) : Int) 40 = ((min t.length 40 : Nat) : Int) := by omega
  have ht : t.take (min t.length 40) = t.take 40 := by
    rcases Nat.le_total t.length 40 with h | h
    · rw [Nat.min_eq_left h, List.take_length, List.take_of_length_le h]
    · rw [Nat.min_eq_right h]
  repeat refine seq ?_
  refine regn0 ?_
  refine tl_as hf rfl (by decide) fun a hf => ?_
  refine tl_nil ?_
  repeat refine seq ?_
  refine regn 5 hf (by decide +kernel) ?_
  refine st (mv rfl) ?_
  refine st (mv rfl) ?_
  refine st (lenD Tryd.underlying23 (isR rfl)) ?_
  refine st ((min2 rfl rfl).eq (congrArg (Value.int .i64) hm)) ?_
  refine st ((slcD (i := min t.length 40) Tryd.underlying23 S86 (isR rfl) rfl (Nat.min_le_left _ _)).dv (ht)) ?_
  refine en fun a w e' hf => ?_
  replace e := Ext.tr e e'
  clear e'
  refine tl_as hf rfl (by decide) fun a hf => ?_
  refine tl_nil ?_
  refine wret ?_
  try simp only [Exit.then, Exit.inBlock]
  refine ret1 rfl hf rfl ?_
  intro v hv
  exact ⟨_, rfl, e, hv⟩

theorem dg_le : ∀ (k n : Nat), n < 2 ^ k → dg n ≤ k
  | 0, n, h => by
    obtain rfl : n = 0 := by simp at h; omega
    rw [dg_zero]; omega
  | k + 1, n, h => by
    by_cases h0 : n = 0
    · subst h0; rw [dg_zero]; omega
    · rw [dg_step h0]
      rw [Nat.pow_succ] at h
      have := dg_le k (n / 2) (by omega)
      omega

theorem bits_spec (n : Int) (W : World) (hn : n < 9223372036854775808) (h64 : -9223372036854775808 ≤ n) : Calls Tryd.prog 62 #[I n] W (Post (E (I (dg n.toNat : Nat))) W) := by
  refine enter (args := [I n]) (As := [E (I n)]) Tryd.func62 rfl Tryd.ntmps62 (Nat.le_of_ble_eq_true rfl) ?_ (fun a hf => ?_) (Nat.le_of_ble_eq_true rfl)
  rotate_left
  dsimp only [params, Nat.reduceAdd] at hf
  rotate_right
  · exact arg1 rfl
  have e := Ext.rfl' W
  have hd := dg_le 63 n.toNat (by omega)
  repeat refine seq ?_
  refine regn0 ?_
  refine tl_as hf rfl (by decide) fun a hf => ?_
  refine tl_nil ?_
  repeat refine seq ?_
  refine regn0 ?_
  refine tl_as hf rfl (by decide) fun a hf => ?_
  refine tl_nil ?_
  replace hf := hf.keep [0, 3]
  dsimp only [keep, List.filterMap, look, Nat.beq, Option.map] at hf
  repeat refine seq ?_
  refine blk (loopN (fun r0 a w => ∃ (m : Int) (k : Nat), r0 = m.toNat ∧ k + dg m.toNat = dg n.toNat ∧ m ≤ n ∧ -9223372036854775808 ≤ m ∧ Fr 11 a w [(0, E (I m)), (3, E (I (k : Nat)))] ∧ Ext W w) n.toNat ⟨n, 0, rfl, by omega, by omega, h64, hf, e⟩ ?_)
  clear hf e
  rintro r0 a w ⟨m, k, rfl, hk, hmn, hm64, hf, e⟩
  repeat refine seq ?_
  refine regn 2 hf (by decide +kernel) ?_
  refine st (mv rfl) ?_
  refine st (gtr rfl rfl) ?_
  refine en fun a w e' hf => ?_
  replace e := Ext.tr e e'
  clear e'
  refine tl_nil ?_
  repeat refine seq ?_
  refine ifc hf rfl (fun hc => wskip ?_) (fun hc => wexit ?_)
  · have hm := of_decide_eq_true hc
    clear hc
    simp only [Exit.then, Exit.inBlock, ↓reduceIte]
    have h2 := dg_step (n := m.toNat) (by omega)
    have h3 : m.toNat / 2 = (m / 2).toNat := by omega
    rw [h3] at h2
    repeat refine seq ?_
    refine blk ?_
    replace hf := hf.keep [0, 3]
    dsimp only [keep, List.filterMap, look, Nat.beq, Option.map] at hf
    repeat refine seq ?_
    refine regn 2 hf (by decide +kernel) ?_
    refine st (mv rfl) ?_
    refine st (quo rfl rfl (by omega)) ?_
    refine en fun a w e' hf => ?_
    replace e := Ext.tr e e'
    clear e'
    refine tl_as hf rfl (by decide) fun a hf => ?_
    refine tl_nil ?_
    replace hf := hf.keep [0, 3]
    dsimp only [keep, List.filterMap, look, Nat.beq, Option.map] at hf
    repeat refine seq ?_
    refine regn 2 hf (by decide +kernel) ?_
    refine st (mv rfl) ?_
    refine st ((add rfl rfl (by omega)).eq (congrArg (Value.int .i64) (show (k : Int) + 1 = ((k + 1 : Nat) : Int) from rfl))) ?_
    refine en fun a w e' hf => ?_
    replace e := Ext.tr e e'
    clear e'
    refine tl_as hf rfl (by decide) fun a hf => ?_
    refine tl_nil ?_
    try simp only [Exit.then, Exit.inBlock, ↓reduceIte]
    replace hf := hf.keep [0, 3]
    dsimp only [keep, List.filterMap, look, Nat.beq, Option.map] at hf
    exact ⟨(m / 2).toNat, by omega, m / 2, k + 1, rfl, by omega, by omega, by omega, hf, e⟩
  · have hm := of_decide_eq_false hc
    simp only [Exit.then, Exit.inBlock, ↓reduceIte]
    have h0 : m.toNat = 0 := by omega
    rw [h0, dg_zero] at hk
    replace hf := hf.keep [3]
    dsimp only [keep, List.filterMap, look, Nat.beq, Option.map] at hf
    repeat refine seq ?_
    refine regn 1 hf (by decide +kernel) ?_
    refine st (mv rfl) ?_
    refine en fun a w e' hf => ?_
    replace e := Ext.tr e e'
    clear e'
    refine tl_as hf rfl (by decide) fun a hf => ?_
    refine tl_nil ?_
    refine wret ?_
    try simp only [Exit.then, Exit.inBlock]
    refine ret1 rfl hf rfl ?_
    rintro _ rfl
    exact ⟨_, rfl, e, congrArg (fun n : Nat => I (n : Nat)) (show k = dg n.toNat by omega)⟩

theorem dg_double {n : Int} (h : 0 < n) : dg (2 * n).toNat = dg n.toNat + 1 := by
  rw [dg_step (n := (2 * n).toNat) (by omega)]
  congr 2
  omega

theorem dbl_ne {n : Int} (h : 0 < n) : (((dg (2 * n).toNat : Nat) : Int) != ((dg n.toNat : Nat) : Int) + 1) = false := by
  rw [dg_double h]; simp

theorem law_bitLen (n : Int) (W : World) (hT : Tab W) (hn : n < 9223372036854775808) (h64 : -9223372036854775808 ≤ n) : Calls Tryd.prog 9 #[I n] W (Post (E (B true)) W) := by
  refine enter (args := [I n]) (As := [E (I n)]) Tryd.func9 rfl Tryd.ntmps9 (Nat.le_of_ble_eq_true rfl) ?_ (fun a hf => ?_) (Nat.le_of_ble_eq_true rfl)
  rotate_left
  dsimp only [params, Nat.reduceAdd] at hf
  rotate_right
  · exact arg1 rfl
  have e := Ext.rfl' W
  have hd := dg_le 63 n.toNat (by omega)
  repeat refine seq ?_
  refine regn0 ?_
  refine tl_as hf rfl (by decide) fun a hf => ?_
  refine tl_nil ?_
  repeat refine seq ?_
  refine regn 2 hf (by decide +kernel) ?_
  refine st (mv rfl) ?_
  refine st (call1 En61 rfl (fun v w he h => by cases h; exact bitLen_spec n w hn)) ?_
  refine en fun a w e' hf => ?_
  replace hT := hT.ext e'
  replace e := Ext.tr e e'
  clear e'
  refine tl_as hf rfl (by decide) fun a hf => ?_
  refine tl_nil ?_
  replace hf := hf.keep [0, 3]
  dsimp only [keep, List.filterMap, look, Nat.beq, Option.map] at hf
  cases h1 : decide (0 < n)
  all_goals cases h2 : decide (n < 1099511627776)
  all_goals
    have h1' := h1
    have h2' := h2
    first | replace h1' := of_decide_eq_true h1' | replace h1' := of_decide_eq_false h1'
    first | replace h2' := of_decide_eq_true h2' | replace h2' := of_decide_eq_false h2'
    repeat refine seq ?_
    refine regn 14 hf (by decide +kernel) ?_
    refine st (mv rfl) ?_
    refine st ((gtr rfl rfl).eq (congrArg Value.bool (h1))) ?_
    refine st (mv rfl) ?_
    first | refine sn rfl rfl rfl ?_ | refine su rfl rfl ?_ | refine sy rfl rfl (mv rfl) ?_
    first | refine sn rfl rfl rfl ?_ | refine su rfl rfl ?_ | refine sy rfl rfl ((lss rfl rfl).eq (congrArg Value.bool (h2))) ?_
    first | refine st (pkT rfl rfl) ?_ | refine st (pkF rfl rfl) ?_ | refine st (pk rfl rfl rfl) ?_
    refine st (mv rfl) ?_
    first | refine sn rfl rfl rfl ?_ | refine su rfl rfl ?_ | refine sy rfl rfl (mv rfl) ?_
    first | refine sn rfl rfl rfl ?_ | refine su rfl rfl ?_ | refine sy rfl rfl (mul rfl rfl (by omega)) ?_
    first | refine sn rfl rfl rfl ?_ | refine su rfl rfl ?_ | refine sy rfl rfl (call1 En61 rfl (fun v w he h => by cases h; exact bitLen_spec (2 * n) w (by omega))) ?_
    first | refine sn rfl rfl rfl ?_ | refine su rfl rfl ?_ | refine sy rfl rfl (mv rfl) ?_
    first | refine sn rfl rfl rfl ?_ | refine su rfl rfl ?_ | refine sy rfl rfl (add rfl rfl (by omega)) ?_
    first | refine sn rfl rfl rfl ?_ | refine su rfl rfl ?_ | refine sy rfl rfl ((neq rfl rfl).eq (congrArg Value.bool (dbl_ne h1'))) ?_
    first | refine st (pkT rfl rfl) ?_ | refine st (pkF rfl rfl) ?_ | refine st (pk rfl rfl rfl) ?_
    refine en fun a w e' hf => ?_
    replace hT := hT.ext e'
    replace e := Ext.tr e e'
    clear e'
    refine tl_nil ?_
    repeat refine seq ?_
    refine ifc hf rfl (fun h => by cases h) (fun _ => ?_)
    refine wskip ?_
    try simp only [Exit.then, Exit.inBlock, ↓reduceIte]
    replace hf := hf.keep [0, 3]
    dsimp only [keep, List.filterMap, look, Nat.beq, Option.map] at hf
    repeat refine seq ?_
    refine regn 7 hf (by decide +kernel) ?_
    refine st (call0 En58 (fun w he => known_spec w (hT.ext he))) ?_
    refine st (mv rfl) ?_
    first | refine sn rfl rfl rfl ?_ | refine su rfl rfl ?_ | refine sy rfl rfl (mv rfl) ?_
    first | refine sn rfl rfl rfl ?_ | refine su rfl rfl ?_ | refine sy rfl rfl (mv rfl) ?_
    first | refine sn rfl rfl rfl ?_ | refine su rfl rfl ?_ | refine sy rfl rfl (call1 En62 rfl (fun v w he h => by cases h; exact bits_spec n w hn h64)) ?_
    first | refine sn rfl rfl rfl ?_ | refine su rfl rfl ?_ | refine sy rfl rfl ((eql rfl rfl).eq (congrArg Value.bool (beq_self_eq_true _))) ?_
    first | refine st (pkT rfl rfl) ?_ | refine st (pkF rfl rfl) ?_ | refine st (pk rfl rfl rfl) ?_
    refine en fun a w e' hf => ?_
    replace hT := hT.ext e'
    replace e := Ext.tr e e'
    clear e'
    refine tl_as hf rfl (by decide) fun a hf => ?_
    refine tl_nil ?_
    refine wret ?_
    try simp only [Exit.then, Exit.inBlock]
    refine ret1 rfl hf rfl ?_
    rintro _ rfl
    exact ⟨_, rfl, e, rfl⟩
theorem wf_rng {n : Int} (h : (Lit.int .i64 n).wf = true) : -9223372036854775808 ≤ n ∧ n < 9223372036854775808 := by
  have h1 : IntKind.i64.min = -9223372036854775808 := by decide
  have h2 : IntKind.i64.max = 9223372036854775807 := by decide
  simp only [Lit.wf, h1, h2, Bool.and_eq_true, decide_eq_true_eq] at h
  omega
theorem law_bitLen' (n : Int) (W : World) (hT : Tab W) (hw : (Lit.int .i64 n).wf = true) : Calls Tryd.prog 9 #[I n] W (Post (E (B true)) W) :=
  law_bitLen n W hT (wf_rng hw).2 (wf_rng hw).1
end Go.Mono
