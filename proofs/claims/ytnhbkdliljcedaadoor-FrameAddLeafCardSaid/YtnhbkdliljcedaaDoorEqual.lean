/-
  Trees and frames compared; the tree of a frame as an own slice. Walked.
  No condition.
-/
import Derived.Test.YtnhbkdliljcedaaDoorWE
import Derived.Test.YtnhbkdliljcedaaDoorMonoT
set_option linter.unusedVariables false
set_option linter.unusedSimpArgs false
set_option linter.unusedVariables false
set_option linter.unusedSimpArgs false
namespace Go.Mono
open Go Go.Proofs Go.RowKit

theorem bag_fields : (Tryd.prog.fieldsOf 86).toList = [⟨"Parent", 3, 0, false, "", "", 0⟩, ⟨"Vertices", 37, 1, false, "", "", 8⟩] := by kernel_rfl
theorem bag_stood : Tryd.prog.stoodInHeld 86 = false := by kernel_rfl
theorem bag_guard : Tryd.prog.eqGuardType Tryd.prog.depth 86 = false := by kernel_rfl
theorem bag_struct : Tryd.prog.underlying 86 = some (.struct (Tryd.prog.fieldsOf 86)) := by kernel_rfl
theorem eqFields_two {P : Program} {w : World} {d : Nat} {xs ys : Array Value} {f0 f1 : Field} {x0 y0 x1 y1 : Value} {r0 r1 : Bool} (n0 : f0.name ≠ "_") (n1 : f1.name ≠ "_")
    (p0 : (part f0.type xs f0.offset).run P w = .ok x0 w) (q0 : (part f0.type ys f0.offset).run P w = .ok y0 w) (h0 : (Op.equalIn d f0.type x0 y0).run P w = .ok r0 w)
    (p1 : (part f1.type xs f1.offset).run P w = .ok x1 w) (q1 : (part f1.type ys f1.offset).run P w = .ok y1 w) (h1 : (Op.equalIn d f1.type x1 y1).run P w = .ok r1 w) :
    (Op.eqFields d xs ys [f0, f1]).run P w = .ok (r0 && r1) w := by
  rw [Op.eqFields]
  simp only [n0, if_true, ne_eq, not_false_eq_true, Sem.run_bind, Result.andThen_ok, p0, q0, h0]
  cases r0
  · rfl
  · rw [if_neg (by decide), Op.eqFields]
    simp only [n1, if_true, ne_eq, not_false_eq_true, Sem.run_bind, Result.andThen_ok, p1, q1, h1]
    cases r1
    · rfl
    · rw [if_neg (by decide), Op.eqFields]; rfl
theorem bag_p0 (w : World) (c : Int × BS) : (part 3 (bagC c) 0).run Tryd.prog w = .ok (I c.1) w := by
  simp [part, T3.agg w, bagC]
theorem bag_p1 (w : World) (c : Int × BS) : (part 37 (bagC c) 1).run Tryd.prog w = .ok (setV c.2) w := by
  have := bagC_1 c
  simp only [Nat.zero_add] at this
  simp [part, T37.agg w, T37.size w]
  exact this
theorem bag_q1 (w : World) (x y : BS) : (Op.equalIn 9999 37 (setV x) (setV y)).run Tryd.prog w = .ok (x == y) w := by
  rw [← all_setC]
  exact run_equalIn_words Tryd.underlying37 Tryd.underlying35 T35 9997 (word x) (word y) w
theorem bag_decide (a b : Int × BS) : (a.1 == b.1 && a.2 == b.2) = decide (a = b) := by
  obtain ⟨a1, a2⟩ := a
  obtain ⟨b1, b2⟩ := b
  by_cases h1 : a1 = b1
  · by_cases h2 : a2 = b2
    · rw [decide_eq_true (by rw [h1, h2])]; simp [h1, h2]
    · rw [decide_eq_false (fun h => h2 (Prod.mk.inj h).2)]; simp [h2]
  · rw [decide_eq_false (fun h => h1 (Prod.mk.inj h).1)]; simp [h1]
theorem run_equal_bag (a b : Int × BS) (w : World) : (Op.equalIn 10000 86 (bagV a) (bagV b)).run Tryd.prog w = .ok (decide (a = b)) w := by
  rw [run_equalIn_struct w 9999 _ _ _ bag_struct bag_stood, bag_fields, ← bag_decide]
  exact eqFields_two (by decide) (by decide) (bag_p0 w a) (bag_p0 w b) (run_equalIn_int w 9998 3 .i64 .i64 a.1 b.1 Tryd.underlying3) (bag_p1 w a) (bag_p1 w b) (bag_q1 w a.2 b.2)

theorem neqBag {w0 : World} {L : Env} {dst : Option Tmp} {ty : TypeId} {pos : String} {aft : Array Edge} {g : Option (Nat × Bool)} {x y : Operand} {yt : TypeId} {a b : Int × BS} (hx : opd L x = some (E (bagV a))) (hy : opd L y = some (E (bagV b))) :
    OpC Tryd.prog w0 L ⟨dst, .binOp .neq 86 x y yt, ty, pos, aft, g⟩ (E (.bool (!decide (a = b)))) :=
  opc_neq hx hy (fun w => eqGuard_agg _ _ _ _ _ _ bag_guard w) rfl fun w _ => run_equal_bag a b w

theorem sEqual_spec {G : Nat → Prop} (s t : List (Int × BS)) (v u : Value) (W : World) (h : (Dv treeE G s).p v W) (h' : (Dv treeE G t).p u W) (hl : s.length ≤ 4096) :
    Calls Tryd.prog 151 #[v, u] W (Post (E (B (decide (s = t)))) W) := by
  refine enter (args := [v, u]) (As := [Dv treeE G s, Dv treeE G t]) Tryd.func151 rfl Tryd.ntmps151 (Nat.le_of_ble_eq_true rfl) ?_ (fun a hf => ?_) (Nat.le_of_ble_eq_true rfl)
  rotate_left
  dsimp only [params, Nat.reduceAdd] at hf
  rotate_right
  · exact arg2 h h'
  have e := Ext.rfl' W
  repeat refine seq ?_
  refine regn0 ?_
  refine tl_as hf rfl (by decide) fun a hf => ?_
  refine tl_nil ?_
  repeat refine seq ?_
  refine regn 5 hf (by decide +kernel) ?_
  refine st (mv rfl) ?_
  refine st (lenD Tryd.underlying23 (isR rfl)) ?_
  refine st (mv rfl) ?_
  refine st (lenD Tryd.underlying23 (isR rfl)) ?_
  refine st (neq rfl rfl) ?_
  refine en fun a w e' hf => ?_
  replace e := Ext.tr e e'
  clear e'
  refine tl_nil ?_
  repeat refine seq ?_
  refine ifc hf rfl (fun hb => ?_) (fun hb => ?_)
  · have hb' : ¬ s.length = t.length := by
      have : ((s.length : Nat) : Int) ≠ (t.length : Nat) := by simpa using hb
      omega
    repeat refine seq ?_
    refine regn0 ?_
    refine tl_as hf rfl (by decide) fun a hf => ?_
    refine tl_nil ?_
    refine wret ?_
    try simp only [Exit.then, Exit.inBlock]
    refine ret1 rfl hf rfl ?_
    rintro _ rfl
    exact ⟨_, rfl, e, congrArg B (decide_eq_false fun h => hb' (by rw [h])).symm⟩
  · have hb' : s.length = t.length := by
      have : ((s.length : Nat) : Int) = (t.length : Nat) := by simpa using hb
      omega
    refine wskip ?_
    try simp only [Exit.then, Exit.inBlock, ↓reduceIte]
    repeat refine seq ?_
    refine regn 3 hf (by decide +kernel) ?_
    refine st (mv rfl) ?_
    refine st (lenD Tryd.underlying23 (isR rfl)) ?_
    refine st (mv rfl) ?_
    refine en fun a w e' hf => ?_
    replace e := Ext.tr e e'
    clear e'
    refine tl_nil ?_
    replace hf := hf.keep [0, 1, 12, 13]
    dsimp only [keep, List.filterMap, look, Nat.beq, Option.map] at hf
    repeat refine seq ?_
    refine blk (loopN (fun r0 a w => ∃ (k : Nat) , r0 = s.length - k ∧ k ≤ s.length ∧ Fr 26 a w [(0, Dv treeE G s), (1, Dv treeE G t), (12, E (I (s.length : Nat))), (13, E (I k))] ∧ Ext W w ∧ s.take k = t.take k) s.length ⟨0, rfl, by omega, hf, e, rfl⟩ ?_)
    clear hf e; try clear Ho
    rintro r0 a w ⟨k, rfl, hk, hf, e, Ho⟩
    repeat refine seq ?_
    refine regn 1 hf (by decide +kernel) ?_
    refine st (lss rfl rfl) ?_
    refine en fun a w e' hf => ?_
    replace e := Ext.tr e e'
    clear e'
    refine tl_nil ?_
    repeat refine seq ?_
    refine ifc hf rfl (fun hc => wskip ?_) (fun hc => wexit ?_)
    rotate_left
    rotate_left
    · have hlt : k < s.length := by have := of_decide_eq_true hc; (try dsimp only at this); omega
      clear hc
      replace hf := hf.keep [0, 1, 12, 13]
      dsimp only [keep, List.filterMap, look, Nat.beq, Option.map] at hf
      repeat refine seq ?_
      refine blk ?_
      have g1 := bg_get hlt
      have g2 := bg_get (t := t) (i := k) (by omega)
      repeat refine seq ?_
      refine regn 1 hf (by decide +kernel) ?_
      refine st (mv rfl) ?_
      refine en fun a w e' hf => ?_
      replace e := Ext.tr e e'
      clear e'
      refine tl_as hf rfl (by decide) fun a hf => ?_
      refine tl_nil ?_
      repeat refine seq ?_
      refine reg 9 Mix.mix hf (by decide +kernel) ?_
      refine st (mv rfl) ?_
      refine st (mv rfl) ?_
      refine st (idxD Tryd.underlying23 S86 (isR rfl) rfl (by omega) (g1)) ?_
      refine st (ldBag T86 (isR rfl)) ?_
      refine st (mv rfl) ?_
      refine st (mv rfl) ?_
      refine st (idxD Tryd.underlying23 S86 (isR rfl) rfl (by omega) (g2)) ?_
      refine st (ldBag T86 (isR rfl)) ?_
      refine st (neqBag rfl rfl) ?_
      refine en fun a w e' hf => ?_
      replace e := Ext.tr e e'
      clear e'
      refine tl_nil ?_
      repeat refine seq ?_
      refine ifc hf rfl (fun hb => ?_) (fun hb => ?_)
      · have hb2 : ¬ bg s k = bg t k := by simpa using hb
        repeat refine seq ?_
        refine regn0 ?_
        refine tl_as hf rfl (by decide) fun a hf => ?_
        refine tl_nil ?_
        refine wret ?_
        try simp only [Exit.then, Exit.inBlock]
        refine ret1 rfl hf rfl ?_
        rintro _ rfl
        exact ⟨_, rfl, e, congrArg B (decide_eq_false fun h => hb2 (by rw [h])).symm⟩
      · have hb2 : bg s k = bg t k := by simpa using hb
        refine wskip ?_
        try simp only [Exit.then, Exit.inBlock, ↓reduceIte]
        try simp only [Exit.then, Exit.inBlock, ↓reduceIte]
        repeat refine seq ?_
        refine regn 1 hf (by decide +kernel) ?_
        refine st ((add rfl rfl (by omega)).eq (congrArg (Value.int .i64) (show (k : Int) + 1 = ((k + 1 : Nat) : Int) from rfl))) ?_
        refine en fun a w e' hf => ?_
        replace e := Ext.tr e e'
        clear e'
        refine tl_op hf (by decide) (mv rfl) fun a w e' hf => ?_
        replace e := Ext.tr e e'
        clear e'
        refine tl_nil ?_
        replace hf := hf.keep [0, 1, 12, 13]
        dsimp only [keep, List.filterMap, look, Nat.beq, Option.map] at hf
        refine ⟨_, ?_, k + 1, rfl, by omega, hf, e, ?_⟩
        · omega
        rw [take_succ_get g1, take_succ_get g2, Ho, hb2]
    · obtain rfl : k = s.length := by have := of_decide_eq_false hc; (try dsimp only at this); omega
      clear hc
      simp only [Exit.then, Exit.inBlock, ↓reduceIte]
      have heq : s = t := by rw [List.take_length, hb', List.take_length] at Ho; exact Ho
      repeat refine seq ?_
      refine regn0 ?_
      refine tl_as hf rfl (by decide) fun a hf => ?_
      refine tl_nil ?_
      refine wret ?_
      try simp only [Exit.then, Exit.inBlock]
      refine ret1 rfl hf rfl ?_
      rintro _ rfl
      exact ⟨_, rfl, e, congrArg B (decide_eq_true heq).symm⟩

theorem tEqual_spec {G : Nat → Prop} (s t : List (Int × BS)) (v u : Value) (W : World) (h : (Dv treeE G s).p v W) (h' : (Dv treeE G t).p u W) (hl : s.length ≤ 4096) :
    Calls Tryd.prog 125 #[v, u] W (Post (E (B (decide (s = t)))) W) := by
  refine enter (args := [v, u]) (As := [Dv treeE G s, Dv treeE G t]) Tryd.func125 rfl Tryd.ntmps125 (Nat.le_of_ble_eq_true rfl) ?_ (fun a hf => ?_) (Nat.le_of_ble_eq_true rfl)
  rotate_left
  dsimp only [params, Nat.reduceAdd] at hf
  rotate_right
  · exact arg2 h h'
  have e := Ext.rfl' W
  repeat refine seq ?_
  refine regn0 ?_
  refine tl_as hf rfl (by decide) fun a hf => ?_
  refine tl_nil ?_
  repeat refine seq ?_
  refine regn 3 hf (by decide +kernel) ?_
  refine st (mv rfl) ?_
  refine st (mv rfl) ?_
  refine st (call2 En151 rfl rfl (fun v u w he h h' => sEqual_spec s t v u w h h' hl)) ?_
  refine en fun a w e' hf => ?_
  replace e := Ext.tr e e'
  clear e'
  refine tl_as hf rfl (by decide) fun a hf => ?_
  refine tl_nil ?_
  refine wret ?_
  try simp only [Exit.then, Exit.inBlock]
  refine ret1 rfl hf rfl ?_
  rintro _ rfl
  exact ⟨_, rfl, e, rfl⟩

theorem fEqual_spec {G : Nat → Prop} (F F' : Fm) (v u : Value) (W : World) (h : (Dv (ptE frE) G (some F)).p v W) (h' : (Dv (ptE frE) G (some F')).p u W) (hl : F.1.length ≤ 4096) :
    Calls Tryd.prog 66 #[v, u] W (Post (E (B (decide (F.1 = F'.1)))) W) := by
  refine enter (args := [v, u]) (As := [Dv (ptE frE) G (some F), Dv (ptE frE) G (some F')]) Tryd.func66 rfl Tryd.ntmps66 (Nat.le_of_ble_eq_true rfl) ?_ (fun a hf => ?_) (Nat.le_of_ble_eq_true rfl)
  rotate_left
  dsimp only [params, Nat.reduceAdd] at hf
  rotate_right
  · exact arg2 h h'
  have e := Ext.rfl' W
  repeat refine seq ?_
  refine regn0 ?_
  refine tl_as hf rfl (by decide) fun a hf => ?_
  refine tl_nil ?_
  repeat refine seq ?_
  refine regn 6 hf (by decide +kernel) ?_
  refine st (mv rfl) ?_
  refine st (eqlP Tryd.underlying24 (isR rfl)) ?_
  refine st (mv rfl) ?_
  first | refine sn rfl rfl rfl ?_ | refine su rfl rfl ?_ | refine sy rfl rfl (mv rfl) ?_
  first | refine sn rfl rfl rfl ?_ | refine su rfl rfl ?_ | refine sy rfl rfl (eqlP Tryd.underlying24 (isR rfl)) ?_
  first | refine st (pkT rfl rfl) ?_ | refine st (pkF rfl rfl) ?_ | refine st (pk rfl rfl rfl) ?_
  refine en fun a w e' hf => ?_
  replace e := Ext.tr e e'
  clear e'
  refine tl_nil ?_
  repeat refine seq ?_
  refine ifc hf rfl (fun h => by cases h) (fun _ => ?_)
  refine wskip ?_
  try simp only [Exit.then, Exit.inBlock, ↓reduceIte]
  repeat refine seq ?_
  refine reg 9 Mix.mix hf (by decide +kernel) ?_
  refine st (mv rfl) ?_
  refine st (nilC (isR rfl)) ?_
  refine st (fldD Tryd.underlying102 rfl T23 (by decide) (Fld.fst Fld.refl) (isR rfl)) ?_
  refine st (ldD T23 (isR rfl)) ?_
  refine st (mv rfl) ?_
  refine st (nilC (isR rfl)) ?_
  refine st (fldD Tryd.underlying102 rfl T23 (by decide) (Fld.fst Fld.refl) (isR rfl)) ?_
  refine st (ldD T23 (isR rfl)) ?_
  refine st (call2 En125 rfl rfl (fun v u w he h h' => tEqual_spec F.1 F'.1 v u w h h' hl)) ?_
  refine en fun a w e' hf => ?_
  replace e := Ext.tr e e'
  clear e'
  refine tl_as hf rfl (by decide) fun a hf => ?_
  refine tl_nil ?_
  refine wret ?_
  try simp only [Exit.then, Exit.inBlock]
  refine ret1 rfl hf rfl ?_
  rintro _ rfl
  exact ⟨_, rfl, e, rfl⟩

theorem fbagsO_spec {G : Nat → Prop} (Bz : Nat) (F : Fm) (v : Value) (W : World) (h : (Dv (ptE frE) G (some F)).p v W) (hl : F.1.length ≤ 4096) (hB : Bz ≤ W.heap.size) :
    Calls Tryd.prog 36 #[v] W (Post (OwA bagE 86 Bz Go.Mono.G0 F.1) W) := by
  refine enter (args := [v]) (As := [Dv (ptE frE) G (some F)]) Tryd.func36 rfl Tryd.ntmps36 (Nat.le_of_ble_eq_true rfl) ?_ (fun a hf => ?_) (Nat.le_of_ble_eq_true rfl)
  rotate_left
  dsimp only [params, Nat.reduceAdd] at hf
  rotate_right
  · exact arg1 h
  have e := Ext.rfl' W
  repeat refine seq ?_
  refine regn0 ?_
  refine tl_as hf rfl (by decide) fun a hf => ?_
  refine tl_nil ?_
  repeat refine seq ?_
  refine regn 2 hf (by decide +kernel) ?_
  refine st (mv rfl) ?_
  refine st (eqlP Tryd.underlying24 (isR rfl)) ?_
  refine en fun a w e' hf => ?_
  replace e := Ext.tr e e'
  clear e'
  refine tl_nil ?_
  repeat refine seq ?_
  refine ifc hf rfl (fun h => by cases h) (fun _ => ?_)
  refine wskip ?_
  try simp only [Exit.then, Exit.inBlock, ↓reduceIte]
  repeat refine seq ?_
  refine regn 5 hf (by decide +kernel) ?_
  refine st (mv rfl) ?_
  refine st (nilC (isR rfl)) ?_
  refine st (fldD Tryd.underlying102 rfl T23 (by decide) (Fld.fst Fld.refl) (isR rfl)) ?_
  refine st (ldD T23 (isR rfl)) ?_
  refine st (call1 (A := OwA bagE 86 Bz Go.Mono.G0 F.1) En100 rfl (fun v w he h => treeCloneO_spec Bz F.1 v w h hl (Nat.le_trans hB (Nat.le_trans e.size he.size)))) ?_
  refine en fun a w e' hf => ?_
  replace e := Ext.tr e e'
  clear e'
  refine tl_as hf rfl (by decide) fun a hf => ?_
  refine tl_nil ?_
  refine wret ?_
  try simp only [Exit.then, Exit.inBlock]
  refine ret1 rfl hf rfl ?_
  intro v hv
  exact ⟨_, rfl, e, hv⟩
end Go.Mono
