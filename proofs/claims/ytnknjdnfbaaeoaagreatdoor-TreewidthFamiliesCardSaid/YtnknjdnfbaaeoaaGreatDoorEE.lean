/-
  Walks and plain facts, in this order: Ring, TwG, TwK, ArgG, CardBase, Tw2, Frm, Tw3, TwL, MatB, R23a, R23b, TwC, MonoN, TwO, TwF, TwE.
  No condition.
-/
import Derived.Test.YtnknjdnfbaaeoaaGreatDoorEC
import Derived.Test.YtnknjdnfbaaeoaaGreatDoorED
import Derived.Test.YtnknjdnfbaaeoaaGreatDoorEA
import Derived.Test.YtnknjdnfbaaeoaaGreatDoorCards
import Derived.Test.YtnknjdnfbaaeoaaGreatDoorTie
import Derived.Test.YtnknjdnfbaaeoaaGreatDoorEB
import Derived.ProofKit
import Derived.OpenShut
import Derived.ChangeOld
import Derived.Below
import Derived.LaidLaws
import Derived.Handed
import Derived.Lib.LaidTab
import Derived.SevenTiedAt
set_option linter.unusedVariables false
set_option linter.unusedSimpArgs false
namespace Go.Mono
open Go Go.Proofs Go.RowKit Go.Gr

def ringV (n : Nat) : List VT := (List.range n).map fun i : Nat => ((i : Int), (0, 0))
/-- as the law names the edges -/
def ringE (n : Nat) : List ET := (List.range n).map fun i : Nat => (((i : Int), ((i : Int) + 1) % (n : Int)), (0, 0))
/-- sorted -/
def ringS (n : Nat) : List ET := ((0, 1), (0, 0)) :: ((0, (n : Int) - 1), (0, 0)) :: ((List.range (n - 2)).map fun i : Nat => (((i : Int) + 1, (i : Int) + 2), (0, 0)))
def ringG (n : Nat) : GT := (ringV n, ringS n)
def ringOk (n : Nat) : Bool := (match bldM (ringV n) (ringE n) with
  | some g => g.1.isPerm (ringV n) && g.2.isPerm (ringS n)
  | none => false) && decide ((ringS n).Pairwise fun x y => lt2 x.1 y.1 = true)
theorem ring_all : (List.range 12).all (fun i => ringOk (i + 3)) = true := by decide +kernel
theorem ring_ok {n : Nat} (h3 : 3 ≤ n) (hn : n ≤ 14) : (∃ g, bldM (ringV n) (ringE n) = some g ∧ g.1.Perm (ringV n) ∧ g.2.Perm (ringS n)) ∧ (ringS n).Pairwise fun x y => lt2 x.1 y.1 = true := by
  have h := List.all_eq_true.1 ring_all (n - 3) (List.mem_range.2 (by omega))
  rw [show n - 3 + 3 = n by omega, ringOk, Bool.and_eq_true, decide_eq_true_eq] at h
  obtain ⟨h1, h2⟩ := h
  refine ⟨?_, h2⟩
  cases hb : bldM (ringV n) (ringE n) with
  | none => rw [hb] at h1; cases h1
  | some g =>
    rw [hb] at h1
    simp only [Bool.and_eq_true, List.isPerm_iff] at h1
    exact ⟨g, rfl, h1.1, h1.2⟩
/-- Build, of a list of vertices and edges that a graph comes of -/
theorem build_perm {G : Nat → Prop} (V : List VT) (E' : List ET) (g : GT) (hb : ∃ g', bldM V E' = some g' ∧ g'.1.Perm g.1 ∧ g'.2.Perm g.2) (hV : ∀ x ∈ V, okD (dV x)) (hE : ∀ x ∈ E', okD (dE x)) (v u : Value) (W : World) (h1 : (Dv (slE vtE) G V).p v W) (h2 : (Dv (slE etE) G E').p u W) (hl1 : V.length ≤ 1000) (hl2 : E'.length ≤ 1000) {K : Nat → Prop} (hK : ∀ b, K b → b < W.heap.size) :
    Calls Tryz.prog 21 #[v, u] W (Post (Tup [Dv (ptE (grE 2000)) K (some g), E (I 0)]) W) :=
  Calls.mono (build_spec V E' v u W h1 h2 (by omega) (by omega) hV hE) fun en w' ⟨e, hq⟩ => by
    obtain ⟨g', k1, k2, k3⟩ := hb
    rcases hq with ⟨g2, b1, b2, b3, q1, rfl, q3, q4, q5, q6⟩ | ⟨c, q0, q1, _⟩
    · rw [k1] at q1; cases q1
      exact ⟨_, rfl, e, Tup.two ((q6.perm k2 k3).dv (by omega) (fun h => by have := hK _ h; omega) (fun h => by have := hK _ h; omega) (fun h => by have := hK _ h; omega)) rfl⟩
    · rw [k1] at q1; cases q1
theorem bV1 (i : Int) : Tryz.prog.built 55 [(0, .int .i64 i)] = some #[.int .i64 i, .int .u8 0, .int .i64 0] := by kernel_rfl
theorem bE2 (i j : Int) : Tryz.prog.built 57 [(0, .int .i64 i), (1, .int .i64 j)] = some #[.int .i64 i, .int .i64 j, .int .u8 0, .int .i64 0] := by kernel_rfl
theorem bldV1 {w0 : World} {L : Env} {dst : Option Tmp} {ty : TypeId} {pos : String} {aft : Array Edge} {g : Option (Nat × Bool)} {x : Operand} (i : Int) (h : opd L x = some (E (I i))) : OpC Tryz.prog w0 L ⟨dst, .build 55 #[(0, x)], ty, pos, aft, g⟩ (E (vtV (i, (0, 0)))) :=
  bldV [(0, _)] (by simp only [List.map_cons, List.map_nil, h]) (bV1 i)
theorem bldE2 {w0 : World} {L : Env} {dst : Option Tmp} {ty : TypeId} {pos : String} {aft : Array Edge} {g : Option (Nat × Bool)} {x y : Operand} (i j : Int) (h : opd L x = some (E (I i))) (h' : opd L y = some (E (I j))) : OpC Tryz.prog w0 L ⟨dst, .build 57 #[(0, x), (1, y)], ty, pos, aft, g⟩ (E (etV ((i, j), (0, 0)))) :=
  bldV [(0, _), (1, _)] (by simp only [List.map_cons, List.map_nil, h, h']) (bE2 i j)
theorem ring_spec (n : Nat) (h3 : 3 ≤ n) (hn : n ≤ 14) (W : World) {K : Nat → Prop} (hK : ∀ b, K b → b < W.heap.size) :
    Calls Tryz.prog 19 #[I (n : Nat)] W (Post (Dv (ptE (grE 2000)) K (some (ringG n))) W) := by
  obtain ⟨hb, hs⟩ := ring_ok h3 hn
  have hlV : (ringV n).length = n := by simp [ringV]
  have hlE : (ringE n).length = n := by simp [ringE]
  have w0 : (Lit.int .i64 0).wf = true := by decide
  have w8 : (Lit.int .u8 0).wf = true := by decide
  have hV : ∀ x ∈ ringV n, okD (dV x) := fun x hx => by
    obtain ⟨i, hi, rfl⟩ := List.mem_map.1 hx
    have := List.mem_range.1 hi
    exact ⟨wf64 (show -9223372036854775808 ≤ (i : Int) by omega) (show (i : Int) ≤ 9223372036854775807 by omega), w0, w8, w0⟩
  have hE : ∀ x ∈ ringE n, okD (dE x) := fun x hx => by
    obtain ⟨i, hi, rfl⟩ := List.mem_map.1 hx
    have := List.mem_range.1 hi
    have h0 : (0 : Int) < (n : Int) := by omega
    have h1 := Int.emod_nonneg ((i : Int) + 1) (show (n : Int) ≠ 0 by omega)
    have h2 := Int.emod_lt_of_pos ((i : Int) + 1) h0
    exact ⟨wf64 (show -9223372036854775808 ≤ (i : Int) by omega) (show (i : Int) ≤ 9223372036854775807 by omega), wf64 (show -9223372036854775808 ≤ ((i : Int) + 1) % (n : Int) by omega) (show ((i : Int) + 1) % (n : Int) ≤ 9223372036854775807 by omega), w8, w0⟩
  refine enter (args := [I (n : Nat)]) (As := [E (I (n : Nat))]) Tryz.func19 rfl Tryz.ntmps19 (Nat.le_of_ble_eq_true rfl) ?_ (fun a hf => ?_) (Nat.le_of_ble_eq_true rfl)
  rotate_left
  dsimp only [params, Nat.reduceAdd] at hf
  rotate_right
  · exact arg1 rfl
  have e := Ext.rfl' W
  repeat refine seq ?_
  refine regn0 ?_
  refine tl_as hf rfl (by decide) fun a hf => ?_
  refine tl_nil ?_
  repeat refine seq ?_
  refine regn0 ?_
  refine tl_as hf rfl (by decide) fun a hf => ?_
  refine tl_nil ?_
  repeat refine seq ?_
  refine regn0 ?_
  refine tl_as hf rfl (by decide) fun a hf => ?_
  refine tl_nil ?_
  repeat refine seq ?_
  refine regn0 ?_
  refine tl_as hf rfl (by decide) fun a hf => ?_
  refine tl_nil ?_
  replace hf := hf.keep [0, 2, 3, 4, 5]
  dsimp only [keep, List.filterMap, look, Nat.beq, Option.map] at hf
  repeat refine seq ?_
  refine blk (loopN (fun r0 a w => ∃ (k : Nat) (u1 u2 : Value), r0 = n - k ∧ k ≤ n ∧ Fr 34 a w [(0, E (I (n : Nat))), (2, E (.pointer none)), (3, E u1), (4, E u2), (5, E (I k))] ∧ Ext W w ∧ OwR vtE 55 W.heap.size Go.Mono.G0 w ((ringV n).take k) u1 ∧ OwR etE 57 W.heap.size Go.Mono.G0 w ((ringE n).take k) u2) n ⟨0, .slice none 0 0,  .slice none 0 0, rfl, by omega, hf, e, ⟨OwR.nil vtE _ e.size fun b hb => hb.elim, OwR.nil etE _ e.size fun b hb => hb.elim⟩⟩ ?_)
  clear hf e; try clear H1; try clear H2
  rintro r0 a w ⟨k, u1, u2, rfl, hk, hf, e, H1, H2⟩
  repeat refine seq ?_
  refine regn 3 hf (by decide +kernel) ?_
  refine st (mv rfl) ?_
  refine st (mv rfl) ?_
  refine st (lss rfl rfl) ?_
  refine en fun a w e' hf => ?_
  replace H1 := H1.ext e'
  replace H2 := H2.ext e'
  replace e := Ext.tr e e'
  clear e'
  refine tl_nil ?_
  repeat refine seq ?_
  refine ifc hf rfl (fun hc => wskip ?_) (fun hc => wexit ?_)
  rotate_left
  rotate_left
  · have hlt : k < n := by have := of_decide_eq_true hc; (try dsimp only at this); omega
    clear hc
    replace hf := hf.keep [0, 2, 3, 4, 5]
    dsimp only [keep, List.filterMap, look, Nat.beq, Option.map] at hf
    repeat refine seq ?_
    refine blk ?_
    have hx : (ringV n)[k]? = some ((k : Int), (0, 0)) := by simp [ringV, hlt]
    have hy : (ringE n)[k]? = some (((k : Int), ((k : Int) + 1) % (n : Int)), (0, 0)) := by simp [ringE, hlt]
    have hlk := List.length_take_le k (ringV n)
    have hlk2 := List.length_take_le k (ringE n)
    repeat refine seq ?_
    refine regn 4 hf (by decide +kernel) ?_
    refine st (mv rfl) ?_
    refine st (mv rfl) ?_
    refine st (bldV1 _ rfl) ?_
    refine st (bsl1 Tryz.underlying52 I55 rfl (by decide) rfl H1.avs (isVt rfl)) ?_
    refine en fun a w e' hf => ?_
    replace H2 := H2.ext e'
    replace H1 := H1.ext e'
    replace e := Ext.tr e e'
    clear e'
    haveI hin : ∀ G0, InR (GB W G0) _ := OwR.inGB (W := W) H1 (Nat.le_refl _)
    refine tl_app Tryz.underlying52 I55 rfl rfl hf (by decide) rfl H1 (isR rfl) (by simp only [List.length_singleton]; omega) (by simp only [List.length_singleton, maxLen]; omega) fun a v w hg hat Hn hf => ?_
    replace e := e.gro hg (H1.row (W := W) (Nat.le_refl _))
    have hrow := H1.row (W := W) (Nat.le_refl _)
    replace H2 := H2.groE hg (fun b hb => H2.neT H1 (by decide) hb)
    replace H1 := Hn
    clear hrow
    replace H1 := Hn; clear Hn hg hat hin
    refine tl_as hf rfl (by decide) fun a hf => ?_
    refine tl_nil ?_
    rw [← take_succ_get hx] at H1
    replace hf := hf.keep [0, 2, 3, 4, 5]
    dsimp only [keep, List.filterMap, look, Nat.beq, Option.map] at hf
    repeat refine seq ?_
    refine regn 8 hf (by decide +kernel) ?_
    refine st (mv rfl) ?_
    refine st (mv rfl) ?_
    refine st (mv rfl) ?_
    refine st (add rfl rfl (by omega)) ?_
    refine st (mv rfl) ?_
    refine st (rem rfl rfl (by omega)) ?_
    refine st (bldE2 _ _ rfl rfl) ?_
    refine st (bsl1 Tryz.underlying53 I57 rfl (by decide) rfl H2.avs (isEt rfl)) ?_
    refine en fun a w e' hf => ?_
    replace H1 := H1.ext e'
    replace H2 := H2.ext e'
    replace e := Ext.tr e e'
    clear e'
    haveI hin : ∀ G0, InR (GB W G0) _ := OwR.inGB (W := W) H2 (Nat.le_refl _)
    refine tl_app Tryz.underlying53 I57 rfl rfl hf (by decide) rfl H2 (isR rfl) (by simp only [List.length_singleton]; omega) (by simp only [List.length_singleton, maxLen]; omega) fun a v w hg hat Hn hf => ?_
    replace e := e.gro hg (H2.row (W := W) (Nat.le_refl _))
    have hrow := H2.row (W := W) (Nat.le_refl _)
    replace H1 := H1.groE hg (fun b hb => H1.neT H2 (by decide) hb)
    replace H2 := Hn
    clear hrow
    replace H2 := Hn; clear Hn hg hat hin
    refine tl_as hf rfl (by decide) fun a hf => ?_
    refine tl_nil ?_
    rw [← take_succ_get hy] at H2
    try simp only [Exit.then, Exit.inBlock, ↓reduceIte]
    repeat refine seq ?_
    refine regn 2 hf (by decide +kernel) ?_
    refine st (mv rfl) ?_
    refine st ((add rfl rfl (by omega)).eq (congrArg (Value.int .i64) (show (k : Int) + 1 = ((k + 1 : Nat) : Int) from rfl))) ?_
    refine en fun a w e' hf => ?_
    replace H1 := H1.ext e'
    replace H2 := H2.ext e'
    replace e := Ext.tr e e'
    clear e'
    refine tl_as hf rfl (by decide) fun a hf => ?_
    refine tl_nil ?_
    replace hf := hf.keep [0, 2, 3, 4, 5]
    dsimp only [keep, List.filterMap, look, Nat.beq, Option.map] at hf
    refine ⟨_, ?_, k + 1, _, _, rfl, by omega, hf, e, ?_⟩
    · omega
    exact ⟨H1, H2⟩
  · obtain rfl : k = n := by have := of_decide_eq_false hc; (try dsimp only at this); omega
    clear hc
    simp only [Exit.then, Exit.inBlock, ↓reduceIte]
    rw [List.take_of_length_le (by omega)] at H1 H2
    replace hf := hf.keep [2, 3, 4]
    dsimp only [keep, List.filterMap, look, Nat.beq, Option.map] at hf
    repeat refine seq ?_
    refine regn 6 hf (by decide +kernel) ?_
    refine st (mv rfl) ?_
    refine st (mv rfl) ?_
    refine st (call2 (A := Tup [Dv (ptE (grE 2000)) K (some (ringG k)), E (I 0)]) En21 rfl rfl (fun v u w he k1 k2 => by cases k1; cases k2; exact build_perm (ringV k) (ringE k) (ringG k) hb hV hE _ _ w (VA.st _ _ _ _ he H1.sl) (VA.st _ _ _ _ he H2.sl) (by omega) (by omega) (fun b hb => Nat.lt_of_lt_of_le (hK b hb) (Ext.tr e he).size))) ?_
    refine st (mv rfl) ?_
    refine st (ext_ rfl rfl) ?_
    refine st (ext_ rfl rfl) ?_
    refine en fun a w e' hf => ?_
    replace e := Ext.tr e e'
    clear e'
    refine tl_as hf rfl (by decide) fun a hf => ?_
    refine tl_as hf rfl (by decide) fun a hf => ?_
    refine tl_nil ?_
    replace hf := hf.keep [2, 6]
    dsimp only [keep, List.filterMap, look, Nat.beq, Option.map] at hf
    repeat refine seq ?_
    refine regn 1 hf (by decide +kernel) ?_
    refine st (mv rfl) ?_
    refine en fun a w e' hf => ?_
    replace e := Ext.tr e e'
    clear e'
    refine tl_as hf rfl (by decide) fun a hf => ?_
    refine tl_nil ?_
    refine wret ?_
    try simp only [Exit.then, Exit.inBlock]
    refine ret1 rfl hf rfl ?_
    intro v hv
    exact ⟨_, rfl, e, VA.st _ _ _ _ (Ext.rfl' _) hv⟩
end Go.Mono

namespace Go.Mono
open Go Go.Proofs Go.RowKit Go.Gr
theorem mem_vset {g : GT} {i : Nat} (G : Gr.Ok g) : (vset g.1).getLsbD i = true ↔ ∃ x ∈ g.1, x.1 = (i : Int) := by
  by_cases hi : i < 1024
  · rw [vset, foldl_ins_bit i hi, Bool.or_eq_true, decide_eq_true_eq, List.mem_map]
    exact ⟨fun h => h.elim (fun h => absurd h (bit_zero i)) id, .inr⟩
  · constructor
    · intro h; exact absurd (bit_lt h) hi
    · rintro ⟨x, hx, h⟩
      have := idOk_r (G.rv x hx).1
      omega
theorem inV_vset {g : GT} {i : Nat} (G : Gr.Ok g) : (vset g.1).getLsbD i = true ↔ inV g.1 (i : Int) = true := by
  rw [mem_vset G, inV, List.any_eq_true]
  exact ⟨fun ⟨x, h1, h2⟩ => ⟨x, h1, by simpa using h2⟩, fun ⟨x, h1, h2⟩ => ⟨x, h1, by simpa using h2⟩⟩
/-- joined by an edge -/
def Adj (g : GT) (i j : Nat) : Prop := ∃ x ∈ g.2, x.1 = ((i : Int), (j : Int)) ∨ x.1 = ((j : Int), (i : Int))
theorem Adj.symm {g : GT} {i j : Nat} (h : Adj g i j) : Adj g j i := by obtain ⟨x, h1, h2⟩ := h; exact ⟨x, h1, h2.symm⟩
theorem Adj.inn {g : GT} {i j : Nat} (G : Gr.Ok g) (h : Adj g i j) : (vset g.1).getLsbD i = true ∧ (vset g.1).getLsbD j = true ∧ i ≠ j := by
  obtain ⟨x, h1, h2⟩ := h
  obtain ⟨q1, q2, q3, _⟩ := G.re x h1
  rcases h2 with h2 | h2 <;> rw [h2] at q1 q2 q3 <;> dsimp only at q1 q2 q3
  · exact ⟨(inV_vset G).2 q2, (inV_vset G).2 q3, by omega⟩
  · exact ⟨(inV_vset G).2 q3, (inV_vset G).2 q2, by omega⟩
theorem nbG_bit {E : List ET} (h : ∀ x ∈ E, x.1.1 < x.1.2 ∧ (0 ≤ x.1.1 ∧ x.1.1 < 1024) ∧ (0 ≤ x.1.2 ∧ x.1.2 < 1024)) (i j : Nat) : (nbG E (i : Int)).getLsbD j = true ↔ ∃ x ∈ E, x.1 = ((i : Int), (j : Int)) ∨ x.1 = ((j : Int), (i : Int)) := by
  have key : ∀ (E : List ET) (S : BS), (∀ x ∈ E, x.1.1 < x.1.2 ∧ (0 ≤ x.1.1 ∧ x.1.1 < 1024) ∧ (0 ≤ x.1.2 ∧ x.1.2 < 1024)) → ((E.foldl (nbI (i : Int)) S).getLsbD j = true ↔ S.getLsbD j = true ∨ ∃ x ∈ E, x.1 = ((i : Int), (j : Int)) ∨ x.1 = ((j : Int), (i : Int))) := by
    intro E
    induction E with
    | nil => intro S _; simp
    | cons x E ih =>
      intro S hE
      rw [List.foldl_cons, ih _ fun y hy => hE y (by simp [hy])]
      obtain ⟨⟨p, q⟩, c⟩ := x
      obtain ⟨h1, h2, h3⟩ := hE _ (List.mem_cons_self)
      dsimp only at h1 h2 h3
      obtain ⟨p', rfl⟩ := Int.eq_ofNat_of_zero_le h2.1
      obtain ⟨q', rfl⟩ := Int.eq_ofNat_of_zero_le h3.1
      have hn : (nbI (i : Int) S (((p' : Int), (q' : Int)), c)).getLsbD j = true ↔ S.getLsbD j = true ∨ (i = p' ∧ j = q') ∨ (i = q' ∧ j = p') := by
        unfold nbI
        dsimp only
        by_cases e1 : (i : Int) = (p' : Int)
        · rw [if_pos e1, bit_ins S (by omega)]
          constructor
          · rintro (h | h)
            · exact .inl h
            · exact .inr (.inl ⟨by omega, h⟩)
          · rintro (h | h | h)
            · exact .inl h
            · exact .inr h.2
            · omega
        · rw [if_neg e1]
          by_cases e2 : (i : Int) = (q' : Int)
          · rw [if_pos e2, bit_ins S (by omega)]
            constructor
            · rintro (h | h)
              · exact .inl h
              · exact .inr (.inr ⟨by omega, h⟩)
            · rintro (h | h | h)
              · exact .inl h
              · omega
              · exact .inr h.2
          · rw [if_neg e2]
            constructor
            · exact .inl
            · rintro (h | h | h)
              · exact h
              · omega
              · omega
      rw [hn]
      simp only [List.mem_cons, exists_eq_or_imp, Prod.mk.injEq, Int.ofNat_eq_natCast]
      constructor
      · rintro ((h | h) | h)
        · exact .inl h
        · exact .inr (.inl (by omega))
        · exact .inr (.inr h)
      · rintro (h | h | h)
        · exact .inl (.inl h)
        · exact .inl (.inr (by omega))
        · exact .inr h
  rw [nbG, key E 0 h]
  exact ⟨fun h => h.elim (fun h => absurd h (bit_zero j)) id, .inr⟩
theorem gr_ends {g : GT} (G : Gr.Ok g) : ∀ x ∈ g.2, x.1.1 < x.1.2 ∧ (0 ≤ x.1.1 ∧ x.1.1 < 1024) ∧ (0 ≤ x.1.2 ∧ x.1.2 < 1024) := fun x hx => by
  obtain ⟨h1, h2, h3, _⟩ := G.re x hx
  exact ⟨h1, inV_r G h2, inV_r G h3⟩
theorem nbA_at {g : GT} {i : Nat} : nbA g (i : Int) = if (vset g.1).getLsbD i = true then nbG g.2 (i : Int) else 0 := by
  have hl : ∀ (s : List Nat), lkS (nbL g s) (i : Int) = if i ∈ s then nbG g.2 (i : Int) else 0 := by
    intro s
    induction s with
    | nil => rfl
    | cons a s ih =>
      rw [lkS, nbL, List.map_cons, List.find?_cons] at *
      by_cases ha : a = i
      · subst ha; simp
      · have h1 : decide (((a : Int), nbG g.2 (a : Int)).1 = (i : Int)) = false := decide_eq_false fun h => ha (by dsimp only at h; omega)
        rw [h1]
        have h2 : (i ∈ a :: s) ↔ i ∈ s := by rw [List.mem_cons]; exact ⟨fun h => h.elim (fun h => absurd h.symm ha) id, .inr⟩
        simp only [h2]
        exact ih
  rw [nbA, hl]
  by_cases h : (vset g.1).getLsbD i = true
  · rw [if_pos h, if_pos (mem_elems.2 ⟨bit_lt h, h⟩)]
  · rw [if_neg h, if_neg fun hh => h (mem_elems.1 hh).2]
theorem nbA_bit {g : GT} (G : Gr.Ok g) {i j : Nat} : (nbA g (i : Int)).getLsbD j = true ↔ Adj g i j := by
  rw [nbA_at]
  constructor
  · intro h
    split at h
    · exact (nbG_bit (gr_ends G) i j).1 h
    · exact absurd h (bit_zero j)
  · intro h
    rw [if_pos (h.inn G).1]
    exact (nbG_bit (gr_ends G) i j).2 h
theorem card_ins_le (S : BS) (n : Int) : card (ins S n) ≤ card S + 1 := by
  by_cases hf : fitsB n = true
  · obtain ⟨h1, h2⟩ := fitsB_iff.1 hf
    obtain ⟨p, rfl⟩ := Int.eq_ofNat_of_zero_le h1
    have hp : p < 1024 := by omega
    by_cases hb : S.getLsbD p = true
    · have : ins S (p : Int) = S := set_ext' fun i => by rw [bit_ins S hp]; exact ⟨fun h => h.elim id fun h => by rw [h]; exact hb, .inl⟩
      rw [this]; omega
    · have h1 : card (ins (0 : BS) (p : Int)) = 1 := card_one (p := p) fun i => by
        rw [bit_ins 0 hp]; exact ⟨fun h => h.elim (fun h => absurd h (bit_zero i)) id, .inr⟩
      rw [card_add (S := S) (T := ins 0 (p : Int)) (U := ins S (p : Int)) (fun i => by
        rw [bit_ins S hp, bit_ins 0 hp]
        exact ⟨fun h => h.imp id .inr, fun h => h.imp id fun h => h.elim (fun h => absurd h (bit_zero i)) id⟩) (fun i hi => by
        rw [bit_ins 0 hp] at hi
        obtain ⟨h3, h4⟩ := hi
        rcases h4 with h4 | h4
        · exact bit_zero i h4
        · rw [h4] at h3; exact hb h3), h1]
      exact Nat.le_refl _
  · rw [ins, if_neg hf]; omega
theorem card_foldl (l : List Int) : ∀ S : BS, card (l.foldl ins S) ≤ card S + l.length := by
  induction l with
  | nil => intro S; rw [List.foldl_nil, List.length_nil, Nat.add_zero]; exact Nat.le_refl _
  | cons n l ih =>
    intro S
    have h1 := ih (ins S n)
    have h2 := card_ins_le S n
    rw [List.foldl_cons, List.length_cons]; omega
theorem card_vset (g : GT) : card (vset g.1) ≤ g.1.length := by
  have h0 : card ((g.1.map (·.1)).foldl ins 0) ≤ card (0 : BS) + (g.1.map (·.1)).length := card_foldl _ 0
  rw [List.length_map, card_zero, Nat.zero_add] at h0
  exact h0
theorem sml_ok {g : GT} (G : Gr.Ok g) (hl : g.1.length ≤ 12) {all : BS} (ha : ∀ i, all.getLsbD i = true → (vset g.1).getLsbD i = true) : Sml (nbA g) all :=
  sml_of (V := vset g.1) (fun i j h => (((nbA_bit G).1 h).inn G).2.1) (Nat.le_trans (card_vset g) hl) ha
/-- a valid graph, by a test -/
def gokB (g : GT) : Bool := decide (g.1.Pairwise fun x y => lt1 x.1 y.1 = true) && decide (g.2.Pairwise fun x y => lt2 x.1 y.1 = true) && g.1.all (fun x => idOk x.1 && decide (0 ≤ x.2.1 ∧ x.2.1 < 256) && !Gr.heavy x.2.2) &&
  g.2.all (fun x => decide (x.1.1 < x.1.2) && inV g.1 x.1.1 && inV g.1 x.1.2 && decide (0 ≤ x.2.1 ∧ x.2.1 < 256) && !Gr.heavy x.2.2) && decide (g.2.length ≤ 1024)
theorem gok_of {g : GT} (h : gokB g = true) : Gr.Ok g := by
  simp only [gokB, Bool.and_eq_true, decide_eq_true_eq, List.all_eq_true, Bool.not_eq_true'] at h
  obtain ⟨⟨⟨⟨h1, h2⟩, h3⟩, h4⟩, h5⟩ := h
  exact ⟨h1, h2, fun x hx => by have := h3 x hx; exact ⟨this.1.1, this.1.2, this.2⟩, fun x hx => by have := h4 x hx; exact ⟨this.1.1.1.1, this.1.1.1.2, this.1.1.2, this.1.2, this.2⟩, h5⟩
end Go.Mono

namespace Go.Mono
open Go Go.Proofs Go.RowKit Go.Gr
theorem ring_gokA : (List.range 12).all (fun i => gokB (ringG (i + 3))) = true := by decide +kernel
theorem ring_gok {n : Nat} (h3 : 3 ≤ n) (hn : n ≤ 14) : Gr.Ok (ringG n) := by
  have h := List.all_eq_true.1 ring_gokA (n - 3) (List.mem_range.2 (by omega))
  rw [show n - 3 + 3 = n by omega] at h
  exact gok_of h
def l4 : List (Int × BS) := [(0, 10#1024), (1, 5#1024), (2, 10#1024), (3, 5#1024)]
def s02 : BS := [(0 : Int), 2].foldl ins 0
def s0 : BS := [(0 : Int)].foldl ins 0
def s23' : BS := [(2 : Int), 3].foldl ins 0
theorem nb4 : nbL (ringG 4) (elems (vset (ringG 4).1)) = l4 := by decide +kernel
theorem v4 : vset (ringG 4).1 = 15#1024 := by decide +kernel
theorem na4 : nbA (ringG 4) = lkS l4 := by rw [nbA, nb4]
theorem w4' : rsR (lkS l4) 15#1024 0 = 2 := by decide +kernel
theorem w4 : rsR (nbA (ringG 4)) (vset (ringG 4).1) 0 = 2 := by rw [na4, v4]; exact w4'
theorem p4' : rsR (lkS l4) s02 0 = 2 := by decide +kernel
theorem p4 : rsR (nbA (ringG 4)) s02 0 = 2 := by rw [na4]; exact p4'
theorem q4 : s02 &&& ~~~(vset (ringG 4).1) = 0 := by decide +kernel
theorem o4' : natL (grF (lkS l4) 15#1024 2 (card 15#1024) 0) = [0, 1, 2, 3] := by decide +kernel
theorem o4 : natL (widO (ringG 4)) = [0, 1, 2, 3] := by rw [widO, w4, na4, v4]; exact o4'
theorem r4 : rchG (ringG 4) s0 1 = s23' := by decide +kernel
theorem eqlS {P : Program} {w0 : World} {L : Env} {dst : Option Tmp} {ty : TypeId} {pos : String} {aft : Array Edge} {g : Option (Nat × Bool)} {x y : Operand} {t yt e : TypeId} {S T : BS} (ht : P.underlying t = some (.array 16 e)) (he : P.underlying e = some (.int .u64)) (hs : TI P e false 1) (hm : P.eqGuardType P.depth t = false) (hx : opd L x = some (E (setV S))) (hy : opd L y = some (E (setV T))) :
    OpC P w0 L ⟨dst, .binOp .eql t x y yt, ty, pos, aft, g⟩ (E (.bool (S == T))) :=
  opc_eql hx hy (fun w => eqGuard_agg _ _ _ _ _ _ hm w) rfl fun w _ => by
    rw [← all_setC]
    exact run_equalIn_words ht he hs 9998 (word S) (word T) w
theorem s23_eq : (s23' == s23') = true := beq_self_eq_true _
theorem known23_spec (W : World) (hT : Tab W) : Calls Tryz.prog 10 #[] W (Post (E (B true)) W) := by
  have hT0 := hT.lt
  have G4 := ring_gok (n := 4) (by omega) (by omega)
  have hl1 : (ringG 4).1.length ≤ 12 := by decide
  have hl2 : (ringG 4).2.length ≤ 1000 := by decide
  have hsm := sml_ok G4 hl1 (all := vset (ringG 4).1) fun i h => h
  have hcv := Nat.le_trans (card_vset (ringG 4)) hl1
  have gs1 := G4.sv
  have gs2 := G4.se
  refine enter (args := []) (As := []) Tryz.func10 rfl Tryz.ntmps10 (Nat.le_of_ble_eq_true rfl) (fun i A h => by simp at h) (fun a hf => ?_) (Nat.le_of_ble_eq_true rfl)
  dsimp only [params, Nat.reduceAdd] at hf
  have e := Ext.rfl' W
  repeat refine seq ?_
  refine regn0 ?_
  refine tl_as hf rfl (by decide) fun a hf => ?_
  refine tl_nil ?_
  repeat refine seq ?_
  refine regn 1 hf (by decide +kernel) ?_
  refine st (call1 (A := Dv (ptE (grE 2000)) Go.Mono.G0 (some (ringG 4))) En19 rfl (fun v w he k => by cases k; exact ring_spec 4 (by omega) (by omega) w fun b hb => hb.elim)) ?_
  refine en fun a w e' hf => ?_
  replace hT := hT.ext e'
  replace e := Ext.tr e e'
  clear e'
  refine tl_as hf rfl (by decide) fun a hf => ?_
  refine tl_nil ?_
  obtain ⟨gv, hgv, hf⟩ := hf.opn 1 rfl
  obtain ⟨W1, hW1⟩ : ∃ W1, W1 = w := ⟨_, rfl⟩
  have e1 : Ext W1 w := by rw [hW1]; exact Ext.rfl' _
  replace hgv : (Dv (ptE (grE 2000)) Go.Mono.G0 (some (ringG 4))).p gv W1 := by rw [hW1]; exact hgv
  clear hW1
  replace hf := hf.keep [0, 1]
  dsimp only [keep, List.filterMap, look, Nat.beq, Option.map] at hf
  repeat refine seq ?_
  refine regn 6 hf (by decide +kernel) ?_
  refine st (mv rfl) ?_
  refine st (call1 (A := Tup [E (I 2), Dv (slE intE) Go.Mono.G0 [0, 1, 2, 3], E (I 0)]) En11 rfl (fun v w he k => by cases k; have := widthG_spec (ringG 4) gv w (hT.ext he) (VA.st _ _ _ _ (Ext.tr e1 he) hgv) gs1 gs2 hl1 (by omega) (by omega) hsm hcv (K := Go.Mono.G0) fun b hb => hb.elim; rwa [w4, o4] at this)) ?_
  refine st (mv rfl) ?_
  refine st (ext_ rfl rfl) ?_
  refine st (ext_ rfl rfl) ?_
  refine st (ext_ rfl rfl) ?_
  refine en fun a w e' hf => ?_
  replace hT := hT.ext e'
  replace e1 := Ext.tr e1 e'
  replace e := Ext.tr e e'
  clear e'
  refine tl_as hf rfl (by decide) fun a hf => ?_
  refine tl_as hf rfl (by decide) fun a hf => ?_
  refine tl_as hf rfl (by decide) fun a hf => ?_
  refine tl_nil ?_
  replace hf := hf.keep [0, 1, 2, 3, 4]
  dsimp only [keep, List.filterMap, look, Nat.beq, Option.map] at hf
  repeat refine seq ?_
  refine regn 7 hf (by decide +kernel) ?_
  refine st (mv rfl) ?_
  refine st (bsl2 (e := intE) (G := Go.Mono.G0) Tryz.underlying30 I3 rfl (by decide) rfl (fun b hb => hb.elim) (isI rfl) (isI rfl)) ?_
  refine st (call1 (A := E (setV s02)) En22 rfl (fun v w he h => of_spec [(0 : Int), 2] v w h (by decide))) ?_
  refine st (call2 (A := Tup [E (I 2), E (I 0)]) En20 rfl rfl (fun v u w he k k' => by cases k; cases k'; have := prefix_spec (ringG 4) s02 gv w (hT.ext he) (VA.st _ _ _ _ (Ext.tr e1 he) hgv) gs1 gs2 hl1 (by omega) (by omega) hcv; rwa [if_pos q4, if_pos q4, p4] at this)) ?_
  refine st (mv rfl) ?_
  refine st (ext_ rfl rfl) ?_
  refine st (ext_ rfl rfl) ?_
  refine en fun a w e' hf => ?_
  replace hT := hT.ext e'
  replace e1 := Ext.tr e1 e'
  replace e := Ext.tr e e'
  clear e'
  refine tl_as hf rfl (by decide) fun a hf => ?_
  refine tl_as hf rfl (by decide) fun a hf => ?_
  refine tl_nil ?_
  replace hf := hf.keep [0, 1, 2, 3, 4, 5, 6]
  dsimp only [keep, List.filterMap, look, Nat.beq, Option.map] at hf
  have dd : (decide (([0, 1, 2, 3] : List Int) = [0, 1, 2, 3])) = true := by decide
  repeat refine seq ?_
  refine regn 28 hf (by decide +kernel) ?_
  refine st (mv rfl) ?_
  refine st ((eql rfl rfl).eq (congrArg Value.bool (show ((2 : Int) == 2) = true from rfl))) ?_
  refine st (mv rfl) ?_
  refine sy rfl rfl (mv rfl) ?_
  refine sy rfl rfl (bslN (e := intE) (G := Go.Mono.G0) (zs := [0, 1, 2, 3]) (xs := [.const (.int .i64 0), .const (.int .i64 1), .const (.int .i64 2), .const (.int .i64 3)]) Tryz.underlying30 I3 rfl rfl (by decide) (by decide) rfl (fun b hb => hb.elim) ⟨isI rfl, isI rfl, isI rfl, isI rfl, trivial⟩) ?_
  refine sy rfl rfl (call2 (A := E (B true)) En14 rfl rfl (fun v u w he k k' => by have := same23_spec [0, 1, 2, 3] [0, 1, 2, 3] v u w k k' (by decide) (by decide); rwa [dd] at this)) ?_
  refine st (pkT rfl rfl) ?_
  refine st (mv rfl) ?_
  refine sy rfl rfl (mv rfl) ?_
  refine sy rfl rfl ((eql rfl rfl).eq (congrArg Value.bool (show ((0 : Int) == 0) = true from rfl))) ?_
  refine st (pkT rfl rfl) ?_
  refine st (mv rfl) ?_
  refine sy rfl rfl (mv rfl) ?_
  refine sy rfl rfl (bsl1 (e := intE) (G := Go.Mono.G0) Tryz.underlying30 I3 rfl (by decide) rfl (fun b hb => hb.elim) (isI rfl)) ?_
  refine sy rfl rfl (call1 (A := E (setV s0)) En22 rfl (fun v w he h => of_spec [(0 : Int)] v w h (by decide))) ?_
  refine sy rfl rfl (call3 (A := E (setV s23')) En23 rfl rfl rfl (fun v u s w he k k' k'' => by cases k; cases k'; cases k''; have := reachable_spec (ringG 4) s0 1 gv w (hT.ext he) (VA.st _ _ _ _ (Ext.tr e1 he) hgv) gs1 gs2 (by omega) (by omega) (by omega); rwa [r4] at this)) ?_
  refine sy rfl rfl (bsl2 (e := intE) (G := Go.Mono.G0) Tryz.underlying30 I3 rfl (by decide) rfl (fun b hb => hb.elim) (isI rfl) (isI rfl)) ?_
  refine sy rfl rfl (call1 (A := E (setV s23')) En22 rfl (fun v w he h => of_spec [(2 : Int), 3] v w h (by decide))) ?_
  refine sy rfl rfl ((eqlS Tryz.underlying41 Tryz.underlying39 T39 (by kernel_rfl) rfl rfl).eq (congrArg Value.bool (s23_eq))) ?_
  refine st (pkT rfl rfl) ?_
  refine st (mv rfl) ?_
  refine sy rfl rfl (mv rfl) ?_
  refine sy rfl rfl ((eql rfl rfl).eq (congrArg Value.bool (show ((2 : Int) == 2) = true from rfl))) ?_
  refine st (pkT rfl rfl) ?_
  refine st (mv rfl) ?_
  refine sy rfl rfl (mv rfl) ?_
  refine sy rfl rfl ((eql rfl rfl).eq (congrArg Value.bool (show ((0 : Int) == 0) = true from rfl))) ?_
  refine st (pkT rfl rfl) ?_
  refine en fun a w e' hf => ?_
  replace hT := hT.ext e'
  replace e1 := Ext.tr e1 e'
  replace e := Ext.tr e e'
  clear e'
  refine tl_as hf rfl (by decide) fun a hf => ?_
  refine tl_nil ?_
  refine wret ?_
  try simp only [Exit.then, Exit.inBlock]
  refine ret1 rfl hf rfl ?_
  rintro _ rfl
  exact ⟨_, rfl, e, rfl⟩
end Go.Mono

namespace Go.Mono
open Go Go.Proofs Go.RowKit Go.ChangeShapes Go.WideShapes Go.Gr

theorem u8_of' {z : Int} (h : (Lit.int .u8 z).wf = true) : 0 ≤ z ∧ z < 256 := by
  have h1 : IntKind.u8.min = 0 := by decide
  have h2 : IntKind.u8.max = 255 := by decide
  simp only [Lit.wf, h1, h2, Bool.and_eq_true, decide_eq_true_eq] at h
  omega
section
variable {H : Type} {enc : TypeId × Value → H} {w : World} {base : Nat} {spare : Nat → Bool} {held : Bool}
theorem i_cells {n : Nat} {cs : List Value} {x : DataW H × List MemPlace} (h : DataW.trod enc Tryz.prog w base spare held n 3 cs = some x) : ∃ d : Int, cs = [I d] ∧ True := by
  obtain ⟨z0, q0, _, _⟩ := DataW.trod_int Tryz.underlying3 h
  exact ⟨z0, q0, trivial⟩
theorem els_at {α : Type} {c : α → List Value} {k : Nat} (hk : ∀ x, (c x).length = k) {a : Addr} {f : Nat → α} : ∀ (n s : Nat), (∀ i, s ≤ i → i < s + n → ∀ j u, (c (f i))[j]? = some u → w.cell? (a.add (i * k + j)) = some u) → ∀ j u, (((List.range' s n).map f).flatMap c)[j]? = some u → w.cell? (a.add (s * k + j)) = some u
  | 0, s, h, j, u, hu => by simp at hu
  | n + 1, s, h, j, u, hu => by
    have hln := hk (f s)
    rw [List.range'_succ, List.map_cons, List.flatMap_cons] at hu
    by_cases hj : j < k
    · rw [List.getElem?_append_left (by rw [hln]; exact hj)] at hu
      exact h s (Nat.le_refl _) (by omega) j u hu
    · rw [List.getElem?_append_right (by rw [hln]; omega), hln] at hu
      have := els_at hk n (s + 1) (fun i h1 h2 => h i (by omega) (by omega)) (j - k) u hu
      rwa [show (s + 1) * k + (j - k) = s * k + j by rw [Nat.succ_mul]; omega] at this
theorem i_all {G : Nat → Prop} : ∀ l : List Int, Cells intE G w l (l.flatMap fun d => [I d])
  | [] => rfl
  | d :: l => ⟨[I d], l.flatMap fun d => [I d], List.flatMap_cons, rfl, i_all l⟩
set_option maxRecDepth 100000 in
/-- a slice of flat elements, opened -/
theorem open_els {α : Type} [Inhabited α] {e : Enc α} {c : α → List Value} {Q : α → Prop} {k : Nat} {t te : TypeId} (ht : Tryz.prog.underlying t = some (.slice te)) (hte : Tryz.prog.cellsOf te = k) (hk0 : 0 < k) (hk : ∀ x, (c x).length = k)
    (hel : ∀ (n : Nat) (cs : List Value) (x : DataW H × List MemPlace), DataW.trod enc Tryz.prog w 0 spare held n te cs = some x → ∃ d, cs = c d ∧ Q d) (hall' : ∀ l : List α, Cells e Go.Mono.G0 w l (l.flatMap c))
    {v : Value} {x : DataW H × List MemPlace} {fuel b0 : Nat} (hok : Value.okWide Tryz.prog w .any b0 t v) (hf : DataW.trod enc Tryz.prog w 0 spare held fuel t v.cells.toList = some x) : ∃ l : List α, (Dv (slE e) Go.Mono.G0 l).p v w ∧ ∀ d ∈ l, Q d := by
  obtain ⟨a0, n0, c0, rfl⟩ := okWide_slice ht hok
  rcases Deep.open_slice ht hf with ⟨hcs, _⟩ | ⟨a, len, cap, m, n, D, Pl, hcs, _, hlc, _, hm, _, hall⟩
  · simp [Value.cells] at hcs
    obtain ⟨rfl, rfl, rfl⟩ := hcs
    exact ⟨[], Dv.nil, by simp⟩
  · simp [Value.cells] at hcs
    obtain ⟨rfl, rfl, rfl⟩ := hcs
    have hlm : n0 ≤ m := by rw [hm]; split <;> omega
    have each : ∀ i, i < n0 → ∃ b : α, Q b ∧ ∀ j u, (c b)[j]? = some u → w.cell? (a.add (i * k + j)) = some u := by
      intro i hi
      obtain ⟨cs', h1, h2⟩ := hall i (by omega)
      rw [hte] at h1
      obtain ⟨_, hlen, hcell⟩ := World.cells?_some h1
      obtain ⟨b, rfl, hb⟩ := hel _ _ _ h2
      refine ⟨b, hb, fun j u hu => ?_⟩
      have hj : j < k := by have := (List.getElem?_eq_some_iff.1 hu).1; rwa [hk] at this
      have := hcell j hj
      rw [Deep.add_add] at this
      rw [this]; exact hu
    obtain ⟨f, hf'⟩ := Deep.choose_lt each
    by_cases h0 : n0 = 0
    · subst h0
      have hb : a.block < w.heap.size := by
        have h1 : Cell.ok Tryz.prog w .any b0 t (.slice (some a) 0 c0) := by
          have := hok
          simpa [Value.okWide, Cell.okWide, ht] using this
        have h2 : 0 ≤ c0 ∧ (c0 : Int) ≤ IntKind.i64.max ∧ w.has Tryz.prog .any b0 a te c0 := by
          simpa [Cell.ok, ht] using h1
        have h3 := h2.2.2.2.2
        obtain ⟨row, h3⟩ := h3
        obtain ⟨cells, h3⟩ := h3
        have h4 := h3.1
        apply Classical.byContradiction
        intro hn
        have : w.heap[a.block]? = none := Array.getElem?_eq_none (by omega)
        simp [World.shape?, this] at h4
      exact ⟨[], Dv.sl.2 (.inr ⟨a, c0, [], rfl, by simp, fun hg => hg.elim, hb, rfl, fun j u hu => by simp at hu⟩), by simp⟩
    · refine ⟨(List.range n0).map f, Dv.sl.2 (.inr ⟨a, c0, ((List.range n0).map f).flatMap c, by simp, by simpa using hlc, fun hg => hg.elim, ?_, hall' _, fun j u hu => ?_⟩), ?_⟩
      · obtain ⟨u, hu⟩ : ∃ u, (c (f 0))[0]? = some u := ⟨_, List.getElem?_eq_getElem (by rw [hk]; exact hk0)⟩
        have := (hf' 0 (by omega)).2 0 u hu
        have := World.block_lt_of_cell? w _ this
        simpa [add_block] using this
      · rw [List.range_eq_range'] at hu
        have := els_at (w := w) hk (a := a) (f := f) n0 0 (fun i _ hi j u hu => (hf' i (by omega)).2 j u hu) j u hu
        simpa using this
      · intro d hd
        obtain ⟨i, hi, rfl⟩ := List.mem_map.1 hd
        exact (hf' i (List.mem_range.1 hi)).1
set_option maxRecDepth 100000 in
/-- THE ARGUMENT, OPENED -/
theorem open_ints {v : Value} {d : DataW H} {ps : List MemPlace} {b0 : Nat} (hok : Value.okWide Tryz.prog w .any b0 30 v) (h : DataW.Trod enc Tryz.prog w 0 spare held 30 v d ps) : ∃ l : List Int, (Dv (slE intE) Go.Mono.G0 l).p v w := by
  obtain ⟨fuel, hf⟩ := h
  obtain ⟨l, h1, _⟩ := open_els (e := intE) (c := fun d => [I d]) (Q := fun _ => True) (k := 1) Tryz.underlying30 cellsInt (by decide) (fun _ => rfl) (fun n cs x h => i_cells h) i_all hok hf
  exact ⟨l, h1⟩
end
end Go.Mono

namespace Go.Proofs.YtnknjdnfbaaeoaaGreatDoor
open Go Go.ChangeShapes Go.WideShapes Go.ChangeAt Go.RowKit

theorem own : ownKnob Tryz.prog.godebug = none := by kernel_rfl
theorem laidOut : laidOutB Tryz.prog = true := by kernel_rfl
theorem tabG : Tryz.prog.globalNamed "math/bits.deBruijn64tab" = some 0 := by kernel_rfl
theorem tabT : (Tryz.prog.globals[0]?).map (·.type) = some 139 := by kernel_rfl
theorem tabC : Tryz.prog.cellsOf 139 = 64 := by kernel_rfl
theorem tabE : Tryz.prog.cellsOf 5 = 1 := by kernel_rfl
/-- the table, from the row's condition -/
theorem tab_of_laid {W : World} (h : laidMet Tryz.prog [("math/bits.deBruijn64tab", Rows.laid_math_bits_deBruijn64tab)] W) : Mono.Tab W := by
  have h2 := Lib.tabIs_of_head (k := .u8) (zs := Mono.tabZ.map fun n : Nat => (n : Int)) (rest := []) tabG tabT Tryz.underlying139 Tryz.underlying5 tabE tabC (show laidMet Tryz.prog (("math/bits.deBruijn64tab", Lib.tabData .u8 (Mono.tabZ.map fun n : Nat => (n : Int))) :: []) W from h)
  intro i hi
  rw [h2.cell tabG i (by simpa [Mono.tabZ] using hi)]
  congr 2
  simp [List.getD, List.getElem?_map]
  cases Mono.tabZ[i]? <;> rfl
/-- a world in which the table is laid -/
noncomputable def tabWorld (os : Os) : World :=
  let w0 := World.holding Tryz.prog os ⟨#[], #[], []⟩
  { w0 with heap := w0.heap.modify 0 fun
      | .cells _ t frozen => .cells (Mono.tabZ.map fun n : Nat => Value.int .u8 (n : Int)).toArray t frozen
      | o => o }
theorem tab_met (os : Os) (args : Array Value) : laidMet Tryz.prog [("math/bits.deBruijn64tab", Rows.laid_math_bits_deBruijn64tab)] ((tabWorld os).forCall (fun _ _ => 0) ⟨#[], args, []⟩).memory :=
  laidMet_of_run' 8 (by kernel_rfl) (by kernel_rfl)
end Go.Proofs.YtnknjdnfbaaeoaaGreatDoor

namespace Go.Mono
open Go Go.Proofs Go.RowKit Go.Gr

end Go.Mono

namespace Go.Mono
open Go Go.Proofs Go.RowKit Go.Gr
end Go.Mono

namespace Go.Mono
open Go Go.Proofs Go.RowKit Go.Gr

/-- Build, at a valid graph -/
theorem build_post {G : Nat → Prop} (g : GT) (hg : Gr.Ok g) (v u : Value) (W : World) (h1 : (Dv (slE vtE) G g.1).p v W) (h2 : (Dv (slE etE) G g.2).p u W) (hl1 : g.1.length ≤ 1000) (hl2 : g.2.length ≤ 1000) {K : Nat → Prop} (hK : ∀ b, K b → b < W.heap.size) :
    Calls Tryz.prog 21 #[v, u] W (Post (Tup [Dv (ptE (grE 2000)) K (some g), E (I 0)]) W) :=
  Calls.mono (build_spec g.1 g.2 v u W h1 h2 (by omega) (by omega) (okD_V hg) (okD_E hg)) fun en w' ⟨e, hq⟩ => by
    obtain ⟨g', k1, k2, k3⟩ := bld_ok hg
    rcases hq with ⟨g2, b1, b2, b3, q1, rfl, q3, q4, q5, q6⟩ | ⟨c, q0, q1, _⟩
    · rw [k1] at q1; cases q1
      exact ⟨_, rfl, e, Tup.two ((q6.perm k2 k3).dv (by omega) (fun h => by have := hK _ h; omega) (fun h => by have := hK _ h; omega) (fun h => by have := hK _ h; omega)) rfl⟩
    · rw [k1] at q1; cases q1
end Go.Mono

namespace Go.Mono
open Go Go.Proofs Go.RowKit Go.Gr
end Go.Mono

namespace Go.Mono
open Go Go.RowKit
def bC (n : Nat) (f : Nat → Bool) : Array Value := ((List.range n).map fun j => Value.bool (f j)).toArray
theorem bC_size (n : Nat) (f : Nat → Bool) : (bC n f).size = n := by simp [bC]
theorem bC_get {n i : Nat} {f : Nat → Bool} (h : i < n) : (bC n f)[i]? = some (.bool (f i)) := by simp [bC, h]
theorem bC_congr {n : Nat} {f g : Nat → Bool} (h : ∀ i, i < n → f i = g i) : bC n f = bC n g := by
  unfold bC
  congr 1
  exact List.map_congr_left fun i hi => by rw [h i (List.mem_range.1 hi)]
theorem bC_set (n : Nat) (f : Nat → Bool) (j : Nat) (b : Bool) : (bC n f).setIfInBounds j (.bool b) = bC n (fun i => if i = j then b else f i) := by
  apply Array.ext_getElem?
  intro i
  by_cases hi : i < n
  · rw [bC_get hi]
    by_cases hk : i = j
    · subst hk
      rw [Array.getElem?_setIfInBounds_self_of_lt (by rw [bC_size]; exact hi)]
      simp
    · rw [Array.getElem?_setIfInBounds_ne (Ne.symm hk), bC_get hi]
      simp [hk]
  · rw [Array.getElem?_eq_none (by simp [bC_size]; omega), Array.getElem?_eq_none (by simp [bC_size]; omega)]
def oC (n k : Nat) (rb : Nat → Nat) : Array Value := ((List.range n).map fun i => if i < k then Value.slice (some ⟨rb i, 0, none⟩) n n else .slice none 0 0).toArray
theorem oC_size (n k : Nat) (rb : Nat → Nat) : (oC n k rb).size = n := by simp [oC]
theorem oC_get {n k i : Nat} {rb : Nat → Nat} (h : i < k) (hk : k ≤ n) : (oC n k rb)[i]? = some (.slice (some ⟨rb i, 0, none⟩) n n) := by
  have : i < n := by omega
  simp [oC, h, this]
def adB (rb : Nat → Nat) (k b : Nat) : Nat → Nat := fun i => if i = k then b else rb i
theorem oC_set {n k b : Nat} {rb : Nat → Nat} (hk : k < n) : (oC n k rb).setIfInBounds k (.slice (some ⟨b, 0, none⟩) n n) = oC n (k + 1) (adB rb k b) := by
  apply Array.ext_getElem?
  intro i
  by_cases hi : i < n
  · by_cases hik : i = k
    · subst hik
      rw [Array.getElem?_setIfInBounds_self_of_lt (by rw [oC_size]; exact hi), oC_get (Nat.lt_succ_self _) hi]
      simp [adB]
    · rw [Array.getElem?_setIfInBounds_ne (Ne.symm hik)]
      by_cases h : i < k
      · rw [oC_get h (by omega), oC_get (show i < k + 1 by omega) (by omega)]
        simp [adB, hik]
      · have h' : ¬ i < k + 1 := by omega
        simp [oC, hi, h, h']
  · rw [Array.getElem?_eq_none (by simp [oC_size]; omega), Array.getElem?_eq_none (by simp [oC_size]; omega)]
/-- a square of truth values, of which k rows are made -/
structure MatR (tr tb : TypeId) (N n k : Nat) (rb : Nat → Nat) (M : Nat → Nat → Bool) (bo : Nat) (w : World) : Prop where
  o : Blk w bo (oC n k rb) tr
  r : ∀ i, i < k → Blk w (rb i) (bC n (M i)) tb
  d : ∀ i j, i < k → j < k → rb i = rb j → i = j
  lo : N ≤ bo ∧ ∀ i, i < k → N ≤ rb i
  ty : tr ≠ tb
section
variable {tr tb : TypeId} {N n k : Nat} {rb : Nat → Nat} {M M' : Nat → Nat → Bool} {bo : Nat} {w w' : World}
theorem Blk.tyNe {a b : Nat} {cs cs' : Array Value} {t t' : TypeId} (h : Blk w a cs t) (h' : Blk w b cs' t') (ht : t ≠ t') : a ≠ b := by
  rintro rfl
  unfold Blk at h h'
  rw [h] at h'
  cases h'; exact ht rfl
theorem MatR.gro (h : MatR tr tb N n k rb M bo w) {row : Option Nat} (hg : w.grownBy w' row) (h0 : row ≠ some bo) (h1 : ∀ i, i < k → row ≠ some (rb i)) : MatR tr tb N n k rb M bo w' :=
  ⟨(hg.block bo h.o.lt (fun e => h0 e.symm)).trans h.o, fun i hi => (hg.block _ (h.r i hi).lt (fun e => h1 i hi e.symm)).trans (h.r i hi), h.d, h.lo, h.ty⟩
theorem MatR.ext (h : MatR tr tb N n k rb M bo w) (e : Ext w w') : MatR tr tb N n k rb M bo w' := ⟨h.o.ext e, fun i hi => (h.r i hi).ext e, h.d, h.lo, h.ty⟩
theorem MatR.congr (h : MatR tr tb N n k rb M bo w) (hM : ∀ i, i < k → ∀ j, j < n → M i j = M' i j) : MatR tr tb N n k rb M' bo w :=
  ⟨h.o, fun i hi => by rw [← bC_congr (hM i hi)]; exact h.r i hi, h.d, h.lo, h.ty⟩
theorem MatR.add (h : MatR tr tb N n k rb M bo w) {b : Nat} {f : Nat → Bool} (hb : Blk w b (bC n f) tb) (hn : ∀ i, i < k → rb i ≠ b) (hN : N ≤ b) (hk : k < n) (hg : w.grownBy w' (some bo)) (ho : Blk w' bo ((oC n k rb).setIfInBounds k (.slice (some ⟨b, 0, none⟩) n n)) tr) :
    MatR tr tb N n (k + 1) (adB rb k b) (fun i => if i = k then f else M i) bo w' := by
  refine ⟨by rw [← oC_set hk]; exact ho, fun i hi => ?_, fun i j hi hj hij => ?_, ⟨h.lo.1, fun i hi => ?_⟩, h.ty⟩
  · by_cases hik : i = k
    · subst hik
      simp only [adB, if_true]
      exact hb.gr hg fun e => h.o.tyNe hb h.ty e.symm
    · simp only [adB, if_neg hik]
      exact (h.r i (by omega)).gr hg fun e => h.o.tyNe (h.r i (by omega)) h.ty e.symm
  · by_cases hik : i = k <;> by_cases hjk : j = k
    · omega
    · simp only [adB, if_neg hjk, hik, if_true] at hij
      exact absurd hij.symm (hn j (by omega))
    · simp only [adB, if_neg hik, hjk, if_true] at hij
      exact absurd hij (hn i (by omega))
    · simp only [adB, if_neg hik, if_neg hjk] at hij
      exact h.d i j (by omega) (by omega) hij
  · by_cases hik : i = k
    · simp only [adB, hik, if_true]; exact hN
    · simp only [adB, if_neg hik]; exact h.lo.2 i (by omega)
def upM (M : Nat → Nat → Bool) (i j : Nat) (b : Bool) : Nat → Nat → Bool := fun a c => if a = i ∧ c = j then b else M a c
theorem MatR.put (h : MatR tr tb N n k rb M bo w) {i j : Nat} {b : Bool} (hi : i < k) (hg : w.grownBy w' (some (rb i))) (hb : Blk w' (rb i) ((bC n (M i)).setIfInBounds j (.bool b)) tb) : MatR tr tb N n k rb (upM M i j b) bo w' := by
  refine ⟨h.o.gr hg (h.o.tyNe (h.r i hi) h.ty), fun a ha => ?_, h.d, h.lo, h.ty⟩
  by_cases hai : a = i
  · subst hai
    rw [bC_set] at hb
    rw [show (upM M a j b a) = fun c => if c = j then b else M a c from funext fun c => by simp [upM]]
    exact hb
  · rw [show upM M i j b a = M a from funext fun c => by simp [upM, hai]]
    exact (h.r a ha).gr hg fun e => hai (h.d a i ha hi e)
theorem MatR.ne (h : MatR tr tb N n k rb M bo w) {b : Nat} {cs : Array Value} {t : TypeId} (hb : Blk w b cs t) (h1 : t ≠ tr) (h2 : t ≠ tb) : b ≠ bo ∧ ∀ i, i < k → b ≠ rb i :=
  ⟨hb.tyNe h.o h1, fun i hi => hb.tyNe (h.r i hi) h2⟩
end
end Go.Mono

namespace Go.Mono
open Go Go.Proofs Go.RowKit Go.Gr

end Go.Mono

namespace Go.Mono
open Go Go.Proofs Go.RowKit Go.Gr

end Go.Mono

namespace Go.Mono
open Go Go.Proofs Go.RowKit Go.Gr

section
variable {g : GT}
end
end Go.Mono

namespace Go.Mono
open Go Go.RowKit
theorem run_equalIn_pp {P : Program} (w : World) (d : Nat) (t : TypeId) (p q : Option Addr) (h : P.underlying t = some (.pointer (P.pointee t))) (hpq : p = none ∨ q = none) : (Op.equalIn (d + 1) t (.pointer p) (.pointer q)).run P w = .ok (p.isNone && q.isNone) w := by
  rcases hpq with rfl | rfl
  · cases q <;> simp [Op.equalIn, run_underlying h]
  · cases p <;> simp [Op.equalIn, run_underlying h]
theorem run_equal_pp {P : Program} (w : World) (t : TypeId) (p q : Option Addr) (h : P.underlying t = some (.pointer (P.pointee t))) (hpq : p = none ∨ q = none) : (Op.equal t (.pointer p) (.pointer q)).run P w = .ok (p.isNone && q.isNone) w := run_equalIn_pp w 9999 t p q h hpq
theorem eqlPP {P : Program} {w0 : World} {L : Env} {dst : Option Tmp} {ty : TypeId} {pos : String} {aft : Array Edge} {g : Option (Nat × Bool)} {x y : Operand} {t yt pe : TypeId} {p q : Option Addr} (ht0 : P.underlying t = some (.pointer pe)) (hx : opd L x = some (E (.pointer p))) (hy : opd L y = some (E (.pointer q))) (hpq : p = none ∨ q = none) :
    OpC P w0 L ⟨dst, .binOp .eql t x y yt, ty, pos, aft, g⟩ (E (.bool (p.isNone && q.isNone))) :=
  opc_eql hx hy (fun w => rfl) rfl fun w _ => run_equal_pp w t p q (ptee ht0) hpq
end Go.Mono

namespace Go.Mono
open Go Go.Proofs Go.RowKit Go.Gr
theorem diff_zero (V : BS) (i : Nat) : (V &&& ~~~(0 : BS)).getLsbD i = true ↔ V.getLsbD i = true := by
  rw [bit_diff]
  exact ⟨fun h => h.1, fun h => ⟨h, bit_zero i⟩⟩
section
variable {g : GT}
end
end Go.Mono

namespace Go.Mono
open Go Go.Proofs Go.RowKit Go.Gr
/-- a set of sets from which every cheap step leads into the set again -/
def lowB (nb : Int → BS) (all : BS) (k : Int) (l : List BS) : Bool :=
  l.all fun S => !(elems (all &&& ~~~S)).isEmpty && (elems (all &&& ~~~S)).all fun v => decide (k ≤ rn nb S v) || l.contains (ins S (v : Int))
theorem low_cert {nb : Int → BS} {all : BS} {k : Int} {l : List BS} (hs : Sml nb all) (h : lowB nb all k l = true) : ∀ (n : Nat) (S : BS), card (all &&& ~~~S) = n → S ∈ l → k ≤ rsR nb all S := by
  intro n
  induction n with
  | zero =>
    intro S hc hS
    have h1 := List.all_eq_true.1 h S hS
    rw [Bool.and_eq_true, Bool.not_eq_true', List.isEmpty_eq_false_iff] at h1
    have := List.length_pos_iff.2 h1.1
    rw [card_elems, hc] at this
    omega
  | succ n ih =>
    intro S hc hS
    have h1 := List.all_eq_true.1 h S hS
    rw [Bool.and_eq_true, Bool.not_eq_true', List.isEmpty_eq_false_iff] at h1
    obtain ⟨h2, h3⟩ := h1
    obtain ⟨u, hu⟩ := List.exists_mem_of_ne_nil _ h2
    obtain ⟨v, hv, he⟩ := (rsR_ex hs _ S rfl).2.2 u (mem_elems.1 hu).2
    have h4 := List.all_eq_true.1 h3 v (mem_elems.2 ⟨bit_lt hv, hv⟩)
    rw [Bool.or_eq_true, decide_eq_true_eq] at h4
    rcases h4 with h4 | h4
    · omega
    · have h5 := ih (ins S (v : Int)) (by have := card_diff hv; omega) (by simpa using h4)
      omega
/-- a graph whose least width is k, by a test: l0, V: the neighbour sets and the vertices -/
def twB (l0 : List (Int × BS)) (V : BS) (k : Int) (o : List Nat) (l : List BS) : Bool :=
  decide (widL (lkS l0) 0 o ≤ k) && decide (o.Nodup) && (elems V).all (fun i => o.contains i) && o.all (fun i => V.getLsbD i) && l.contains 0 && lowB (lkS l0) V k l
theorem tw_of {g : GT} (G : Gr.Ok g) (hl : g.1.length ≤ 12) {l0 : List (Int × BS)} {V : BS} (h0 : nbL g (elems (vset g.1)) = l0) (hV : vset g.1 = V) {k : Int} {o : List Nat} {l : List BS} (h : twB l0 V k o l = true) : rsR (nbA g) (vset g.1) 0 = k := by
  rw [twB, Bool.and_eq_true, Bool.and_eq_true, Bool.and_eq_true, Bool.and_eq_true, Bool.and_eq_true, decide_eq_true_eq, decide_eq_true_eq, List.all_eq_true, List.all_eq_true] at h
  obtain ⟨⟨⟨⟨⟨h1, h2⟩, h3⟩, h4⟩, h5⟩, h6⟩ := h
  have hs := sml_ok G hl (all := vset g.1) fun i h => h
  have hn : nbA g = lkS l0 := by rw [nbA, h0]
  rw [hn, hV] at hs ⊢
  have a1 := low_cert hs h6 _ 0 rfl (by simpa using h5)
  have a2 := rsR_low (nb := lkS l0) (all := V) o 0 h2 fun i => by
    rw [diff_zero]
    exact ⟨fun h => h4 i h, fun h => by have := h3 i (mem_elems.2 ⟨bit_lt h, h⟩); simpa using this⟩
  omega
def ringL : Nat → List (Int × BS)
  | 3 => [(0, 6#1024), (1, 5#1024), (2, 3#1024)]
  | 4 => [(0, 10#1024), (1, 5#1024), (2, 10#1024), (3, 5#1024)]
  | 5 => [(0, 18#1024), (1, 5#1024), (2, 10#1024), (3, 20#1024), (4, 9#1024)]
  | 6 => [(0, 34#1024), (1, 5#1024), (2, 10#1024), (3, 20#1024), (4, 40#1024), (5, 17#1024)]
  | 7 => [(0, 66#1024), (1, 5#1024), (2, 10#1024), (3, 20#1024), (4, 40#1024), (5, 80#1024), (6, 33#1024)]
  | 8 => [(0, 130#1024), (1, 5#1024), (2, 10#1024), (3, 20#1024), (4, 40#1024), (5, 80#1024), (6, 160#1024), (7, 65#1024)]
  | 9 => [(0, 258#1024), (1, 5#1024), (2, 10#1024), (3, 20#1024), (4, 40#1024), (5, 80#1024), (6, 160#1024), (7, 320#1024), (8, 129#1024)]
  | 10 => [(0, 514#1024), (1, 5#1024), (2, 10#1024), (3, 20#1024), (4, 40#1024), (5, 80#1024), (6, 160#1024), (7, 320#1024), (8, 640#1024), (9, 257#1024)]
  | 11 => [(0, 1026#1024), (1, 5#1024), (2, 10#1024), (3, 20#1024), (4, 40#1024), (5, 80#1024), (6, 160#1024), (7, 320#1024), (8, 640#1024), (9, 1280#1024), (10, 513#1024)]
  | 12 => [(0, 2050#1024), (1, 5#1024), (2, 10#1024), (3, 20#1024), (4, 40#1024), (5, 80#1024), (6, 160#1024), (7, 320#1024), (8, 640#1024), (9, 1280#1024), (10, 2560#1024), (11, 1025#1024)]
  | _ => []
theorem ring_nb : (List.range 10).all (fun i => decide (nbL (ringG (i + 3)) (elems (vset (ringG (i + 3)).1)) = ringL (i + 3)) && decide (vset (ringG (i + 3)).1 = BitVec.ofNat 1024 (2 ^ (i + 3) - 1))) = true := by decide +kernel
theorem ring_tw : (List.range 10).all (fun i => twB (ringL (i + 3)) (BitVec.ofNat 1024 (2 ^ (i + 3) - 1)) 2 (List.range (i + 3)) [0]) = true := by decide +kernel
/-- a cycle of at most 12 vertices has treewidth 2 -/
theorem ring_two {n : Nat} (h3 : 3 ≤ n) (hn : n ≤ 12) : rsR (nbA (ringG n)) (vset (ringG n).1) 0 = 2 := by
  have h1 := List.all_eq_true.1 ring_nb (n - 3) (List.mem_range.2 (by omega))
  have h2 := List.all_eq_true.1 ring_tw (n - 3) (List.mem_range.2 (by omega))
  rw [show n - 3 + 3 = n by omega] at h1 h2
  rw [Bool.and_eq_true, decide_eq_true_eq, decide_eq_true_eq] at h1
  exact tw_of (ring_gok h3 (by omega)) (by show (ringV n).length ≤ 12; rw [ringV, List.length_map, List.length_range]; exact hn) h1.1 h1.2 h2
def gridR (i : Nat) : List ET := if i % 3 < 2 then [(((i : Int), (i : Int) + 1), (0, 0))] else []
def gridD (i : Nat) : List ET := if i < 6 then [(((i : Int), (i : Int) + 3), (0, 0))] else []
def gridTo (k : Nat) : List ET := (List.range k).flatMap fun i => gridR i ++ gridD i
theorem gridTo_succ (k : Nat) : gridTo (k + 1) = gridTo k ++ gridR k ++ gridD k := by
  rw [gridTo, List.range_succ, List.flatMap_append, ← gridTo, List.append_assoc]
  simp
theorem gridTo_len (k : Nat) : (gridTo k).length ≤ 2 * k := by
  induction k with
  | zero => exact Nat.le_refl _
  | succ k ih =>
    rw [gridTo_succ, List.length_append, List.length_append]
    have h1 : (gridR k).length ≤ 1 := by unfold gridR; split <;> simp
    have h2 : (gridD k).length ≤ 1 := by unfold gridD; split <;> simp
    omega
def gridG : GT := (ringV 9, gridTo 9)
theorem grid_gok : Gr.Ok gridG := gok_of (by decide +kernel)
def gridL : List (Int × BS) := [(0, 10#1024), (1, 21#1024), (2, 34#1024), (3, 81#1024), (4, 170#1024), (5, 276#1024), (6, 136#1024), (7, 336#1024), (8, 160#1024)]
theorem grid_nb : nbL gridG (elems (vset gridG.1)) = gridL := by decide +kernel
theorem grid_v : vset gridG.1 = 511#1024 := by decide +kernel
def cornersL : List BS := [0#1024, 1#1024, 4#1024, 5#1024, 64#1024, 65#1024, 68#1024, 69#1024, 256#1024, 257#1024, 260#1024, 261#1024, 320#1024, 321#1024, 324#1024, 325#1024]
theorem grid_tw : twB gridL 511#1024 3 [0, 2, 6, 8, 1, 3, 4, 5, 7] cornersL = true := by decide +kernel
/-- the grid has treewidth 3 -/
theorem grid_three : rsR (nbA gridG) (vset gridG.1) 0 = 3 := tw_of grid_gok (by decide) grid_nb grid_v grid_tw
end Go.Mono

namespace Go.Mono
open Go Go.Proofs Go.RowKit Go.Gr
theorem tcheckN_spec (W : World) : Calls Tryz.prog 32 #[.pointer none] W (Post (E (I 1)) W) := by
  refine enter (args := [.pointer none]) (As := [E (.pointer none)]) Tryz.func32 rfl Tryz.ntmps32 (Nat.le_of_ble_eq_true rfl) ?_ (fun a hf => ?_) (Nat.le_of_ble_eq_true rfl)
  rotate_left
  dsimp only [params, Nat.reduceAdd] at hf
  rotate_right
  · exact arg1 rfl
  have e := Ext.rfl' W
  repeat refine seq ?_
  refine regn0 ?_
  refine tl_as hf rfl (by decide) fun a hf => ?_
  refine tl_nil ?_
  repeat refine seq ?_
  refine regn 2 hf (by decide +kernel) ?_
  refine st (mv rfl) ?_
  refine st (eqlPP Tryz.underlying26 rfl rfl (.inl rfl)) ?_
  refine en fun a w e' hf => ?_
  replace e := Ext.tr e e'
  clear e'
  refine tl_nil ?_
  repeat refine seq ?_
  refine ifc hf rfl (fun _ => ?_) (fun h => by cases h)
  repeat refine seq ?_
  refine regn0 ?_
  refine tl_as hf rfl (by decide) fun a hf => ?_
  refine tl_nil ?_
  refine wret ?_
  try simp only [Exit.then, Exit.inBlock]
  refine ret1 rfl hf rfl ?_
  rintro _ rfl
  exact ⟨_, rfl, e, rfl⟩
theorem widthE_spec (v : Value) (c : Int) (hc : c ≠ 0) (W : World) (h : ∀ w, Ext W w → Calls Tryz.prog 32 #[v] w (Post (E (I c)) w)) :
    Calls Tryz.prog 11 #[v] W (Post (Tup [E (I 0), Dv (slE intE) Go.Mono.G0 [], E (I c)]) W) := by
  refine enterM (args := [v]) (As := [E v]) Tryz.func11 rfl Tryz.ntmps11 (Nat.le_of_ble_eq_true rfl) ?_ (fun a hf => ?_) (Nat.le_of_ble_eq_true rfl)
  · exact arg1 rfl
  dsimp only [params, Nat.reduceAdd] at hf
  have e := Ext.rfl' W
  repeat refine seq ?_
  refine regn0 ?_
  refine tl_as hf rfl (by decide) fun a hf => ?_
  refine tl_as hf rfl (by decide) fun a hf => ?_
  refine tl_as hf rfl (by decide) fun a hf => ?_
  refine tl_nil ?_
  have e1 := e
  repeat refine seq ?_
  refine regn 2 hf (by decide +kernel) ?_
  refine st (mv rfl) ?_
  refine st (call1 (A := E (I c)) En32 rfl (fun v w he k => by cases k; exact h w (Ext.tr e1 he))) ?_
  refine en fun a w e' hf => ?_
  replace e := Ext.tr e e'
  clear e'
  refine tl_as hf rfl (by decide) fun a hf => ?_
  refine tl_nil ?_
  repeat refine seq ?_
  refine regn 2 hf (by decide +kernel) ?_
  refine st (mv rfl) ?_
  refine st ((neq rfl rfl).eq (congrArg Value.bool ((bne_iff_ne.2 hc : (c != 0) = true)))) ?_
  refine en fun a w e' hf => ?_
  replace e := Ext.tr e e'
  clear e'
  refine tl_nil ?_
  repeat refine seq ?_
  refine ifc hf rfl (fun _ => ?_) (fun h => by cases h)
  repeat refine seq ?_
  refine regn 1 hf (by decide +kernel) ?_
  refine st (mv rfl) ?_
  refine en fun a w e' hf => ?_
  replace e := Ext.tr e e'
  clear e'
  refine tl_as hf rfl (by decide) fun a hf => ?_
  refine tl_as hf rfl (by decide) fun a hf => ?_
  refine tl_as hf rfl (by decide) fun a hf => ?_
  refine tl_nil ?_
  refine wret ?_
  try simp only [Exit.then, Exit.inBlock]
  exact ret3M (D := []) rfl hf rfl rfl rfl (Ds.nil _) ⟨_, rfl, e, Tup.three rfl Dv.nil rfl⟩
theorem prefixE_spec (v : Value) (S : BS) (c : Int) (hc : c ≠ 0) (W : World) (h : ∀ w, Ext W w → Calls Tryz.prog 32 #[v] w (Post (E (I c)) w)) :
    Calls Tryz.prog 20 #[v, setV S] W (Post (Tup [E (I 0), E (I c)]) W) := by
  refine enter (args := [v, setV S]) (As := [E v, E (setV S)]) Tryz.func20 rfl Tryz.ntmps20 (Nat.le_of_ble_eq_true rfl) ?_ (fun a hf => ?_) (Nat.le_of_ble_eq_true rfl)
  rotate_left
  dsimp only [params, Nat.reduceAdd] at hf
  rotate_right
  · exact arg2 rfl rfl
  have e := Ext.rfl' W
  repeat refine seq ?_
  refine regn0 ?_
  refine tl_box hf rfl (by decide) fun a b3 w v3 hv3 e' hb3 hs3 B3 hf => ?_
  have hle3 := Nat.le_trans e.size (Nat.le_of_eq hb3.symm)
  replace e := Ext.tr e e'
  clear e'
  refine tl_as hf rfl (by decide) fun a hf => ?_
  refine tl_as hf rfl (by decide) fun a hf => ?_
  refine tl_nil ?_
  replace hf := hf.keep [0, 4, 5]
  dsimp only [keep, List.filterMap, look, Nat.beq, Option.map] at hf
  have e1 := e
  repeat refine seq ?_
  refine regn 2 hf (by decide +kernel) ?_
  refine st (mv rfl) ?_
  refine st (call1 (A := E (I c)) En32 rfl (fun v w he k => by cases k; exact h w (Ext.tr e1 he))) ?_
  refine en fun a w e' hf => ?_
  replace e := Ext.tr e e'
  replace B3 := B3.ext e'
  clear e'
  refine tl_as hf rfl (by decide) fun a hf => ?_
  refine tl_nil ?_
  repeat refine seq ?_
  refine blk ?_
  repeat refine seq ?_
  refine regn 2 hf (by decide +kernel) ?_
  refine st (mv rfl) ?_
  refine st ((neq rfl rfl).eq (congrArg Value.bool ((bne_iff_ne.2 hc : (c != 0) = true)))) ?_
  refine en fun a w e' hf => ?_
  replace e := Ext.tr e e'
  replace B3 := B3.ext e'
  clear e'
  refine tl_as hf rfl (by decide) fun a hf => ?_
  refine tl_nil ?_
  repeat refine seq ?_
  refine ifc hf rfl (fun _ => ?_) (fun h => by cases h)
  repeat refine seq ?_
  refine regn 1 hf (by decide +kernel) ?_
  refine st (mv rfl) ?_
  refine en fun a w e' hf => ?_
  replace e := Ext.tr e e'
  replace B3 := B3.ext e'
  clear e'
  refine tl_as hf rfl (by decide) fun a hf => ?_
  refine tl_as hf rfl (by decide) fun a hf => ?_
  refine tl_nil ?_
  refine wret ?_
  try simp only [Exit.then, Exit.inBlock]
  refine ret2 rfl hf rfl rfl ?_
  rintro _ _ rfl rfl
  exact ⟨_, rfl, e, Tup.two rfl rfl⟩
theorem atMostE_spec (v : Value) (k : Int) (c : Int) (hc : c ≠ 0) (W : World) (h : ∀ w, Ext W w → Calls Tryz.prog 32 #[v] w (Post (E (I c)) w)) :
    Calls Tryz.prog 18 #[v, I k] W (Post (Tup [E (B false), E (I c)]) W) := by
  refine enter (args := [v, I k]) (As := [E v, E (I k)]) Tryz.func18 rfl Tryz.ntmps18 (Nat.le_of_ble_eq_true rfl) ?_ (fun a hf => ?_) (Nat.le_of_ble_eq_true rfl)
  rotate_left
  dsimp only [params, Nat.reduceAdd] at hf
  rotate_right
  · exact arg2 rfl rfl
  have e := Ext.rfl' W
  repeat refine seq ?_
  refine regn0 ?_
  refine tl_as hf rfl (by decide) fun a hf => ?_
  refine tl_as hf rfl (by decide) fun a hf => ?_
  refine tl_nil ?_
  have e1 := e
  repeat refine seq ?_
  refine regn 6 hf (by decide +kernel) ?_
  refine st (mv rfl) ?_
  refine st (call1 (A := Tup [E (I 0), Dv (slE intE) Go.Mono.G0 [], E (I c)]) En11 rfl (fun v w he k => by cases k; exact widthE_spec _ c hc w fun w' e' => h w' (Ext.tr (Ext.tr e1 he) e'))) ?_
  refine st (mv rfl) ?_
  refine st (ext_ rfl rfl) ?_
  refine st (ext_ rfl rfl) ?_
  refine st (ext_ rfl rfl) ?_
  refine en fun a w e' hf => ?_
  replace e := Ext.tr e e'
  clear e'
  refine tl_as hf rfl (by decide) fun a hf => ?_
  refine tl_as hf rfl (by decide) fun a hf => ?_
  refine tl_as hf rfl (by decide) fun a hf => ?_
  refine tl_nil ?_
  replace hf := hf.keep [1, 4, 5, 6, 8]
  dsimp only [keep, List.filterMap, look, Nat.beq, Option.map] at hf
  repeat refine seq ?_
  refine regn 8 hf (by decide +kernel) ?_
  refine st (mv rfl) ?_
  refine st ((eql rfl rfl).eq (congrArg Value.bool ((beq_eq_false_iff_ne.2 hc : (c == 0) = false)))) ?_
  refine st (mv rfl) ?_
  refine sn rfl rfl rfl ?_
  refine sn rfl rfl rfl ?_
  refine sn rfl rfl rfl ?_
  refine st (pkF rfl rfl) ?_
  refine st (mv rfl) ?_
  refine en fun a w e' hf => ?_
  replace e := Ext.tr e e'
  clear e'
  refine tl_as hf rfl (by decide) fun a hf => ?_
  refine tl_as hf rfl (by decide) fun a hf => ?_
  refine tl_nil ?_
  refine wret (ret2 rfl hf rfl rfl ?_)
  rintro _ _ rfl rfl
  exact ⟨_, rfl, e, Tup.two rfl rfl⟩
theorem reachableN_spec (th : BS) (x : Int) (W : World) : Calls Tryz.prog 23 #[.pointer none, setV th, I x] W (Post (E (setV 0)) W) := by
  refine enter (args := [.pointer none, setV th, I x]) (As := [E (.pointer none), E (setV th), E (I x)]) Tryz.func23 rfl Tryz.ntmps23 (Nat.le_of_ble_eq_true rfl) ?_ (fun a hf => ?_) (Nat.le_of_ble_eq_true rfl)
  rotate_left
  dsimp only [params, Nat.reduceAdd] at hf
  rotate_right
  · exact arg3 rfl rfl rfl
  have e := Ext.rfl' W
  repeat refine seq ?_
  refine regn0 ?_
  refine tl_box hf rfl (by decide) fun a b4 w v4 hv4 e' hb4 hs4 B4 hf => ?_
  have hle4 := Nat.le_trans e.size (Nat.le_of_eq hb4.symm)
  replace e := Ext.tr e e'
  clear e'
  refine tl_alloc I41 hf (by decide) fun a b6 w e' hb6 hs6 B6 hf => ?_
  have hle6 := Nat.le_trans e.size (Nat.le_of_eq hb6.symm)
  have lt6_B4 := B4.lt
  replace e := Ext.tr e e'
  replace B4 := B4.ext e'
  clear e'
  refine tl_nil ?_
  cases hv4
  simp only [Value.cells, zeroC] at B6
  replace hf := hf.keep [0, 2, 4, 6]
  dsimp only [keep, List.filterMap, look, Nat.beq, Option.map] at hf
  haveI i6 : ∀ G0, InR (GB W G0) (some b6) := fun G0 => InR.gb (by omega)
  repeat refine seq ?_
  refine regn 14 hf (by decide +kernel) ?_
  refine st (mv rfl) ?_
  refine st (eqlPP Tryz.underlying26 rfl rfl (.inl rfl)) ?_
  refine st (mv rfl) ?_
  refine sn rfl rfl rfl ?_
  refine sn rfl rfl rfl ?_
  refine sn rfl rfl rfl ?_
  refine sn rfl rfl rfl ?_
  refine sn rfl rfl rfl ?_
  refine st (pkT rfl rfl) ?_
  refine st (mv rfl) ?_
  refine sn rfl rfl rfl ?_
  refine sn rfl rfl rfl ?_
  refine sn rfl rfl rfl ?_
  refine st (pkT rfl rfl) ?_
  refine en fun a w e' hf => ?_
  replace e := Ext.tr e e'
  replace B4 := B4.ext e'
  replace B6 := B6.ext e'
  clear e'
  refine tl_nil ?_
  repeat refine seq ?_
  refine ifc hf rfl (fun _ => ?_) (fun h => by cases h)
  repeat refine seq ?_
  refine regn 1 hf (by decide +kernel) ?_
  refine st (bldV [] rfl bS_0) ?_
  refine en fun a w e' hf => ?_
  replace e := Ext.tr e e'
  replace B4 := B4.ext e'
  replace B6 := B6.ext e'
  clear e'
  refine tl_stW T41 hf rfl rfl (wordsC_one _) B6 rfl (setC_size _) fun w hg hsz B6 hf => ?_
  replace e := e.gr hg (by omega); clear hg
  refine tl_nil ?_
  refine wret ?_
  try simp only [Exit.then, Exit.inBlock]
  refine retc rfl T41 hf rfl B6 (setC_size _) ?_
  exact ⟨_, rfl, e, rfl⟩
end Go.Mono
