/-
  Walks and plain facts, in this order: R23a, R23b, TwC, MonoN, TwO.
  No condition.
-/
import Derived.Test.YtnknjdnfbaaeoaaGreatDoorBE
import Derived.Test.YtnknjdnfbaaeoaaGreatDoorBA
import Derived.Test.YtnknjdnfbaaeoaaGreatDoorBC
set_option linter.unusedVariables false
set_option linter.unusedSimpArgs false
namespace Go.Mono
open Go Go.Proofs Go.RowKit Go.Gr

def idsG (g : GT) : List Int := g.1.map (·.1)
theorem ids_spec {G : Nat → Prop} (g : GT) (v : Value) (W : World) (h : (Dv gtE G g).p v W) (hl : g.1.length ≤ 100000) :
    Calls Tryz.prog 13 #[v] W (Post (OwA intE 3 W.heap.size Go.Mono.G0 (idsG g)) W) := by
  obtain ⟨u1, u2, rfl, h1, h2⟩ := Dv.gt.1 (Dv.weak (G' := Go.Mono.G0) h fun b _ hb => hb.elim)
  have h1b := Dv.toB h1
  refine enter (args := [.agg #[u1, u2]]) (As := [E (.agg #[u1, u2])]) Tryz.func13 rfl Tryz.ntmps13 (Nat.le_of_ble_eq_true rfl) ?_ (fun a hf => ?_) (Nat.le_of_ble_eq_true rfl)
  rotate_left
  dsimp only [params, Nat.reduceAdd] at hf
  rotate_right
  · exact arg1 rfl
  have e := Ext.rfl' W
  repeat refine seq ?_
  refine regn0 ?_
  refine tl_box hf rfl (by decide) fun a b1 w v1 hv1 e' hb1 hs1 B1 hf => ?_
  have hle1 := Nat.le_trans e.size (Nat.le_of_eq hb1.symm)
  replace e := Ext.tr e e'
  clear e'
  refine tl_as hf rfl (by decide) fun a hf => ?_
  refine tl_nil ?_
  cases hv1
  replace B1 : Blk w b1 #[u1, u2] 25 := B1
  obtain ⟨N, hN⟩ : ∃ N, N = w.heap.size := ⟨_, rfl⟩
  have l1 : b1 < N := by rw [hN]; exact B1.lt
  have hNs : N ≤ w.heap.size := Nat.le_of_eq hN
  have hWN : W.heap.size ≤ N := by rw [hN]; exact e.size
  clear hN
  repeat refine seq ?_
  refine regn0 ?_
  refine tl_as hf rfl (by decide) fun a hf => ?_
  refine tl_nil ?_
  repeat refine seq ?_
  refine regn0 ?_
  refine tl_as hf rfl (by decide) fun a hf => ?_
  refine tl_nil ?_
  replace hf := hf.keep [1, 3, 4]
  dsimp only [keep, List.filterMap, look, Nat.beq, Option.map] at hf
  repeat refine seq ?_
  refine blk (loopN (fun r0 a w => ∃ (k : Nat) (u : Value), r0 = g.1.length - k ∧ k ≤ g.1.length ∧ Fr 22 a w [(1, E (ptr b1)), (3, E u), (4, E (I k))] ∧ Ext W w ∧ Blk w b1 #[u1, u2] 25 ∧ OwR intE 3 N Go.Mono.G0 w ((idsG g).take k) u) g.1.length ⟨0, .slice none 0 0, rfl, by omega, hf, e, ⟨B1, OwR.nil intE _ hNs fun b hb => hb.elim⟩⟩ ?_)
  clear hf e; try clear B1; try clear Ho
  rintro r0 a w ⟨k, u, rfl, hk, hf, e, B1, Ho⟩
  repeat refine seq ?_
  refine regn 5 hf (by decide +kernel) ?_
  refine st (mv rfl) ?_
  refine st (fldA Tryz.underlying25 rfl T22 (by decide) rfl) ?_
  refine st (ld1 T22 rfl B1 rfl) ?_
  refine st (lenD Tryz.underlying22 (isE rfl (VA.st _ _ _ _ e h1))) ?_
  refine st (lss rfl rfl) ?_
  refine en fun a w e' hf => ?_
  replace e := Ext.tr e e'
  replace B1 := B1.ext e'
  replace Ho := Ho.ext e'
  clear e'
  refine tl_nil ?_
  repeat refine seq ?_
  refine ifc hf rfl (fun hc => wskip ?_) (fun hc => wexit ?_)
  rotate_left
  rotate_left
  · have hlt : k < g.1.length := by have := of_decide_eq_true hc; (try dsimp only at this); omega
    clear hc
    replace hf := hf.keep [1, 3, 4]
    dsimp only [keep, List.filterMap, look, Nat.beq, Option.map] at hf
    repeat refine seq ?_
    refine blk ?_
    have hx := List.getElem?_eq_getElem hlt
    generalize g.1[k] = y at hx
    have hxi : (idsG g)[k]? = some y.1 := by rw [idsG, List.getElem?_map, hx]; rfl
    have hlk := List.length_take_le k (idsG g)
    have hlI : (idsG g).length = g.1.length := by simp [idsG]
    repeat refine seq ?_
    refine regn 8 hf (by decide +kernel) ?_
    refine st (mv rfl) ?_
    refine st (fldA Tryz.underlying25 rfl T22 (by decide) rfl) ?_
    refine st (ld1 T22 rfl B1 rfl) ?_
    refine st (mv rfl) ?_
    refine st (idxD Tryz.underlying22 S66 (isE rfl (VA.st _ _ _ _ e h1b)) rfl (by omega) (hx)) ?_
    refine st (fldD Tryz.underlying66 rfl T3 (by decide) (Fld.fst Fld.refl) (isR rfl)) ?_
    refine st (ldI T3 (isR rfl)) ?_
    refine st (bsl1 Tryz.underlying30 I3 rfl (by decide) rfl Ho.avs (isI rfl)) ?_
    refine en fun a w e' hf => ?_
    replace B1 := B1.ext e'
    replace Ho := Ho.ext e'
    replace e := Ext.tr e e'
    clear e'
    haveI hin : ∀ G0, InR (GB W G0) _ := OwR.inGB (W := W) Ho hWN
    refine tl_app Tryz.underlying30 I3 rfl rfl hf (by decide) rfl Ho (isR rfl) (by simp only [List.length_singleton]; omega) (by simp only [List.length_singleton, maxLen]; omega) fun a v w hg hat Hn hf => ?_
    replace e := e.gro hg (Ho.row (W := W) hWN)
    have hrow := Ho.row (W := W) hWN
    replace B1 := B1.gro hg (Ho.neLt l1)
    replace Ho := Hn
    clear hrow
    replace Ho := Hn; clear Hn hg hat hin
    refine tl_as hf rfl (by decide) fun a hf => ?_
    refine tl_nil ?_
    rw [← take_succ_get hxi] at Ho
    try simp only [Exit.then, Exit.inBlock, ↓reduceIte]
    repeat refine seq ?_
    refine regn 2 hf (by decide +kernel) ?_
    refine st (mv rfl) ?_
    refine st ((add rfl rfl (by omega)).eq (congrArg (Value.int .i64) (show (k : Int) + 1 = ((k + 1 : Nat) : Int) from rfl))) ?_
    refine en fun a w e' hf => ?_
    replace e := Ext.tr e e'
    replace B1 := B1.ext e'
    replace Ho := Ho.ext e'
    clear e'
    refine tl_as hf rfl (by decide) fun a hf => ?_
    refine tl_nil ?_
    replace hf := hf.keep [1, 3, 4]
    dsimp only [keep, List.filterMap, look, Nat.beq, Option.map] at hf
    refine ⟨_, ?_, k + 1, _, rfl, by omega, hf, e, ?_⟩
    · omega
    exact ⟨B1, Ho⟩
  · obtain rfl : k = g.1.length := by have := of_decide_eq_false hc; (try dsimp only at this); omega
    clear hc
    simp only [Exit.then, Exit.inBlock, ↓reduceIte]
    rw [show g.1.length = (idsG g).length by simp [idsG], List.take_length] at Ho
    repeat refine seq ?_
    refine regn 1 hf (by decide +kernel) ?_
    refine st (mv rfl) ?_
    refine en fun a w e' hf => ?_
    replace e := Ext.tr e e'
    replace Ho := Ho.ext e'
    clear e'
    refine tl_as hf rfl (by decide) fun a hf => ?_
    refine tl_nil ?_
    refine wret (ret1 rfl hf rfl ?_)
    rintro _ rfl
    exact ⟨_, rfl, e, Ho.low hWN fun b hb => hb.elim⟩
end Go.Mono

namespace Go.Mono
open Go Go.Proofs Go.RowKit Go.Gr

abbrev Mx := Nat → Nat → Bool
/-- who is joined at the start, by position -/
def M0 (g : GT) : Mx := fun a c => decide (0 ≤ edgF g.2 (gi (idsG g) a) (gi (idsG g) c))
def nrTo (M : Mx) (gone : Nat → Bool) (p k : Nat) : List Nat := (List.range k).filter fun j => M p j && !gone j
theorem nrTo_succ (M : Mx) (gone : Nat → Bool) (p k : Nat) : nrTo M gone p (k + 1) = nrTo M gone p k ++ if (M p k && !gone k) = true then [k] else [] := by
  rw [nrTo, List.range_succ, List.filter_append, nrTo, List.filter_cons, List.filter_nil]
theorem nrTo_len (M : Mx) (gone : Nat → Bool) (p k : Nat) : (nrTo M gone p k).length ≤ k := by
  have := List.length_filter_le (fun j => M p j && !gone j) (List.range k)
  rw [List.length_range] at this
  exact this
theorem nrTo_lt {M : Mx} {gone : Nat → Bool} {p k j : Nat} (h : j ∈ nrTo M gone p k) : j < k := List.mem_range.1 (List.mem_filter.1 h).1
theorem nrTo_nodup (M : Mx) (gone : Nat → Bool) (p k : Nat) : (nrTo M gone p k).Nodup := List.nodup_range.sublist List.filter_sublist
def fillB (a : Nat) (M : Mx) (b : Nat) : Mx := if a ≠ b then upM M a b true else M
def fillA (nr : List Nat) (M : Mx) (a : Nat) : Mx := nr.foldl (fillB a) M
def fillM (nr : List Nat) (M : Mx) : Mx := nr.foldl (fillA nr) M
/-- one vertex eliminated: who is joined, who is gone, the greatest number so far -/
def csS (n : Nat) (s : Mx × (Nat → Bool) × Int) (p : Nat) : Mx × (Nat → Bool) × Int :=
  let gone := fun i => if i = p then true else s.2.1 i
  let nr := nrTo s.1 gone p n
  (fillM nr s.1, gone, if s.2.2 < (nr.length : Nat) then (nr.length : Nat) else s.2.2)
def csTo (g : GT) (order : List Int) : Mx × (Nat → Bool) × Int := order.foldl (fun s x => csS g.1.length s (fndF g.1 x).toNat) (M0 g, fun _ => false, -1)
def costG (g : GT) (order : List Int) : Int := (csTo g order).2.2
theorem nodup_inj {α : Type} {l : List α} (hn : l.Nodup) {i j : Nat} {a : α} (hi : l[i]? = some a) (hj : l[j]? = some a) : i = j := by
  obtain ⟨h1, rfl⟩ := List.getElem?_eq_some_iff.1 hi
  obtain ⟨h2, h3⟩ := List.getElem?_eq_some_iff.1 hj
  have hp := List.pairwise_iff_getElem.1 hn
  rcases Nat.lt_trichotomy i j with h | h | h
  · exact absurd h3.symm (hp i j h1 h2 h)
  · exact h
  · exact absurd h3 (hp j i h2 h1 h)
theorem cost_spec {G G' : Nat → Prop} (g : GT) (order : List Int) (v u : Value) (W : World) (h : (Dv gtE G g).p v W) (h' : (Dv (slE intE) G' order).p u W) (hl : g.1.length ≤ 1000) (hl2 : g.2.length ≤ 1000) (hlo : order.length ≤ 1000) (hin : ∀ x ∈ order, 0 ≤ fndF g.1 x ∧ fndF g.1 x < (g.1.length : Nat)) :
    Calls Tryz.prog 17 #[v, u] W (Post (E (I (costG g order))) W) := by
  obtain ⟨u1, u2, rfl, h1, h2⟩ := Dv.gt.1 (Dv.weak (G' := Go.Mono.G0) h fun b _ hb => hb.elim)
  have hg0 : (Dv gtE Go.Mono.G0 g).p (.agg #[u1, u2]) W := Dv.gt.2 ⟨_, _, rfl, h1, h2⟩
  have hord : (Dv (slE intE) Go.Mono.G0 order).p u W := Dv.weak h' fun b _ hb => hb.elim
  clear h h'
  refine enter (args := [.agg #[u1, u2], u]) (As := [E (.agg #[u1, u2]), E u]) Tryz.func17 rfl Tryz.ntmps17 (Nat.le_of_ble_eq_true rfl) ?_ (fun a hf => ?_) (Nat.le_of_ble_eq_true rfl)
  rotate_left
  dsimp only [params, Nat.reduceAdd] at hf
  rotate_right
  · exact arg2 rfl rfl
  have e := Ext.rfl' W
  obtain ⟨n, hn⟩ : ∃ n, n = g.1.length := ⟨_, rfl⟩
  have hlI : (idsG g).length = n := by simp [idsG, hn]
  repeat refine seq ?_
  refine regn0 ?_
  refine tl_box hf rfl (by decide) fun a b2 w v2 hv2 e' hb2 hs2 B2 hf => ?_
  have hle2 := Nat.le_trans e.size (Nat.le_of_eq hb2.symm)
  replace e := Ext.tr e e'
  clear e'
  refine tl_as hf rfl (by decide) fun a hf => ?_
  refine tl_nil ?_
  cases hv2
  replace B2 : Blk w b2 #[u1, u2] 25 := B2
  replace hf := hf.keep [1, 2, 4]
  dsimp only [keep, List.filterMap, look, Nat.beq, Option.map] at hf
  have e1 := e
  obtain ⟨N1, hN1⟩ : ∃ N1, N1 = w.heap.size := ⟨_, rfl⟩
  have hN1s : N1 ≤ w.heap.size := Nat.le_of_eq hN1
  have l2 : b2 < N1 := by rw [hN1]; exact B2.lt
  repeat refine seq ?_
  refine regn 2 hf (by decide +kernel) ?_
  refine st ((ldW T25 rfl B2 rfl).eq ((rfl : _ = Value.agg #[u1, u2]))) ?_
  refine st (call1 (A := OwA intE 3 N1 Go.Mono.G0 (idsG g)) En13 rfl (fun v w he k => by cases k; exact (ids_spec g _ w (VA.st _ _ _ _ (Ext.tr e1 he) hg0) (by omega)).mono fun en w' ⟨u, k1, k2, k3⟩ => ⟨u, k1, k2, OwR.low k3 (Nat.le_trans hN1s he.size) fun b hb => hb.elim⟩)) ?_
  refine en fun a w e' hf => ?_
  replace e := Ext.tr e e'
  replace B2 := B2.ext e'
  clear e'
  refine tl_as hf rfl (by decide) fun a hf => ?_
  refine tl_nil ?_
  obtain ⟨iv, Hi, hf⟩ := hf.opn 5 rfl
  replace Hi : OwR intE 3 N1 Go.Mono.G0 w (idsG g) iv := Hi
  obtain ⟨N, hN⟩ : ∃ N, N = w.heap.size := ⟨_, rfl⟩
  have hNs : N ≤ w.heap.size := Nat.le_of_eq hN
  have hWN : W.heap.size ≤ N := by rw [hN]; exact e.size
  have l2N : b2 < N := by rw [hN]; exact B2.lt
  have HI : (Dv (slE intE) (fun b => N ≤ b) (idsG g)).p iv w := Hi.slN fun b hb hh => by have := (Hi.lt hb).2; omega
  clear Hi hN hN1s hN1 l2 e1
  replace hf := hf.keep [1, 2, 4, 5]
  dsimp only [keep, List.filterMap, look, Nat.beq, Option.map] at hf
  repeat refine seq ?_
  refine regn 2 hf (by decide +kernel) ?_
  refine st (mv rfl) ?_
  refine st ((lenD Tryz.underlying30 (isE rfl HI)).eq (congrArg I (congrArg Int.ofNat hlI))) ?_
  refine en fun a w e' hf => ?_
  replace HI := VA.st _ _ _ _ e' HI
  replace hNs := Nat.le_trans hNs e'.size
  replace e := Ext.tr e e'
  replace B2 := B2.ext e'
  clear e'
  refine tl_as hf rfl (by decide) fun a hf => ?_
  refine tl_nil ?_
  replace hf := hf.keep [1, 2, 4, 5, 6]
  dsimp only [keep, List.filterMap, look, Nat.beq, Option.map] at hf
  replace hf := hf.upd 6 rfl (B := E (I (n : Nat))) (fun v h => h)
  replace hf := hf.keep [1, 2, 4, 5, 6]
  dsimp only [keep, List.filterMap, look, Nat.beq, Option.map] at hf
  repeat refine seq ?_
  refine regn 1 hf (by decide +kernel) ?_
  refine st (mv rfl) ?_
  refine en fun a w e' hf => ?_
  replace HI := VA.st _ _ _ _ e' HI
  replace hNs := Nat.le_trans hNs e'.size
  replace e := Ext.tr e e'
  replace B2 := B2.ext e'
  clear e'
  refine tl_mk Tryz.underlying89 I90 rfl hf (by decide) rfl (by omega) (by decide) fun a b23 w e' hb23 hs23 B23 hf => ?_
  have hle23 := Nat.le_trans e.size (Nat.le_of_eq hb23.symm)
  have lo23_hNs := Nat.le_trans hNs (Nat.le_of_eq hb23.symm)
  have lt23_B2 := B2.lt
  replace HI := VA.st _ _ _ _ e' HI
  replace hNs := Nat.le_trans hNs e'.size
  replace e := Ext.tr e e'
  replace B2 := B2.ext e'
  clear e'
  refine tl_as hf rfl (by decide) fun a hf => ?_
  refine tl_nil ?_
  rw [oC_made n fun _ => 0] at B23
  have n23 : N ≤ b23 := by omega
  have HM : MatR 90 4 N n 0 (fun _ => 0) (M0 g) b23 w := ⟨B23, fun i hi => by omega, fun i j hi => by omega, ⟨n23, fun i hi => by omega⟩, by decide⟩
  clear B23
  replace hf := hf.keep [1, 2, 5, 6, 7]
  dsimp only [keep, List.filterMap, look, Nat.beq, Option.map] at hf
  repeat refine seq ?_
  refine regn0 ?_
  refine tl_as hf rfl (by decide) fun a hf => ?_
  refine tl_nil ?_
  replace hf := hf.keep [1, 2, 5, 6, 7, 8]
  dsimp only [keep, List.filterMap, look, Nat.beq, Option.map] at hf
  repeat refine seq ?_
  refine blk (loopN (fun r0 a w => ∃ (k : Nat) (rb : Nat → Nat), r0 = n - k ∧ k ≤ n ∧ Fr 130 a w [(1, E u), (2, E (ptr b2)), (5, E iv), (6, E (I (n : Nat))), (7, E (.slice (some ⟨b23, 0, none⟩) n n)), (8, E (I k))] ∧ Ext W w ∧ Blk w b2 #[u1, u2] 25 ∧ (Dv (slE intE) (fun b => N ≤ b) (idsG g)).p iv w ∧ MatR 90 4 N n k rb (M0 g) b23 w) n ⟨0, fun _ => 0, rfl, by omega, hf, e, ⟨B2, HI, HM⟩⟩ ?_)
  clear hf e; try clear B2; try clear HI; try clear HM
  rintro r0 a w ⟨k, rb, rfl, hk, hf, e, B2, HI, HM⟩
  repeat refine seq ?_
  refine regn 3 hf (by decide +kernel) ?_
  refine st (mv rfl) ?_
  refine st (mv rfl) ?_
  refine st (lss rfl rfl) ?_
  refine en fun a w e' hf => ?_
  replace HI := VA.st _ _ _ _ e' HI
  replace HM := HM.ext e'
  replace e := Ext.tr e e'
  replace B2 := B2.ext e'
  clear e'
  refine tl_nil ?_
  repeat refine seq ?_
  refine ifc hf rfl (fun hc => wskip ?_) (fun hc => wexit ?_)
  rotate_left
  rotate_left
  · have hlt : k < n := by have := of_decide_eq_true hc; (try dsimp only at this); omega
    clear hc
    replace hf := hf.keep [1, 2, 5, 6, 7, 8]
    dsimp only [keep, List.filterMap, look, Nat.beq, Option.map] at hf
    repeat refine seq ?_
    refine blk ?_
    have hNs : N ≤ w.heap.size := Nat.le_of_lt (Nat.lt_of_le_of_lt n23 HM.o.lt)
    repeat refine seq ?_
    refine regn 3 hf (by decide +kernel) ?_
    refine st (mv rfl) ?_
    refine st (mv rfl) ?_
    refine st (mv rfl) ?_
    refine en fun a w e' hf => ?_
    replace HI := VA.st _ _ _ _ e' HI
    replace HM := HM.ext e'
    replace hNs := Nat.le_trans hNs e'.size
    replace e := Ext.tr e e'
    replace B2 := B2.ext e'
    clear e'
    have hfr : ∀ i, i < k → rb i < w.heap.size := fun i hi => (HM.r i hi).lt
    refine tl_mk Tryz.underlying90 I4 rfl hf (by decide) rfl (by omega) (by decide) fun a b32 w e' hb32 hs32 B32 hf => ?_
    have hle32 := Nat.le_trans e.size (Nat.le_of_eq hb32.symm)
    have lo32_hNs := Nat.le_trans hNs (Nat.le_of_eq hb32.symm)
    have lt32_B2 := B2.lt
    replace HI := VA.st _ _ _ _ e' HI
    replace HM := HM.ext e'
    replace hNs := Nat.le_trans hNs e'.size
    replace e := Ext.tr e e'
    replace B2 := B2.ext e'
    clear e'
    refine tl_op hf (by decide) (idxS Tryz.underlying89 S90 rfl rfl (by omega)) fun a w e' hf => ?_
    replace HI := VA.st _ _ _ _ e' HI
    replace HM := HM.ext e'
    replace hNs := Nat.le_trans hNs e'.size
    replace e := Ext.tr e e'
    replace B2 := B2.ext e'
    replace B32 := B32.ext e'
    clear e'
    rw [bC_made] at B32
    have n32 : N ≤ b32 := by omega
    refine tl_st1 T90 hf rfl rfl rfl HM.o (by rw [oC_size]; omega) fun w hg hsz Bo hf => ?_
    rw [show 0 + ((k : Nat) : Int).toNat * 1 = k by omega] at Bo
    have nb23 : b23 ≠ b32 := HM.o.tyNe B32 (by decide)
    replace HM := HM.add B32 (fun i hi => by have := hfr i hi; omega) n32 hlt hg Bo
    replace e := e.gr hg (by omega); replace B2 := B2.gr hg (by omega); replace HI := Dv.grN HI hg (fun bb hb => by cases hb; omega)
    clear hg Bo B32 hfr hNs
    replace HM : MatR 90 4 N n (k + 1) (adB rb k b32) (fun a c => if a < k ∨ c < 0 then M0 g a c else false) b23 w := HM.congr fun i hi j hj => by
      by_cases h : i = k
      · simp [h]
      · have h' : i < k := by omega
        simp [h, h']
    generalize adB rb k b32 = rb' at HM
    refine tl_nil ?_
    replace hf := hf.keep [1, 2, 5, 6, 7, 8]
    dsimp only [keep, List.filterMap, look, Nat.beq, Option.map] at hf
    repeat refine seq ?_
    refine regn0 ?_
    refine tl_as hf rfl (by decide) fun a hf => ?_
    refine tl_nil ?_
    replace hf := hf.keep [1, 2, 5, 6, 7, 8, 9]
    dsimp only [keep, List.filterMap, look, Nat.beq, Option.map] at hf
    repeat refine seq ?_
    refine blk (loopN (fun r0 a w => ∃ (j : Nat) , r0 = n - j ∧ j ≤ n ∧ Fr 130 a w [(1, E u), (2, E (ptr b2)), (5, E iv), (6, E (I (n : Nat))), (7, E (.slice (some ⟨b23, 0, none⟩) n n)), (8, E (I k)), (9, E (I j))] ∧ Ext W w ∧ Blk w b2 #[u1, u2] 25 ∧ (Dv (slE intE) (fun b => N ≤ b) (idsG g)).p iv w ∧ MatR 90 4 N n (k + 1) rb' (fun a c => if a < k ∨ c < j then M0 g a c else false) b23 w) n ⟨0, rfl, by omega, hf, e, ⟨B2, HI, HM⟩⟩ ?_)
    clear hf e; try clear B2; try clear HI; try clear HM
    rintro r0 a w ⟨j, rfl, hj, hf, e, B2, HI, HM⟩
    repeat refine seq ?_
    refine regn 3 hf (by decide +kernel) ?_
    refine st (mv rfl) ?_
    refine st (mv rfl) ?_
    refine st (lss rfl rfl) ?_
    refine en fun a w e' hf => ?_
    replace HI := VA.st _ _ _ _ e' HI
    replace HM := HM.ext e'
    replace e := Ext.tr e e'
    replace B2 := B2.ext e'
    clear e'
    refine tl_nil ?_
    repeat refine seq ?_
    refine ifc hf rfl (fun hc => wskip ?_) (fun hc => wexit ?_)
    rotate_left
    rotate_left
    · have hltj : j < n := by have := of_decide_eq_true hc; (try dsimp only at this); omega
      clear hc
      replace hf := hf.keep [1, 2, 5, 6, 7, 8, 9]
      dsimp only [keep, List.filterMap, look, Nat.beq, Option.map] at hf
      repeat refine seq ?_
      refine blk ?_
      have hxk : (idsG g)[k]? = some (gi (idsG g) k) := gi_get (by omega)
      have hxj : (idsG g)[j]? = some (gi (idsG g) j) := gi_get (by omega)
      repeat refine seq ?_
      refine reg 17 Mix.mix hf (by decide +kernel) ?_
      refine st (mv rfl) ?_
      refine st (mv rfl) ?_
      refine st (idxS Tryz.underlying89 S90 rfl rfl (by omega)) ?_
      refine st (ld1 (v := .slice (some ⟨rb' k, 0, none⟩) n n) T90 rfl HM.o (by rw [show 0 + ((k : Nat) : Int).toNat * 1 = k by omega]; exact oC_get (Nat.lt_succ_self _) hlt)) ?_
      refine st (mv rfl) ?_
      refine st ((ldW T25 rfl B2 rfl).eq ((rfl : _ = Value.agg #[u1, u2]))) ?_
      refine st (mv rfl) ?_
      refine st (mv rfl) ?_
      refine st (idxD Tryz.underlying30 S3 (isE rfl HI) rfl (by omega) (hxk)) ?_
      refine st (ldI T3 (isR rfl)) ?_
      refine st (mv rfl) ?_
      refine st (mv rfl) ?_
      refine st (idxD Tryz.underlying30 S3 (isE rfl HI) rfl (by omega) (hxj)) ?_
      refine st (ldI T3 (isR rfl)) ?_
      refine st (call3 (A := E (I (edgF g.2 (gi (idsG g) k) (gi (idsG g) j)))) En42 rfl rfl rfl (fun v u s w he k1 k2 k3 => by cases k1; cases k2; cases k3; exact edge_spec g _ _ _ w (VA.st _ _ _ _ (Ext.tr e he) hg0) (by omega))) ?_
      refine st (geq rfl rfl) ?_
      refine st (idxS Tryz.underlying90 S4 rfl rfl (by omega)) ?_
      refine en fun a w e' hf => ?_
      replace HI := VA.st _ _ _ _ e' HI
      replace HM := HM.ext e'
      replace e := Ext.tr e e'
      replace B2 := B2.ext e'
      clear e'
      replace hf := hf.keep [1, 2, 5, 6, 7, 8, 9, 54, 55]
      dsimp only [keep, List.filterMap, look, Nat.beq, Option.map] at hf
      refine tl_st1 T4 hf rfl rfl rfl (HM.r k (Nat.lt_succ_self _)) (by rw [bC_size]; omega) fun w hg hsz Br hf => ?_
      rw [show 0 + ((j : Nat) : Int).toNat * 1 = j by omega] at Br
      have nr2 := (HM.lo.2 k (Nat.lt_succ_self _))
      replace HM := HM.put (Nat.lt_succ_self _) hg Br
      replace e := e.gr hg (by omega); replace B2 := B2.gr hg (by omega); replace HI := Dv.grN HI hg (fun bb hb => by cases hb; exact nr2)
      clear hg Br nr2
      replace HM : MatR 90 4 N n (k + 1) rb' (fun a c => if a < k ∨ c < j + 1 then M0 g a c else false) b23 w := HM.congr fun a ha c hc => by
        unfold upM
        by_cases h1 : a = k ∧ c = j
        · rw [if_pos h1, h1.1, h1.2, if_pos (.inr (Nat.lt_succ_self _))]; rfl
        · rw [if_neg h1]
          dsimp only
          by_cases h2 : a < k ∨ c < j
          · rw [if_pos h2, if_pos (h2.imp id fun h => by omega)]
          · rw [if_neg h2, if_neg (fun h => h2 (h.imp id fun h => by omega))]
      refine tl_nil ?_
      try simp only [Exit.then, Exit.inBlock, ↓reduceIte]
      repeat refine seq ?_
      refine regn 2 hf (by decide +kernel) ?_
      refine st (mv rfl) ?_
      refine st ((add rfl rfl (by omega)).eq (congrArg (Value.int .i64) (show (j : Int) + 1 = ((j + 1 : Nat) : Int) from rfl))) ?_
      refine en fun a w e' hf => ?_
      replace HI := VA.st _ _ _ _ e' HI
      replace HM := HM.ext e'
      replace e := Ext.tr e e'
      replace B2 := B2.ext e'
      clear e'
      refine tl_as hf rfl (by decide) fun a hf => ?_
      refine tl_nil ?_
      replace hf := hf.keep [1, 2, 5, 6, 7, 8, 9]
      dsimp only [keep, List.filterMap, look, Nat.beq, Option.map] at hf
      refine ⟨_, ?_, j + 1, rfl, by omega, hf, e, ?_⟩
      · omega
      exact ⟨B2, HI, HM⟩
    · obtain rfl : n = j := by have := of_decide_eq_false hc; (try dsimp only at this); omega
      clear hc
      simp only [Exit.then, Exit.inBlock, ↓reduceIte]
      replace HM : MatR 90 4 N n (k + 1) rb' (M0 g) b23 w := HM.congr fun a ha c hc => by simp [hc]
      try simp only [Exit.then, Exit.inBlock, ↓reduceIte]
      repeat refine seq ?_
      refine regn 2 hf (by decide +kernel) ?_
      refine st (mv rfl) ?_
      refine st ((add rfl rfl (by omega)).eq (congrArg (Value.int .i64) (show (k : Int) + 1 = ((k + 1 : Nat) : Int) from rfl))) ?_
      refine en fun a w e' hf => ?_
      replace HI := VA.st _ _ _ _ e' HI
      replace HM := HM.ext e'
      replace e := Ext.tr e e'
      replace B2 := B2.ext e'
      clear e'
      refine tl_as hf rfl (by decide) fun a hf => ?_
      refine tl_nil ?_
      replace hf := hf.keep [1, 2, 5, 6, 7, 8]
      dsimp only [keep, List.filterMap, look, Nat.beq, Option.map] at hf
      refine ⟨_, ?_, k + 1, rb', rfl, by omega, hf, e, ?_⟩
      · omega
      exact ⟨B2, HI, HM⟩
  · obtain rfl : n = k := by have := of_decide_eq_false hc; (try dsimp only at this); omega
    clear hc
    simp only [Exit.then, Exit.inBlock, ↓reduceIte]
    clear HI
    have hNs : N ≤ w.heap.size := Nat.le_of_lt (Nat.lt_of_le_of_lt n23 HM.o.lt)
    replace hf := hf.keep [1, 2, 6, 7]
    dsimp only [keep, List.filterMap, look, Nat.beq, Option.map] at hf
    have hfr : ∀ i, i < n → rb i < w.heap.size := fun i hi => (HM.r i hi).lt
    repeat refine seq ?_
    refine regn0 ?_
    refine tl_op hf (by decide) (mv rfl) fun a w e' hf => ?_
    replace HM := HM.ext e'
    replace hNs := Nat.le_trans hNs e'.size
    replace e := Ext.tr e e'
    replace B2 := B2.ext e'
    clear e'
    have hfr2 : ∀ i, i < n → rb i < w.heap.size := fun i hi => (HM.r i hi).lt
    refine tl_mk Tryz.underlying90 I4 rfl hf (by decide) rfl (by omega) (by decide) fun a b57 w e' hb57 hs57 B57 hf => ?_
    have hle57 := Nat.le_trans e.size (Nat.le_of_eq hb57.symm)
    have lo57_hNs := Nat.le_trans hNs (Nat.le_of_eq hb57.symm)
    have lt57_B2 := B2.lt
    replace HM := HM.ext e'
    replace hNs := Nat.le_trans hNs e'.size
    replace e := Ext.tr e e'
    replace B2 := B2.ext e'
    clear e'
    refine tl_as hf rfl (by decide) fun a hf => ?_
    refine tl_nil ?_
    rw [bC_made] at B57
    have n57 : N ≤ b57 := by omega
    have hgb : ∀ i, i < n → rb i ≠ b57 := fun i hi => by have := hfr2 i hi; omega
    have ng23 : b57 ≠ b23 := (HM.o.tyNe B57 (by decide)).symm
    clear hfr hfr2
    replace hf := hf.keep [1, 2, 6, 7, 10]
    dsimp only [keep, List.filterMap, look, Nat.beq, Option.map] at hf
    repeat refine seq ?_
    refine regn0 ?_
    refine tl_as hf rfl (by decide) fun a hf => ?_
    refine tl_nil ?_
    repeat refine seq ?_
    refine regn0 ?_
    refine tl_as hf rfl (by decide) fun a hf => ?_
    refine tl_nil ?_
    clear hNs
    replace hf := hf.keep [1, 2, 6, 7, 10, 11, 12]
    dsimp only [keep, List.filterMap, look, Nat.beq, Option.map] at hf
    repeat refine seq ?_
    refine blk (loopN (fun r0 a w => ∃ (k : Nat) (zs : Mx × (Nat → Bool) × Int), r0 = order.length - k ∧ k ≤ order.length ∧ Fr 130 a w [(1, E u), (2, E (ptr b2)), (6, E (I (n : Nat))), (7, E (.slice (some ⟨b23, 0, none⟩) n n)), (10, E (.slice (some ⟨b57, 0, none⟩) n n)), (11, E (I zs.2.2)), (12, E (I k))] ∧ Ext W w ∧ Blk w b2 #[u1, u2] 25 ∧ Blk w b57 (bC n zs.2.1) 4 ∧ MatR 90 4 N n n rb zs.1 b23 w ∧ (order.take k).foldl (fun s x => csS n s (fndF g.1 x).toNat) (M0 g, fun _ => false, -1) = zs) order.length ⟨0, (M0 g,  fun _ => false,  -1), rfl, by omega, hf, e, ⟨B2, B57, HM, rfl⟩⟩ ?_)
    clear hf e; try clear B2; try clear B57; try clear HM; try clear hst
    rintro r0 a w ⟨k, zs, rfl, hk, hf, e, B2, B57, HM, hst⟩
    repeat refine seq ?_
    refine regn 4 hf (by decide +kernel) ?_
    refine st (mv rfl) ?_
    refine st (mv rfl) ?_
    refine st (lenD Tryz.underlying30 (isE rfl (VA.st _ _ _ _ e hord))) ?_
    refine st (lss rfl rfl) ?_
    refine en fun a w e' hf => ?_
    replace HM := HM.ext e'
    replace e := Ext.tr e e'
    replace B2 := B2.ext e'
    replace B57 := B57.ext e'
    clear e'
    refine tl_nil ?_
    repeat refine seq ?_
    refine ifc hf rfl (fun hc => wskip ?_) (fun hc => wexit ?_)
    rotate_left
    rotate_left
    · have hlt : k < order.length := by have := of_decide_eq_true hc; (try dsimp only at this); omega
      clear hc
      replace hf := hf.keep [1, 2, 6, 7, 10, 11, 12]
      dsimp only [keep, List.filterMap, look, Nat.beq, Option.map] at hf
      repeat refine seq ?_
      refine blk ?_
      obtain ⟨M, gone, most⟩ := zs
      dsimp only at *
      have hx : order[k]? = some (gi order k) := gi_get hlt
      obtain ⟨x, hxe⟩ : ∃ x, x = gi order k := ⟨_, rfl⟩
      rw [← hxe] at hx
      have hxm := hin x (List.mem_of_getElem? hx)
      obtain ⟨p, hp⟩ : ∃ p : Nat, fndF g.1 x = (p : Int) := ⟨(fndF g.1 x).toNat, by omega⟩
      have hpn : p < n := by rw [hp] at hxm; omega
      have hstep : (order.take (k + 1)).foldl (fun s x => csS n s (fndF g.1 x).toNat) (M0 g, fun _ => false, -1) = csS n (M, gone, most) p := by rw [take_succ_get hx, List.foldl_append, hst, List.foldl_cons, List.foldl_nil, hp, Int.toNat_natCast]
      clear hst
      have hNs : N ≤ w.heap.size := Nat.le_of_lt (Nat.lt_of_le_of_lt n23 HM.o.lt)
      repeat refine seq ?_
      refine reg 6 Mix.mix hf (by decide +kernel) ?_
      refine st ((ldW T25 rfl B2 rfl).eq ((rfl : _ = Value.agg #[u1, u2]))) ?_
      refine st (mv rfl) ?_
      refine st (mv rfl) ?_
      refine st (idxD Tryz.underlying30 S3 (isE rfl (VA.st _ _ _ _ e hord)) rfl (by omega) (hx)) ?_
      refine st (ldI T3 (isR rfl)) ?_
      refine st (call2 (A := E (I (p : Nat))) En28 rfl rfl (fun v u w he k1 k2 => by cases k1; cases k2; have := find_spec g x _ w (VA.st _ _ _ _ (Ext.tr e he) hg0) (by omega); rwa [hp] at this)) ?_
      refine en fun a w e' hf => ?_
      replace HM := HM.ext e'
      replace hNs := Nat.le_trans hNs e'.size
      replace e := Ext.tr e e'
      replace B2 := B2.ext e'
      replace B57 := B57.ext e'
      clear e'
      refine tl_as hf rfl (by decide) fun a hf => ?_
      refine tl_nil ?_
      replace hf := hf.keep [1, 2, 6, 7, 10, 11, 12, 13]
      dsimp only [keep, List.filterMap, look, Nat.beq, Option.map] at hf
      repeat refine seq ?_
      refine regn 3 hf (by decide +kernel) ?_
      refine st (mv rfl) ?_
      refine st (mv rfl) ?_
      refine st (idxS Tryz.underlying90 S4 rfl rfl (by omega)) ?_
      refine en fun a w e' hf => ?_
      replace HM := HM.ext e'
      replace hNs := Nat.le_trans hNs e'.size
      replace e := Ext.tr e e'
      replace B2 := B2.ext e'
      replace B57 := B57.ext e'
      clear e'
      refine tl_st1 T4 hf rfl rfl rfl B57 (by rw [bC_size]; omega) fun w hg hsz B57 hf => ?_
      rw [show 0 + ((p : Nat) : Int).toNat * 1 = p by omega, bC_set] at B57
      replace HM := HM.gro hg (fun h => ng23 (by cases h; rfl)) (fun i hi h => hgb i hi (by cases h; rfl))
      replace e := e.gr hg (by omega); replace B2 := B2.gr hg (by omega); replace hNs := Nat.le_trans hNs hg.size
      clear hg
      refine tl_nil ?_
      obtain ⟨gone', hgo⟩ : ∃ gone' : Nat → Bool, gone' = fun i => if i = p then true else gone i := ⟨_, rfl⟩
      rw [← hgo] at B57
      replace hf := hf.keep [1, 2, 6, 7, 10, 11, 12, 13]
      dsimp only [keep, List.filterMap, look, Nat.beq, Option.map] at hf
      repeat refine seq ?_
      refine regn0 ?_
      refine tl_as hf rfl (by decide) fun a hf => ?_
      refine tl_nil ?_
      repeat refine seq ?_
      refine regn0 ?_
      refine tl_as hf rfl (by decide) fun a hf => ?_
      refine tl_nil ?_
      replace hf := hf.keep [1, 2, 6, 7, 10, 11, 12, 13, 14, 15]
      dsimp only [keep, List.filterMap, look, Nat.beq, Option.map] at hf
      repeat refine seq ?_
      refine blk (loopN (fun r0 a w => ∃ (j : Nat) (uv : Value), r0 = n - j ∧ j ≤ n ∧ Fr 130 a w [(1, E u), (2, E (ptr b2)), (6, E (I (n : Nat))), (7, E (.slice (some ⟨b23, 0, none⟩) n n)), (10, E (.slice (some ⟨b57, 0, none⟩) n n)), (11, E (I most)), (12, E (I k)), (13, E (I (p : Nat))), (14, E uv), (15, E (I j))] ∧ Ext W w ∧ Blk w b2 #[u1, u2] 25 ∧ Blk w b57 (bC n gone') 4 ∧ MatR 90 4 N n n rb M b23 w ∧ OwR intE 3 N Go.Mono.G0 w (natL (nrTo M gone' p j)) uv) n ⟨0, .slice none 0 0, rfl, by omega, hf, e, ⟨B2, B57, HM, OwR.nil intE _ hNs fun b hb => hb.elim⟩⟩ ?_)
      clear hf e; try clear B2; try clear B57; try clear HM; try clear Ho
      rintro r0 a w ⟨j, uv, rfl, hj, hf, e, B2, B57, HM, Ho⟩
      repeat refine seq ?_
      refine regn 3 hf (by decide +kernel) ?_
      refine st (mv rfl) ?_
      refine st (mv rfl) ?_
      refine st (lss rfl rfl) ?_
      refine en fun a w e' hf => ?_
      replace HM := HM.ext e'
      replace e := Ext.tr e e'
      replace B2 := B2.ext e'
      replace B57 := B57.ext e'
      replace Ho := Ho.ext e'
      clear e'
      refine tl_nil ?_
      repeat refine seq ?_
      refine ifc hf rfl (fun hc => wskip ?_) (fun hc => wexit ?_)
      rotate_left
      rotate_left
      · have hltj : j < n := by have := of_decide_eq_true hc; (try dsimp only at this); omega
        clear hc
        replace hf := hf.keep [1, 2, 6, 7, 10, 11, 12, 13, 14, 15]
        dsimp only [keep, List.filterMap, look, Nat.beq, Option.map] at hf
        repeat refine seq ?_
        refine blk ?_
        have hsuc := nrTo_succ M gone' p j
        have hll := nrTo_len M gone' p j
        have hLn : (natL (nrTo M gone' p j)).length = (nrTo M gone' p j).length := by simp [natL]
        cases hMp : M p j with
        | false =>
          rw [hMp, Bool.false_and, if_neg (by decide), List.append_nil] at hsuc
          repeat refine seq ?_
          refine regn 14 hf (by decide +kernel) ?_
          refine st (mv rfl) ?_
          refine st (mv rfl) ?_
          refine st (idxS Tryz.underlying89 S90 rfl rfl (by omega)) ?_
          refine st (ld1 (v := .slice (some ⟨rb p, 0, none⟩) n n) T90 rfl HM.o (by rw [show 0 + ((p : Nat) : Int).toNat * 1 = p by omega]; exact oC_get hpn (Nat.le_refl _))) ?_
          refine st (mv rfl) ?_
          refine st (idxS Tryz.underlying90 S4 rfl rfl (by omega)) ?_
          refine st ((ld1 (v := .bool (M p j)) T4 rfl (HM.r p hpn) (by rw [show 0 + ((j : Nat) : Int).toNat * 1 = j by omega]; exact bC_get hltj)).eq (congrArg Value.bool (hMp))) ?_
          refine st (mv rfl) ?_
          refine sn rfl rfl rfl ?_
          refine sn rfl rfl rfl ?_
          refine sn rfl rfl rfl ?_
          refine sn rfl rfl rfl ?_
          refine sn rfl rfl rfl ?_
          refine st (pkF rfl rfl) ?_
          refine en fun a w e' hf => ?_
          replace HM := HM.ext e'
          replace e := Ext.tr e e'
          replace B2 := B2.ext e'
          replace B57 := B57.ext e'
          replace Ho := Ho.ext e'
          clear e'
          refine tl_nil ?_
          repeat refine seq ?_
          refine ifc hf rfl (fun h => by cases h) (fun _ => ?_)
          refine wskip ?_
          try simp only [Exit.then, Exit.inBlock, ↓reduceIte]
          try simp only [Exit.then, Exit.inBlock, ↓reduceIte]
          repeat refine seq ?_
          refine regn 2 hf (by decide +kernel) ?_
          refine st (mv rfl) ?_
          refine st ((add rfl rfl (by omega)).eq (congrArg (Value.int .i64) (show (j : Int) + 1 = ((j + 1 : Nat) : Int) from rfl))) ?_
          refine en fun a w e' hf => ?_
          replace HM := HM.ext e'
          replace e := Ext.tr e e'
          replace B2 := B2.ext e'
          replace B57 := B57.ext e'
          replace Ho := Ho.ext e'
          clear e'
          refine tl_as hf rfl (by decide) fun a hf => ?_
          refine tl_nil ?_
          replace hf := hf.keep [1, 2, 6, 7, 10, 11, 12, 13, 14, 15]
          dsimp only [keep, List.filterMap, look, Nat.beq, Option.map] at hf
          refine ⟨_, ?_, j + 1, _, rfl, by omega, hf, e, ?_⟩
          · omega
          rw [hsuc]
          exact ⟨B2, B57, HM, Ho⟩
        | true =>
          rw [hMp, Bool.true_and] at hsuc
          repeat refine seq ?_
          refine regn 14 hf (by decide +kernel) ?_
          refine st (mv rfl) ?_
          refine st (mv rfl) ?_
          refine st (idxS Tryz.underlying89 S90 rfl rfl (by omega)) ?_
          refine st (ld1 (v := .slice (some ⟨rb p, 0, none⟩) n n) T90 rfl HM.o (by rw [show 0 + ((p : Nat) : Int).toNat * 1 = p by omega]; exact oC_get hpn (Nat.le_refl _))) ?_
          refine st (mv rfl) ?_
          refine st (idxS Tryz.underlying90 S4 rfl rfl (by omega)) ?_
          refine st ((ld1 (v := .bool (M p j)) T4 rfl (HM.r p hpn) (by rw [show 0 + ((j : Nat) : Int).toNat * 1 = j by omega]; exact bC_get hltj)).eq (congrArg Value.bool (hMp))) ?_
          refine st (mv rfl) ?_
          refine sy rfl rfl (mv rfl) ?_
          refine sy rfl rfl (mv rfl) ?_
          refine sy rfl rfl (idxS Tryz.underlying90 S4 rfl rfl (by omega)) ?_
          refine sy rfl rfl (ld1 (v := .bool (gone' j)) T4 rfl B57 (by rw [show 0 + ((j : Nat) : Int).toNat * 1 = j by omega]; exact bC_get hltj)) ?_
          refine sy rfl rfl (notp rfl) ?_
          refine st (pkT rfl rfl) ?_
          refine en fun a w e' hf => ?_
          replace HM := HM.ext e'
          replace e := Ext.tr e e'
          replace B2 := B2.ext e'
          replace B57 := B57.ext e'
          replace Ho := Ho.ext e'
          clear e'
          refine tl_nil ?_
          repeat refine seq ?_
          refine ifc hf rfl (fun hb => ?_) (fun hb => ?_)
          · rw [if_pos hb] at hsuc
            replace hf := hf.keep [1, 2, 6, 7, 10, 11, 12, 13, 14, 15]
            dsimp only [keep, List.filterMap, look, Nat.beq, Option.map] at hf
            repeat refine seq ?_
            refine regn 3 hf (by decide +kernel) ?_
            refine st (mv rfl) ?_
            refine st (mv rfl) ?_
            refine st (bsl1 Tryz.underlying30 I3 rfl (by decide) rfl Ho.avs (isI rfl)) ?_
            refine en fun a w e' hf => ?_
            replace B2 := B2.ext e'
            replace B57 := B57.ext e'
            replace HM := HM.ext e'
            replace Ho := Ho.ext e'
            replace e := Ext.tr e e'
            clear e'
            haveI hin : ∀ G0, InR (GB W G0) _ := OwR.inGB (W := W) Ho hWN
            refine tl_app Tryz.underlying30 I3 rfl rfl hf (by decide) rfl Ho (isR rfl) (by simp only [List.length_singleton]; omega) (by simp only [List.length_singleton, maxLen]; omega) fun a v w hg hat Hn hf => ?_
            replace e := e.gro hg (Ho.row (W := W) hWN)
            have hrow := Ho.row (W := W) hWN
            replace B2 := B2.gro hg (Ho.neLt l2N)
            replace B57 := B57.gro hg (Ho.neB B57 (by decide))
            replace HM := HM.gro hg (Ho.neB HM.o (by decide)) (fun i hi => Ho.neB (HM.r i hi) (by decide))
            replace Ho := Hn
            clear hrow
            replace Ho := Hn; clear Hn hg hat hin
            refine tl_as hf rfl (by decide) fun a hf => ?_
            refine tl_nil ?_
            try simp only [Exit.then, Exit.inBlock, ↓reduceIte]
            repeat refine seq ?_
            refine regn 2 hf (by decide +kernel) ?_
            refine st (mv rfl) ?_
            refine st ((add rfl rfl (by omega)).eq (congrArg (Value.int .i64) (show (j : Int) + 1 = ((j + 1 : Nat) : Int) from rfl))) ?_
            refine en fun a w e' hf => ?_
            replace HM := HM.ext e'
            replace e := Ext.tr e e'
            replace B2 := B2.ext e'
            replace B57 := B57.ext e'
            replace Ho := Ho.ext e'
            clear e'
            refine tl_as hf rfl (by decide) fun a hf => ?_
            refine tl_nil ?_
            replace hf := hf.keep [1, 2, 6, 7, 10, 11, 12, 13, 14, 15]
            dsimp only [keep, List.filterMap, look, Nat.beq, Option.map] at hf
            refine ⟨_, ?_, j + 1, _, rfl, by omega, hf, e, ?_⟩
            · omega
            rw [hsuc]
            exact ⟨B2, B57, HM, by rw [natL, List.map_append]; exact Ho⟩
          · rw [if_neg (by simpa using hb), List.append_nil] at hsuc
            refine wskip ?_
            try simp only [Exit.then, Exit.inBlock, ↓reduceIte]
            try simp only [Exit.then, Exit.inBlock, ↓reduceIte]
            repeat refine seq ?_
            refine regn 2 hf (by decide +kernel) ?_
            refine st (mv rfl) ?_
            refine st ((add rfl rfl (by omega)).eq (congrArg (Value.int .i64) (show (j : Int) + 1 = ((j + 1 : Nat) : Int) from rfl))) ?_
            refine en fun a w e' hf => ?_
            replace HM := HM.ext e'
            replace e := Ext.tr e e'
            replace B2 := B2.ext e'
            replace B57 := B57.ext e'
            replace Ho := Ho.ext e'
            clear e'
            refine tl_as hf rfl (by decide) fun a hf => ?_
            refine tl_nil ?_
            replace hf := hf.keep [1, 2, 6, 7, 10, 11, 12, 13, 14, 15]
            dsimp only [keep, List.filterMap, look, Nat.beq, Option.map] at hf
            refine ⟨_, ?_, j + 1, _, rfl, by omega, hf, e, ?_⟩
            · omega
            rw [hsuc]
            exact ⟨B2, B57, HM, Ho⟩
      · obtain rfl : n = j := by have := of_decide_eq_false hc; (try dsimp only at this); omega
        clear hc
        simp only [Exit.then, Exit.inBlock, ↓reduceIte]
        obtain ⟨nr, hnr⟩ : ∃ nr, nr = nrTo M gone' p n := ⟨_, rfl⟩
        rw [← hnr] at Ho
        have hnd : nr.Nodup := by rw [hnr]; exact nrTo_nodup _ _ _ _
        have hnl : nr.length ≤ n := by rw [hnr]; exact nrTo_len _ _ _ _
        have hlt' : ∀ a ∈ nr, a < n := fun a ha => by rw [hnr] at ha; exact nrTo_lt ha
        have hLn : (natL nr).length = nr.length := by simp [natL]
        have hLi : (((natL nr).length : Nat) : Int) = ((nr.length : Nat) : Int) := by rw [hLn]
        have hcs : csS n (M, gone, most) p = (fillM nr M, gone', if most < ((nr.length : Nat) : Int) then ((nr.length : Nat) : Int) else most) := by rw [hnr, hgo]; rfl
        rw [hcs] at hstep
        clear hnr hgo hcs
        repeat refine seq ?_
        refine regn 4 hf (by decide +kernel) ?_
        refine st (mv rfl) ?_
        refine st ((lenD Tryz.underlying30 (isE rfl Ho.sl)).eq (congrArg I hLi)) ?_
        refine st (mv rfl) ?_
        refine st (gtr rfl rfl) ?_
        refine en fun a w e' hf => ?_
        replace HM := HM.ext e'
        replace e := Ext.tr e e'
        replace B2 := B2.ext e'
        replace B57 := B57.ext e'
        replace Ho := Ho.ext e'
        clear e'
        refine tl_nil ?_
        obtain ⟨most', hmost⟩ : ∃ most' : Int, most' = if most < ((nr.length : Nat) : Int) then ((nr.length : Nat) : Int) else most := ⟨_, rfl⟩
        rw [← hmost] at hstep
        replace hf := hf.keep [1, 2, 6, 7, 10, 11, 12, 14, 99]
        dsimp only [keep, List.filterMap, look, Nat.beq, Option.map] at hf
        repeat refine seq ?_
        refine cut (J := fun a w => Fr 130 a w [(1, E u), (2, E (ptr b2)), (6, E (I (n : Nat))), (7, E (.slice (some ⟨b23, 0, none⟩) n n)), (10, E (.slice (some ⟨b57, 0, none⟩) n n)), (11, E (I most')), (12, E (I k)), (14, E uv)] ∧ Ext W w ∧ Blk w b2 #[u1, u2] 25 ∧ Blk w b57 (bC n gone') 4 ∧ MatR 90 4 N n n rb M b23 w ∧ OwR intE 3 N Go.Mono.G0 w (natL nr) uv) ?_ (fun a w hJ => ?_)
        · repeat refine seq ?_
          refine ifc hf rfl (fun hb => ?_) (fun hb => ?_)
          · have hb' : most < (nr.length : Nat) := of_decide_eq_true hb
            rw [if_pos hb'] at hmost
            repeat refine seq ?_
            refine regn 2 hf (by decide +kernel) ?_
            refine st (mv rfl) ?_
            refine st ((lenD Tryz.underlying30 (isE rfl Ho.sl)).eq (congrArg I (show (((natL nr).length : Nat) : Int) = most' by rw [hmost, hLn]))) ?_
            refine en fun a w e' hf => ?_
            replace HM := HM.ext e'
            replace e := Ext.tr e e'
            replace B2 := B2.ext e'
            replace B57 := B57.ext e'
            replace Ho := Ho.ext e'
            clear e'
            refine tl_as hf rfl (by decide) fun a hf => ?_
            refine tl_nil ?_
            replace hf := hf.keep [1, 2, 6, 7, 10, 11, 12, 14]
            dsimp only [keep, List.filterMap, look, Nat.beq, Option.map] at hf
            exact ⟨rfl, hf, e, B2, B57, HM, Ho⟩
          · have hb' : ¬ most < (nr.length : Nat) := of_decide_eq_false hb
            rw [if_neg hb'] at hmost
            refine wskip ?_
            rw [← hmost] at hf
            replace hf := hf.keep [1, 2, 6, 7, 10, 11, 12, 14]
            dsimp only [keep, List.filterMap, look, Nat.beq, Option.map] at hf
            exact ⟨rfl, hf, e, B2, B57, HM, Ho⟩
        clear hf e B2 B57 HM Ho
        obtain ⟨hf, e, B2, B57, HM, Ho⟩ := hJ
        try simp only [Exit.then]
        clear hmost
        repeat refine seq ?_
        refine regn0 ?_
        refine tl_as hf rfl (by decide) fun a hf => ?_
        refine tl_nil ?_
        replace hf := hf.keep [1, 2, 6, 7, 10, 11, 12, 14, 16]
        dsimp only [keep, List.filterMap, look, Nat.beq, Option.map] at hf
        repeat refine seq ?_
        refine blk (loopN (fun r0 a w => ∃ (i : Nat) , r0 = nr.length - i ∧ i ≤ nr.length ∧ Fr 130 a w [(1, E u), (2, E (ptr b2)), (6, E (I (n : Nat))), (7, E (.slice (some ⟨b23, 0, none⟩) n n)), (10, E (.slice (some ⟨b57, 0, none⟩) n n)), (11, E (I most')), (12, E (I k)), (14, E uv), (16, E (I i))] ∧ Ext W w ∧ Blk w b2 #[u1, u2] 25 ∧ Blk w b57 (bC n gone') 4 ∧ MatR 90 4 N n n rb ((nr.take i).foldl (fillA nr) M) b23 w ∧ OwR intE 3 N Go.Mono.G0 w (natL nr) uv) nr.length ⟨0, rfl, by omega, hf, e, ⟨B2, B57, HM, Ho⟩⟩ ?_)
        clear hf e; try clear B2; try clear B57; try clear HM; try clear Ho
        rintro r0 a w ⟨i, rfl, hi, hf, e, B2, B57, HM, Ho⟩
        repeat refine seq ?_
        refine regn 4 hf (by decide +kernel) ?_
        refine st (mv rfl) ?_
        refine st (mv rfl) ?_
        refine st ((lenD Tryz.underlying30 (isE rfl Ho.sl)).eq (congrArg I hLi)) ?_
        refine st (lss rfl rfl) ?_
        refine en fun a w e' hf => ?_
        replace HM := HM.ext e'
        replace e := Ext.tr e e'
        replace B2 := B2.ext e'
        replace B57 := B57.ext e'
        replace Ho := Ho.ext e'
        clear e'
        refine tl_nil ?_
        repeat refine seq ?_
        refine ifc hf rfl (fun hc => wskip ?_) (fun hc => wexit ?_)
        rotate_left
        rotate_left
        · have hlti : i < nr.length := by have := of_decide_eq_true hc; (try dsimp only at this); omega
          clear hc
          replace hf := hf.keep [1, 2, 6, 7, 10, 11, 12, 14, 16]
          dsimp only [keep, List.filterMap, look, Nat.beq, Option.map] at hf
          repeat refine seq ?_
          refine blk ?_
          have hai := List.getElem?_eq_getElem hlti
          generalize nr[i] = a0 at hai
          have ha0 := hlt' a0 (List.mem_of_getElem? hai)
          have haI : (natL nr)[i]? = some (a0 : Int) := by rw [natL, List.getElem?_map, hai]; rfl
          have hsI : (nr.take (i + 1)).foldl (fillA nr) M = fillA nr ((nr.take i).foldl (fillA nr) M) a0 := by rw [take_succ_get hai, List.foldl_append]; rfl
          obtain ⟨Mi, hMi⟩ : ∃ Mi, Mi = (nr.take i).foldl (fillA nr) M := ⟨_, rfl⟩
          rw [← hMi] at HM hsI
          repeat refine seq ?_
          refine regn0 ?_
          refine tl_as hf rfl (by decide) fun a hf => ?_
          refine tl_nil ?_
          replace hf := hf.keep [1, 2, 6, 7, 10, 11, 12, 14, 16, 17]
          dsimp only [keep, List.filterMap, look, Nat.beq, Option.map] at hf
          repeat refine seq ?_
          refine blk (loopN (fun r0 a w => ∃ (j : Nat) , r0 = nr.length - j ∧ j ≤ nr.length ∧ Fr 130 a w [(1, E u), (2, E (ptr b2)), (6, E (I (n : Nat))), (7, E (.slice (some ⟨b23, 0, none⟩) n n)), (10, E (.slice (some ⟨b57, 0, none⟩) n n)), (11, E (I most')), (12, E (I k)), (14, E uv), (16, E (I i)), (17, E (I j))] ∧ Ext W w ∧ Blk w b2 #[u1, u2] 25 ∧ Blk w b57 (bC n gone') 4 ∧ MatR 90 4 N n n rb ((nr.take j).foldl (fillB a0) Mi) b23 w ∧ OwR intE 3 N Go.Mono.G0 w (natL nr) uv) nr.length ⟨0, rfl, by omega, hf, e, ⟨B2, B57, HM, Ho⟩⟩ ?_)
          clear hf e; try clear B2; try clear B57; try clear HM; try clear Ho
          rintro r0 a w ⟨j, rfl, hj, hf, e, B2, B57, HM, Ho⟩
          repeat refine seq ?_
          refine regn 4 hf (by decide +kernel) ?_
          refine st (mv rfl) ?_
          refine st (mv rfl) ?_
          refine st ((lenD Tryz.underlying30 (isE rfl Ho.sl)).eq (congrArg I hLi)) ?_
          refine st (lss rfl rfl) ?_
          refine en fun a w e' hf => ?_
          replace HM := HM.ext e'
          replace e := Ext.tr e e'
          replace B2 := B2.ext e'
          replace B57 := B57.ext e'
          replace Ho := Ho.ext e'
          clear e'
          refine tl_nil ?_
          repeat refine seq ?_
          refine ifc hf rfl (fun hc => wskip ?_) (fun hc => wexit ?_)
          rotate_left
          rotate_left
          · have hltj : j < nr.length := by have := of_decide_eq_true hc; (try dsimp only at this); omega
            clear hc
            replace hf := hf.keep [1, 2, 6, 7, 10, 11, 12, 14, 16, 17]
            dsimp only [keep, List.filterMap, look, Nat.beq, Option.map] at hf
            repeat refine seq ?_
            refine blk ?_
            have hbj := List.getElem?_eq_getElem hltj
            generalize nr[j] = c0 at hbj
            have hc0 := hlt' c0 (List.mem_of_getElem? hbj)
            have hbI : (natL nr)[j]? = some (c0 : Int) := by rw [natL, List.getElem?_map, hbj]; rfl
            have hsJ : (nr.take (j + 1)).foldl (fillB a0) Mi = fillB a0 ((nr.take j).foldl (fillB a0) Mi) c0 := by rw [take_succ_get hbj, List.foldl_append]; rfl
            obtain ⟨Mj, hMj⟩ : ∃ Mj, Mj = (nr.take j).foldl (fillB a0) Mi := ⟨_, rfl⟩
            rw [← hMj] at HM hsJ
            have hij : a0 = c0 ↔ i = j := ⟨fun h => nodup_inj hnd hai (by rw [h]; exact hbj), fun h => by rw [h, hbj] at hai; exact (Option.some.inj hai).symm⟩
            repeat refine seq ?_
            refine regn 3 hf (by decide +kernel) ?_
            refine st (mv rfl) ?_
            refine st (mv rfl) ?_
            refine st (neq rfl rfl) ?_
            refine en fun a w e' hf => ?_
            replace HM := HM.ext e'
            replace e := Ext.tr e e'
            replace B2 := B2.ext e'
            replace B57 := B57.ext e'
            replace Ho := Ho.ext e'
            clear e'
            refine tl_nil ?_
            repeat refine seq ?_
            refine ifc hf rfl (fun hb => ?_) (fun hb => ?_)
            · have hne : a0 ≠ c0 := fun h => by have := hij.1 h; simp [this] at hb
              rw [fillB, if_pos hne] at hsJ
              replace hf := hf.keep [1, 2, 6, 7, 10, 11, 12, 14, 16, 17]
              dsimp only [keep, List.filterMap, look, Nat.beq, Option.map] at hf
              repeat refine seq ?_
              refine reg 12 Mix.mix hf (by decide +kernel) ?_
              refine st (mv rfl) ?_
              refine st (mv rfl) ?_
              refine st (mv rfl) ?_
              refine st (idxD Tryz.underlying30 S3 (isE rfl Ho.sl) rfl (by omega) (haI)) ?_
              refine st (ldI T3 (isR rfl)) ?_
              refine st (idxS Tryz.underlying89 S90 rfl rfl (by omega)) ?_
              refine st (ld1 (v := .slice (some ⟨rb a0, 0, none⟩) n n) T90 rfl HM.o (by rw [show 0 + ((a0 : Nat) : Int).toNat * 1 = a0 by omega]; exact oC_get ha0 (Nat.le_refl _))) ?_
              refine st (mv rfl) ?_
              refine st (mv rfl) ?_
              refine st (idxD Tryz.underlying30 S3 (isE rfl Ho.sl) rfl (by omega) (hbI)) ?_
              refine st (ldI T3 (isR rfl)) ?_
              refine st (idxS Tryz.underlying90 S4 rfl rfl (by omega)) ?_
              refine en fun a w e' hf => ?_
              replace HM := HM.ext e'
              replace e := Ext.tr e e'
              replace B2 := B2.ext e'
              replace B57 := B57.ext e'
              replace Ho := Ho.ext e'
              clear e'
              replace hf := hf.keep [1, 2, 6, 7, 10, 11, 12, 14, 16, 17, 128]
              dsimp only [keep, List.filterMap, look, Nat.beq, Option.map] at hf
              refine tl_st1 T4 hf rfl rfl rfl (HM.r a0 ha0) (by rw [bC_size]; omega) fun w hg hsz Br hf => ?_
              rw [show 0 + ((c0 : Nat) : Int).toNat * 1 = c0 by omega] at Br
              have zr := HM.lo.2 a0 ha0
              replace Ho := Ho.grE hg (Ho.neB (HM.r a0 ha0) (by decide))
              replace HM := HM.put ha0 hg Br
              replace e := e.gr hg (by omega); replace B2 := B2.gr hg (by omega); replace B57 := B57.gr hg (fun h => hgb a0 ha0 h.symm)
              clear hg Br zr
              refine tl_nil ?_
              try simp only [Exit.then, Exit.inBlock, ↓reduceIte]
              repeat refine seq ?_
              refine regn 2 hf (by decide +kernel) ?_
              refine st (mv rfl) ?_
              refine st ((add rfl rfl (by omega)).eq (congrArg (Value.int .i64) (show (j : Int) + 1 = ((j + 1 : Nat) : Int) from rfl))) ?_
              refine en fun a w e' hf => ?_
              replace HM := HM.ext e'
              replace e := Ext.tr e e'
              replace B2 := B2.ext e'
              replace B57 := B57.ext e'
              replace Ho := Ho.ext e'
              clear e'
              refine tl_as hf rfl (by decide) fun a hf => ?_
              refine tl_nil ?_
              replace hf := hf.keep [1, 2, 6, 7, 10, 11, 12, 14, 16, 17]
              dsimp only [keep, List.filterMap, look, Nat.beq, Option.map] at hf
              refine ⟨_, ?_, j + 1, rfl, by omega, hf, e, ?_⟩
              · omega
              rw [hsJ]
              exact ⟨B2, B57, HM, Ho⟩
            · have hne : ¬ a0 ≠ c0 := fun h => by
                have : ¬ i = j := fun h' => h (hij.2 h')
                simp at hb; omega
              rw [fillB, if_neg hne] at hsJ
              refine wskip ?_
              try simp only [Exit.then, Exit.inBlock, ↓reduceIte]
              try simp only [Exit.then, Exit.inBlock, ↓reduceIte]
              repeat refine seq ?_
              refine regn 2 hf (by decide +kernel) ?_
              refine st (mv rfl) ?_
              refine st ((add rfl rfl (by omega)).eq (congrArg (Value.int .i64) (show (j : Int) + 1 = ((j + 1 : Nat) : Int) from rfl))) ?_
              refine en fun a w e' hf => ?_
              replace HM := HM.ext e'
              replace e := Ext.tr e e'
              replace B2 := B2.ext e'
              replace B57 := B57.ext e'
              replace Ho := Ho.ext e'
              clear e'
              refine tl_as hf rfl (by decide) fun a hf => ?_
              refine tl_nil ?_
              replace hf := hf.keep [1, 2, 6, 7, 10, 11, 12, 14, 16, 17]
              dsimp only [keep, List.filterMap, look, Nat.beq, Option.map] at hf
              refine ⟨_, ?_, j + 1, rfl, by omega, hf, e, ?_⟩
              · omega
              rw [hsJ]
              exact ⟨B2, B57, HM, Ho⟩
          · obtain rfl : nr.length = j := by have := of_decide_eq_false hc; (try dsimp only at this); omega
            clear hc
            simp only [Exit.then, Exit.inBlock, ↓reduceIte]
            rw [List.take_length] at HM
            try simp only [Exit.then, Exit.inBlock, ↓reduceIte]
            repeat refine seq ?_
            refine regn 2 hf (by decide +kernel) ?_
            refine st (mv rfl) ?_
            refine st ((add rfl rfl (by omega)).eq (congrArg (Value.int .i64) (show (i : Int) + 1 = ((i + 1 : Nat) : Int) from rfl))) ?_
            refine en fun a w e' hf => ?_
            replace HM := HM.ext e'
            replace e := Ext.tr e e'
            replace B2 := B2.ext e'
            replace B57 := B57.ext e'
            replace Ho := Ho.ext e'
            clear e'
            refine tl_as hf rfl (by decide) fun a hf => ?_
            refine tl_nil ?_
            replace hf := hf.keep [1, 2, 6, 7, 10, 11, 12, 14, 16]
            dsimp only [keep, List.filterMap, look, Nat.beq, Option.map] at hf
            refine ⟨_, ?_, i + 1, rfl, by omega, hf, e, ?_⟩
            · omega
            rw [hsI]
            exact ⟨B2, B57, HM, Ho⟩
        · obtain rfl : nr.length = i := by have := of_decide_eq_false hc; (try dsimp only at this); omega
          clear hc
          simp only [Exit.then, Exit.inBlock, ↓reduceIte]
          rw [List.take_length] at HM
          replace hf := hf.keep [1, 2, 6, 7, 10, 11, 12]
          dsimp only [keep, List.filterMap, look, Nat.beq, Option.map] at hf
          clear Ho
          try simp only [Exit.then, Exit.inBlock, ↓reduceIte]
          repeat refine seq ?_
          refine regn 2 hf (by decide +kernel) ?_
          refine st (mv rfl) ?_
          refine st ((add rfl rfl (by omega)).eq (congrArg (Value.int .i64) (show (k : Int) + 1 = ((k + 1 : Nat) : Int) from rfl))) ?_
          refine en fun a w e' hf => ?_
          replace HM := HM.ext e'
          replace e := Ext.tr e e'
          replace B2 := B2.ext e'
          replace B57 := B57.ext e'
          clear e'
          refine tl_as hf rfl (by decide) fun a hf => ?_
          refine tl_nil ?_
          replace hf := hf.keep [1, 2, 6, 7, 10, 11, 12]
          dsimp only [keep, List.filterMap, look, Nat.beq, Option.map] at hf
          refine ⟨_, ?_, k + 1, (fillM nr M, gone', most'), rfl, by omega, hf, e, ?_⟩
          · omega
          exact ⟨B2, B57, HM, hstep⟩
    · obtain rfl : order.length = k := by have := of_decide_eq_false hc; (try dsimp only at this); omega
      clear hc
      simp only [Exit.then, Exit.inBlock, ↓reduceIte]
      rw [List.take_length] at hst
      replace hf := hf.keep [11]
      dsimp only [keep, List.filterMap, look, Nat.beq, Option.map] at hf
      repeat refine seq ?_
      refine regn 1 hf (by decide +kernel) ?_
      refine st (mv rfl) ?_
      refine en fun a w e' hf => ?_
      replace e := Ext.tr e e'
      clear e'
      refine tl_as hf rfl (by decide) fun a hf => ?_
      refine tl_nil ?_
      refine wret ?_
      try simp only [Exit.then, Exit.inBlock]
      refine ret1 rfl hf rfl ?_
      rintro _ rfl
      exact ⟨_, rfl, e, congrArg I (by rw [costG, csTo, ← hn, hst])⟩
end Go.Mono

namespace Go.Mono
open Go Go.Proofs Go.RowKit Go.Gr

/-- the vertex at a position -/
def idN (g : GT) (p : Nat) : Nat := (gi (idsG g) p).toNat
section
variable {g : GT}
theorem idN_at (G : Gr.Ok g) {p : Nat} (hp : p < g.1.length) : gi (idsG g) p = (idN g p : Int) ∧ (vset g.1).getLsbD (idN g p) = true := by
  have h1 : (idsG g)[p]? = some (gi (idsG g) p) := gi_get (by simp [idsG]; exact hp)
  have h2 := List.mem_of_getElem? h1
  rw [idsG] at h2
  obtain ⟨x, hx, hxe⟩ := List.mem_map.1 h2
  rw [← idsG] at hxe
  have h3 := idOk_r (G.rv x hx).1
  have h4 : gi (idsG g) p = (idN g p : Int) := by rw [idN]; omega
  exact ⟨h4, (mem_vset G).2 ⟨x, hx, by rw [hxe, h4]⟩⟩
theorem idN_inj (G : Gr.Ok g) {p q : Nat} (hp : p < g.1.length) (hq : q < g.1.length) (h : idN g p = idN g q) : p = q := by
  have hnd : (idsG g).Nodup := List.pairwise_map.2 (G.sv.imp fun h => by
    have := (lt1_asy h).2; exact this)
  have h1 : (idsG g)[p]? = some (gi (idsG g) p) := gi_get (by simp [idsG]; exact hp)
  have h2 : (idsG g)[q]? = some (gi (idsG g) q) := gi_get (by simp [idsG]; exact hq)
  rw [(idN_at G hp).1] at h1
  rw [(idN_at G hq).1, ← h] at h2
  exact nodup_inj hnd h1 h2
theorem fnd_at (G : Gr.Ok g) {v : Nat} (hv : (vset g.1).getLsbD v = true) : ∃ p : Nat, fndF g.1 (v : Int) = (p : Int) ∧ p < g.1.length ∧ idN g p = v := by
  obtain ⟨x, hx, hxe⟩ := (mem_vset G).1 hv
  cases hf : g.1.findIdx? (fun y => decide (y.1 = (v : Int))) with
  | none =>
    have := List.findIdx?_eq_none_iff.1 hf x hx
    simp [hxe] at this
  | some p =>
    obtain ⟨hp, h1, _⟩ := List.findIdx?_eq_some_iff_getElem.1 hf
    refine ⟨p, by rw [fndF, hf], hp, ?_⟩
    have h2 : g.1[p].1 = (v : Int) := of_decide_eq_true h1
    have h3 : (idsG g)[p]? = some (v : Int) := by rw [idsG, List.getElem?_map, List.getElem?_eq_getElem hp, ← h2]; rfl
    have h4 : (idsG g)[p]? = some (gi (idsG g) p) := gi_get (by simp [idsG]; exact hp)
    rw [h3] at h4
    have := Option.some.inj h4
    rw [idN, ← this]; rfl
theorem edg_at (G : Gr.Ok g) (i j : Nat) : 0 ≤ edgF g.2 (i : Int) (j : Int) ↔ Adj g i j := by
  unfold edgF
  cases hf : g.2.findIdx? (fun y => isEd y (i : Int) (j : Int)) with
  | none =>
    refine ⟨fun h => by simp at h, fun ⟨x, hx, h⟩ => ?_⟩
    have h1 := List.findIdx?_eq_none_iff.1 hf x hx
    rw [isEd] at h1
    rcases h with h | h <;> rw [h] at h1 <;> simp at h1
  | some p =>
    obtain ⟨hp, h1, _⟩ := List.findIdx?_eq_some_iff_getElem.1 hf
    refine ⟨fun _ => ⟨g.2[p], List.getElem_mem hp, ?_⟩, fun _ => by simp⟩
    rw [isEd, Bool.or_eq_true, Bool.and_eq_true, Bool.and_eq_true, beq_iff_eq, beq_iff_eq, beq_iff_eq, beq_iff_eq] at h1
    rcases h1 with ⟨h1, h2⟩ | ⟨h1, h2⟩
    · exact .inl (Prod.ext h1 h2)
    · exact .inr (Prod.ext h1 h2)
theorem fillB_at (a : Nat) (M : Mx) (b i j : Nat) : fillB a M b i j = (M i j || (decide (i = a) && decide (j = b) && decide (a ≠ b))) := by
  unfold fillB
  by_cases h : a ≠ b
  · rw [if_pos h, upM]
    by_cases h2 : i = a ∧ j = b
    · rw [if_pos h2]; simp [h2.1, h2.2, h]
    · rw [if_neg h2]
      have : (decide (i = a) && decide (j = b)) = false := by
        rw [Bool.and_eq_false_iff, decide_eq_false_iff_not, decide_eq_false_iff_not]
        exact Classical.not_and_iff_not_or_not.1 h2
      rw [this]; simp
  · rw [if_neg h]; simp [h]
theorem fillA_at (a : Nat) (i j : Nat) : ∀ (nr : List Nat) (M : Mx), nr.foldl (fillB a) M i j = true ↔ M i j = true ∨ (i = a ∧ j ∈ nr ∧ a ≠ j) := by
  intro nr
  induction nr with
  | nil => intro M; simp
  | cons b nr ih =>
    intro M
    rw [List.foldl_cons, ih, fillB_at, Bool.or_eq_true, Bool.and_eq_true, Bool.and_eq_true, decide_eq_true_eq, decide_eq_true_eq, decide_eq_true_eq, List.mem_cons]
    constructor
    · rintro ((h | ⟨⟨h1, h2⟩, h3⟩) | ⟨h1, h2, h3⟩)
      · exact .inl h
      · exact .inr ⟨h1, .inl h2, by rw [h2]; exact h3⟩
      · exact .inr ⟨h1, .inr h2, h3⟩
    · rintro (h | ⟨h1, h2 | h2, h3⟩)
      · exact .inl (.inl h)
      · exact .inl (.inr ⟨⟨h1, h2⟩, by rw [← h2]; exact h3⟩)
      · exact .inr ⟨h1, h2, h3⟩
theorem fillM_at (mr : List Nat) (i j : Nat) : ∀ (nr : List Nat) (M : Mx), nr.foldl (fillA mr) M i j = true ↔ M i j = true ∨ (i ∈ nr ∧ j ∈ mr ∧ i ≠ j) := by
  intro nr
  induction nr with
  | nil => intro M; simp
  | cons b nr ih =>
    intro M
    rw [List.foldl_cons, ih, fillA, fillA_at, List.mem_cons]
    constructor
    · rintro ((h | ⟨h1, h2, h3⟩) | ⟨h1, h2, h3⟩)
      · exact .inl h
      · exact .inr ⟨.inl h1, h2, by rw [h1]; exact h3⟩
      · exact .inr ⟨.inr h1, h2, h3⟩
    · rintro (h | ⟨h1 | h1, h2, h3⟩)
      · exact .inl (.inl h)
      · exact .inl (.inr ⟨h1, h2, by rw [← h1]; exact h3⟩)
      · exact .inr ⟨h1, h2, h3⟩
/-- what the square says when the vertices of S are gone -/
structure CsI (g : GT) (S : BS) (s : Mx × (Nat → Bool) × Int) : Prop where
  go : ∀ p, p < g.1.length → (s.2.1 p = true ↔ S.getLsbD (idN g p) = true)
  mx : ∀ p q, p < g.1.length → q < g.1.length → p ≠ q → ¬S.getLsbD (idN g p) = true → ¬S.getLsbD (idN g q) = true → (s.1 p q = true ↔ Via (nbA g) S (idN g p) (idN g q))
theorem nb_symm (G : Gr.Ok g) : ∀ i j : Nat, (nbA g (i : Int)).getLsbD j = true → (nbA g (j : Int)).getLsbD i = true := fun i j h => (nbA_bit G).2 ((nbA_bit G).1 h).symm
theorem csI_0 (G : Gr.Ok g) : CsI g 0 (M0 g, fun _ => false, -1) := by
  refine ⟨fun p hp => ⟨fun h => (nomatch h), fun h => absurd h (bit_zero _)⟩, fun p q hp hq hne _ _ => ?_⟩
  show decide (0 ≤ edgF g.2 (gi (idsG g) p) (gi (idsG g) q)) = true ↔ _
  rw [decide_eq_true_eq, (idN_at G hp).1, (idN_at G hq).1, edg_at G, ← nbA_bit G]
  refine ⟨.one, fun h => ?_⟩
  cases h with
  | one h => exact h
  | step _ ht _ => exact absurd ht (bit_zero _)
theorem csI_step (G : Gr.Ok g) {S : BS} {s : Mx × (Nat → Bool) × Int} (h : CsI g S s) {p : Nat} (hp : p < g.1.length) (hS : ¬S.getLsbD (idN g p) = true) :
    CsI g (ins S (idN g p : Int)) (csS g.1.length s p) ∧ (csS g.1.length s p).2.2 = max s.2.2 (rn (nbA g) S (idN g p)) := by
  obtain ⟨M, gone, most⟩ := s
  have hv := (idN_at G hp).2
  have hv' := bit_lt hv
  obtain ⟨go, hgo⟩ : ∃ go : Nat → Bool, go = fun i => if i = p then true else gone i := ⟨_, rfl⟩
  obtain ⟨nr, hnr⟩ : ∃ nr, nr = nrTo M go p g.1.length := ⟨_, rfl⟩
  have e : csS g.1.length (M, gone, most) p = (fillM nr M, go, if most < ((nr.length : Nat) : Int) then ((nr.length : Nat) : Int) else most) := by rw [hnr, hgo]; rfl
  have hgoi : ∀ q, q < g.1.length → (go q = true ↔ (ins S (idN g p : Int)).getLsbD (idN g q) = true) := fun q hq => by
    rw [hgo, bit_ins S hv']
    by_cases hqp : q = p
    · simp [hqp]
    · have h1 : idN g q ≠ idN g p := fun h => hqp (idN_inj G hq hp h)
      simp only [if_neg hqp]
      rw [h.go q hq]
      exact ⟨.inl, fun h => h.elim id fun h => absurd h h1⟩
  have hmem : ∀ q, q ∈ nr ↔ q < g.1.length ∧ q ≠ p ∧ ¬S.getLsbD (idN g q) = true ∧ Via (nbA g) S (idN g p) (idN g q) := fun q => by
    rw [hnr, nrTo, List.mem_filter, List.mem_range, Bool.and_eq_true, Bool.not_eq_true']
    constructor
    · rintro ⟨hq, h1, h2⟩
      have h3 : ¬(ins S (idN g p : Int)).getLsbD (idN g q) = true := fun hh => by rw [(hgoi q hq).2 hh] at h2; cases h2
      rw [bit_ins S hv'] at h3
      have hqp : q ≠ p := fun hh => h3 (.inr (by rw [hh]))
      have h4 : ¬S.getLsbD (idN g q) = true := fun hh => h3 (.inl hh)
      exact ⟨hq, hqp, h4, (h.mx p q hp hq (Ne.symm hqp) hS h4).1 h1⟩
    · rintro ⟨hq, hqp, h4, h5⟩
      refine ⟨hq, (h.mx p q hp hq (Ne.symm hqp) hS h4).2 h5, ?_⟩
      cases hg : go q with
      | false => rfl
      | true =>
        have := (hgoi q hq).1 hg
        rw [bit_ins S hv'] at this
        exact this.elim (fun hh => absurd hh h4) fun hh => absurd (idN_inj G hq hp hh) hqp
  have hlen : ((nr.length : Nat) : Int) = rn (nbA g) S (idN g p) := by
    have hperm : (nr.map (idN g)).Perm (elems (reB (nbA g) S (idN g p : Int))) := by
      have hn1 : (nr.map (idN g)).Nodup := by
        have hnd : nr.Nodup := by rw [hnr]; exact nrTo_nodup _ _ _ _
        refine List.pairwise_map.2 (List.Pairwise.imp_of_mem (fun {a b} ha hb hab hh => hab (idN_inj G ((hmem a).1 ha).1 ((hmem b).1 hb).1 hh)) hnd)
      have hn2 : (elems (reB (nbA g) S (idN g p : Int))).Nodup := List.Nodup.sublist List.filter_sublist List.nodup_range
      refine (List.perm_ext_iff_of_nodup hn1 hn2).2 fun u => ?_
      rw [List.mem_map, mem_elems, reB_bit hv']
      constructor
      · rintro ⟨q, hq, rfl⟩
        obtain ⟨k1, k2, k3, k4⟩ := (hmem q).1 hq
        exact ⟨bit_lt (idN_at G k1).2, k4, k3, fun hh => k2 (idN_inj G k1 hp hh)⟩
      · rintro ⟨_, k1, k2, k3⟩
        have hu := k1.inn (V := vset g.1) fun i j hh => (((nbA_bit G).1 hh).inn G).2.1
        obtain ⟨q, _, hq, rfl⟩ := fnd_at G hu
        exact ⟨q, (hmem q).2 ⟨hq, fun hh => k3 (by rw [hh]), k2, k1⟩, rfl⟩
    have := hperm.length_eq
    rw [List.length_map, card_elems] at this
    rw [rn, this]
  rw [e]
  refine ⟨⟨fun q hq => hgoi q hq, fun a b ha hb hab h1 h2 => ?_⟩, ?_⟩
  · rw [bit_ins S hv'] at h1 h2
    have a1 : ¬S.getLsbD (idN g a) = true := fun hh => h1 (.inl hh)
    have b1 : ¬S.getLsbD (idN g b) = true := fun hh => h2 (.inl hh)
    have a2 : a ≠ p := fun hh => h1 (.inr (by rw [hh]))
    have b2 : b ≠ p := fun hh => h2 (.inr (by rw [hh]))
    show fillM nr M a b = true ↔ _
    rw [fillM, fillM_at, h.mx a b ha hb hab a1 b1, hmem, hmem, Via.ins hv']
    constructor
    · rintro (k | ⟨⟨_, _, _, k1⟩, ⟨_, _, _, k2⟩, _⟩)
      · exact .inl k
      · exact .inr ⟨k1.symm (nb_symm G), k2⟩
    · rintro (k | ⟨k1, k2⟩)
      · exact .inl k
      · exact .inr ⟨⟨ha, a2, a1, k1.symm (nb_symm G)⟩, ⟨hb, b2, b1, k2⟩, hab⟩
  · show (if most < ((nr.length : Nat) : Int) then ((nr.length : Nat) : Int) else most) = _
    rw [hlen]
    split <;> (dsimp only; omega)
theorem cs_widL (G : Gr.Ok g) : ∀ (l : List Nat) (S : BS) (s : Mx × (Nat → Bool) × Int), CsI g S s → -1 ≤ s.2.2 → l.Nodup → (∀ v ∈ l, (vset g.1).getLsbD v = true ∧ ¬S.getLsbD v = true) →
    ((natL l).foldl (fun s x => csS g.1.length s (fndF g.1 x).toNat) s).2.2 = max s.2.2 (widL (nbA g) S l)
  | [], S, s, _, h0, _, _ => by
    show s.2.2 = max s.2.2 (-1)
    omega
  | v :: l, S, s, h, h0, hnd, hl => by
    obtain ⟨p, hp1, hp2, hp3⟩ := fnd_at G (hl v (by simp)).1
    obtain ⟨n1, n2⟩ := List.nodup_cons.1 hnd
    have hS := (hl v (by simp)).2
    have hv' := bit_lt (hl v (by simp)).1
    obtain ⟨k1, k2⟩ := csI_step G h hp2 (by rw [hp3]; exact hS)
    rw [hp3] at k1 k2
    have ih := cs_widL G l (ins S (v : Int)) (csS g.1.length s p) k1 (by rw [k2]; omega) n2 fun u hu => ⟨(hl u (by simp [hu])).1, fun hh => by
      rw [bit_ins S hv'] at hh
      exact hh.elim (hl u (by simp [hu])).2 fun hh => n1 (by rw [← hh]; exact hu)⟩
    have e1 : (natL (v :: l)).foldl (fun s x => csS g.1.length s (fndF g.1 x).toNat) s = (natL l).foldl (fun s x => csS g.1.length s (fndF g.1 x).toNat) (csS g.1.length s p) := by
      rw [natL, List.map_cons, List.foldl_cons, hp1, Int.toNat_natCast]; rfl
    rw [e1, ih, k2, widL]
    omega
theorem widL_ge (nb : Int → BS) : ∀ (l : List Nat) (S : BS), -1 ≤ widL nb S l
  | [], S => Int.le_refl _
  | v :: l, S => by have := widL_ge nb l (ins S (v : Int)); rw [widL]; omega
/-- COST IS THE WIDTH OF THE ORDER -/
theorem cost_widL (G : Gr.Ok g) {l : List Nat} (hnd : l.Nodup) (hl : ∀ v ∈ l, (vset g.1).getLsbD v = true) : costG g (natL l) = widL (nbA g) 0 l := by
  have h := cs_widL G l 0 (M0 g, fun _ => false, -1) (csI_0 G) (Int.le_refl _) hnd fun v hv => ⟨hl v hv, bit_zero v⟩
  have h2 := widL_ge (nbA g) l 0
  rw [costG, csTo, h]
  dsimp only
  omega
end
end Go.Mono

namespace Go.Mono
open Go Go.RowKit
theorem run_equalIn_pp {P : Program} (w : World) (d : Nat) (t : TypeId) (p q : Option Addr) (h : P.underlying t = some (.pointer (P.pointee t))) (hpq : p = none ∨ q = none) : (Op.equalIn (d + 1) t (.pointer p) (.pointer q)).run P w = .ok (p.isNone && q.isNone) w := by
  rcases hpq with rfl | rfl
  · cases q <;> simp [Op.equalIn, run_underlying h]
  · cases p <;> simp [Op.equalIn, run_underlying h]
theorem run_equal_pp {P : Program} (w : World) (t : TypeId) (p q : Option Addr) (h : P.underlying t = some (.pointer (P.pointee t))) (hpq : p = none ∨ q = none) : (Op.equal t (.pointer p) (.pointer q)).run P w = .ok (p.isNone && q.isNone) w := run_equalIn_pp w 9999 t p q h hpq
theorem eqlPP {P : Program} {w0 : World} {L : Env} {dst : Option Tmp} {ty : TypeId} {pos : String} {aft : Array Edge} {g : Option (Nat × Bool)} {x y : Operand} {t yt pe : TypeId} {p q : Option Addr} (ht0 : P.underlying t = some (.pointer pe)) (hx : opd L x = some (E (.pointer p))) (hy : opd L y = some (E (.pointer q))) (hpq : p = none ∨ q = none) :
    OpC P w0 L ⟨dst, .binOp .eql t x y yt, ty, pos, aft, g⟩ (E (.bool (p.isNone && q.isNone))) :=
  opc_eql hx hy (fun w => rfl) rfl fun w _ => run_equal_pp w t p q (ptee ht0) hpq
end Go.Mono

namespace Go.Mono
open Go Go.Proofs Go.RowKit Go.Gr
theorem diff_zero (V : BS) (i : Nat) : (V &&& ~~~(0 : BS)).getLsbD i = true ↔ V.getLsbD i = true := by
  rw [bit_diff]
  exact ⟨fun h => h.1, fun h => ⟨h, bit_zero i⟩⟩
theorem diff_zero' (V : BS) : V &&& ~~~(0 : BS) = V := set_ext' (diff_zero V)
section
variable {g : GT}
theorem widO_ok (G : Gr.Ok g) (hl : g.1.length ≤ 12) : (widO g).Nodup ∧ (∀ i, i ∈ widO g ↔ (vset g.1).getLsbD i = true) ∧ widL (nbA g) 0 (widO g) = rsR (nbA g) (vset g.1) 0 := by
  have hs := sml_ok G hl (all := vset g.1) fun i h => h
  have hb := rsR_bd (nb := nbA g) (all := vset g.1) 0
  obtain ⟨h1, h2, h3⟩ := grF_ok hs hb.1 (card (vset g.1)) 0 (by rw [diff_zero']) (Int.le_refl _)
  have h2' : ∀ i, i ∈ widO g ↔ (vset g.1).getLsbD i = true := fun i => by rw [widO, h2, diff_zero]
  have h4 := rsR_low (nb := nbA g) (all := vset g.1) (widO g) 0 h1 fun i => by rw [h2', diff_zero]
  refine ⟨h1, h2', ?_⟩
  have h3' : widL (nbA g) 0 (widO g) ≤ rsR (nbA g) (vset g.1) 0 := h3
  omega
theorem idN_range (G : Gr.Ok g) {l : List Nat} (hn : l.Nodup) (hm : ∀ i, i ∈ l ↔ (vset g.1).getLsbD i = true) : l.Perm ((List.range g.1.length).map (idN g)) := by
  refine (List.perm_ext_iff_of_nodup hn (List.pairwise_map.2 (List.Pairwise.imp_of_mem (fun {a b} ha hb hab hh => hab (idN_inj G (List.mem_range.1 ha) (List.mem_range.1 hb) hh)) List.nodup_range))).2 fun u => ?_
  rw [hm, List.mem_map]
  constructor
  · intro hu
    obtain ⟨p, _, hp, rfl⟩ := fnd_at G hu
    exact ⟨p, List.mem_range.2 hp, rfl⟩
  · rintro ⟨p, hp, rfl⟩
    exact (idN_at G (List.mem_range.1 hp)).2
theorem widO_len (G : Gr.Ok g) (hl : g.1.length ≤ 12) : (widO g).length = g.1.length := by
  obtain ⟨h1, h2, _⟩ := widO_ok G hl
  have := (idN_range G h1 h2).length_eq
  rwa [List.length_map, List.length_range] at this
theorem natL_bit (l : List Nat) (hl : ∀ v ∈ l, v < 1024) (i : Nat) : ((natL l).foldl ins 0).getLsbD i = true ↔ i ∈ l := by
  by_cases hi : i < 1024
  · rw [foldl_ins_bit i hi, Bool.or_eq_true, decide_eq_true_eq, natL, List.mem_map]
    constructor
    · rintro (h | ⟨v, hv, h⟩)
      · exact absurd h (bit_zero i)
      · rwa [show i = v by omega]
    · intro h; exact .inr ⟨i, h, rfl⟩
  · exact ⟨fun h => absurd (bit_lt h) hi, fun h => absurd (hl i h) hi⟩
theorem widO_set (G : Gr.Ok g) (hl : g.1.length ≤ 12) : (natL (widO g)).foldl ins 0 = vset g.1 := by
  obtain ⟨h1, h2, _⟩ := widO_ok G hl
  refine set_ext' fun i => ?_
  rw [natL_bit _ (fun v hv => bit_lt ((h2 v).1 hv)), h2]
/-- the cost of any order of all vertices -/
theorem cost_ge (G : Gr.Ok g) {l : List Nat} (hn : l.Nodup) (hm : ∀ i, i ∈ l ↔ (vset g.1).getLsbD i = true) : rsR (nbA g) (vset g.1) 0 ≤ costG g (natL l) := by
  rw [cost_widL G hn fun v hv => (hm v).1 hv]
  exact rsR_low l 0 hn fun i => by rw [hm, diff_zero]
theorem natL_in (G : Gr.Ok g) {l : List Nat} (hm : ∀ i ∈ l, (vset g.1).getLsbD i = true) : ∀ x ∈ natL l, 0 ≤ fndF g.1 x ∧ fndF g.1 x < (g.1.length : Nat) := fun x hx => by
  obtain ⟨v, hv, rfl⟩ := List.mem_map.1 hx
  obtain ⟨p, h1, h2, _⟩ := fnd_at G (hm v hv)
  rw [h1]; omega
/-- an order with two places exchanged -/
def swL (l : List Int) (a b : Nat) : List Int := (l.set a (gi l b)).set b (gi l a)
theorem swL_nat {l : List Nat} {a b : Nat} (ha : a < l.length) (hb : b < l.length) : ∃ m : List Nat, swL (natL l) a b = natL m ∧ m.Perm l := by
  refine ⟨(l.set a l[b]).set b l[a], ?_, List.set_set_perm ha hb⟩
  have hA : gi (natL l) a = (l[a] : Int) := by
    have h1 : (natL l)[a]? = some (gi (natL l) a) := gi_get (by simp [natL]; exact ha)
    rw [natL, List.getElem?_map, List.getElem?_eq_getElem ha] at h1
    exact (Option.some.inj h1).symm
  have hB : gi (natL l) b = (l[b] : Int) := by
    have h1 : (natL l)[b]? = some (gi (natL l) b) := gi_get (by simp [natL]; exact hb)
    rw [natL, List.getElem?_map, List.getElem?_eq_getElem hb] at h1
    exact (Option.some.inj h1).symm
  rw [swL, hA, hB, natL, natL, List.map_set, List.map_set]
end
/-- the store of a number in the middle of a region -/
theorem xst1J {P : Program} {w0 : World} {L : Env} {ty : TypeId} {pos : String} {aft : Array Edge} {x y : Operand} {t bt : TypeId} {b off : Nat} {v : Value} {cs : Array Value} (ht : TI P t false 1) (hx : opd L x = some (E (.pointer (some ⟨b, off, none⟩)))) (hy : opd L y = some (E v)) (h1 : v.oneCell' = true) (hb : Blk w0 b cs bt) (ho : off < cs.size) :
    XOpJ P w0 (Chg fun c => c = b) (fun w' => Blk w' b (cs.setIfInBounds off v) bt) L ⟨none, .store t x y, ty, pos, aft, none⟩ Any := by
  refine ⟨fun ρ w he hv => ?_⟩
  have hxv : ρ x = .pointer (some ⟨b, off, none⟩) := hv x (by simp [Op.operands]) _ hx
  have hyv : ρ y = v := hv y (by simp [Op.operands]) _ hy
  have hc : v.cells = #[v] := by cases v <;> simp [Value.cells, Value.oneCell'] at h1 ⊢
  have hb' := hb.ext he
  have hrun := run_storeCells_at (P := P) b off bt [v] 0 cs w hb' (by simp; omega) (by simpa using h1)
  have e := setRow_take cs off v ho
  simp only [List.length_singleton, Nat.add_zero] at hrun
  rw [e] at hrun
  have hrun2 : OpR P ⟨none, .store t x y, ty, pos, aft, none⟩ ρ w (fun _ w' => w' = w.setRow b (cs.setIfInBounds off v)) := by
    simp [OpR, execOp, Instr.storeAt, Instr.sureAddr, hxv, hyv, storeVar, hc, ht.size, hrun]
  refine hrun2.mono ?_
  rintro u w' rfl
  have hg := grownBy_setRow w b (cs.setIfInBounds off v)
  exact ⟨⟨hg.os, hg.tape, hg.output, hg.size, fun k hk hn => hg.block k hk fun hh => hn (by cases hh; rfl)⟩, trivial, setRow_heap _ _ _ _ _ _ hb'⟩
end Go.Mono
