/-
  A frame without a leaf: RemoveLeaf, walked for a bag that is a leaf.
  No condition.
-/
import Derived.Test.YtnhbkdliljcedaaDoorEqual
set_option linter.unusedVariables false
set_option linter.unusedSimpArgs false
set_option linter.unusedVariables false
set_option linter.unusedSimpArgs false
namespace Go.Mono
open Go Go.Proofs Go.RowKit

/-- a row of bags, of which f tells the first n -/
structure BR (n : Nat) (f : Nat → Int × BS) (cap : Nat) (cur : Array Value) : Prop where
  size : cur.size = cap * 17
  le : n ≤ cap
  el : ∀ i, i < n → ∀ j, j < 17 → cur[i * 17 + j]? = (bagC (f i))[j]?
theorem BR.up {n cap : Nat} {f : Nat → Int × BS} {cur : Array Value} (h : BR n f cap cur) {i : Nat} (hi : i < n) : cur[0 + ((i : Nat) : Int).toNat * 17 + 0]? = some (I (f i).1) := by
  rw [Int.toNat_natCast, Nat.zero_add, h.el i hi 0 (by omega)]; rfl
theorem BR.bag {n cap : Nat} {f : Nat → Int × BS} {cur : Array Value} (h : BR n f cap cur) {i : Nat} (hi : i < n) : Value.agg (cur.extract (0 + ((i : Nat) : Int).toNat * 17) (0 + ((i : Nat) : Int).toNat * 17 + 17)) = bagV (f i) := by
  refine congrArg Value.agg (Array.ext_getElem? fun j => ?_)
  have hs := h.size
  have hl := h.le
  rw [Int.toNat_natCast, Nat.zero_add, Array.getElem?_extract]
  split
  · rename_i hj
    exact h.el i hi j (by omega)
  · rename_i hj
    rw [Array.getElem?_eq_none]
    rw [bagC_size]
    omega
theorem BR.setUp {n cap : Nat} {f : Nat → Int × BS} {cur : Array Value} (h : BR n f cap cur) {i : Nat} (hi : i < n) (p : Int) : BR n (fun j => if j = i then (p, (f i).2) else f j) cap (cur.setIfInBounds (0 + ((i : Nat) : Int).toNat * 17 + 0) (I p)) := by
  refine ⟨by simp [h.size], h.le, fun k hk j hj => ?_⟩
  rw [Int.toNat_natCast, Nat.zero_add, Nat.add_zero, Array.getElem?_setIfInBounds]
  have hs := h.size
  have hl := h.le
  by_cases hki : k = i
  · subst hki
    simp only [if_true]
    by_cases h0 : j = 0
    · subst h0
      rw [if_pos (by omega), if_pos (by omega)]; rfl
    · rw [if_neg (by omega), h.el k hk j hj]
      obtain ⟨j, rfl⟩ := Nat.exists_eq_succ_of_ne_zero h0
      simp [bagC]
  · simp only [if_neg hki]
    rw [if_neg (by omega), h.el k hk j hj]
theorem BR.setBag {n cap : Nat} {f : Nat → Int × BS} {cur : Array Value} (h : BR n f cap cur) {i : Nat} (hi : i < n) (x : Int × BS) : BR n (fun j => if j = i then x else f j) cap (cur.toList.take (0 + ((i : Nat) : Int).toNat * 17) ++ (bagC x).toList ++ cur.toList.drop (0 + ((i : Nat) : Int).toNat * 17 + 17)).toArray := by
  have hs := h.size
  have hl := h.le
  have hb : (bagC x).toList.length = 17 := by rw [Array.length_toList, bagC_size]
  have hc : cur.toList.length = cap * 17 := by rw [Array.length_toList, hs]
  rw [Int.toNat_natCast, Nat.zero_add]
  have ht : (cur.toList.take (i * 17)).length = i * 17 := by rw [List.length_take, hc]; omega
  refine ⟨?_, h.le, fun k hk j hj => ?_⟩
  · rw [List.size_toArray, List.length_append, List.length_append, ht, hb, List.length_drop, hc]; omega
  rw [List.getElem?_toArray]
  by_cases hki : k = i
  · subst hki
    simp only [if_true]
    rw [List.append_assoc, List.getElem?_append_right (by omega), ht, List.getElem?_append_left (by omega), show k * 17 + j - k * 17 = j from by omega, Array.getElem?_toList]
  · simp only [if_neg hki]
    rw [← h.el k hk j hj]
    by_cases hlt : k < i
    · rw [List.append_assoc, List.getElem?_append_left (by omega), List.getElem?_take, if_pos (by omega), Array.getElem?_toList]
    · rw [List.getElem?_append_right (by rw [List.length_append, ht, hb]; omega), List.length_append, ht, hb, List.getElem?_drop, Array.getElem?_toList]
      congr 1; omega
theorem bag_cellsD {G : Nat → Prop} {w : World} : ∀ {t : List (Int × BS)} {cs : List Value}, Cells bagE G w t cs → ∀ i, i < t.length → ∀ j, j < 17 → cs[i * 17 + j]? = (bagC (bg t i))[j]?
  | [], cs, h, i, hi, j, hj => by cases hi
  | x :: t, cs, ⟨c, d, h, h1, h2⟩, i, hi, j, hj => by
    obtain ⟨c1, c2, rfl, e1, e2⟩ := h1
    have e1 : c1 = [I x.1] := e1
    have e2 : c2 = (setC x.2).toList := e2
    subst e1; subst e2; subst h
    have hl : ([I x.1] ++ (setC x.2).toList).length = 17 := by simp [setC_size]
    cases i with
    | zero =>
      rw [List.getElem?_append_left (by omega), Nat.zero_mul, Nat.zero_add]
      show _ = (bagC x)[j]?
      simp [bagC]
    | succ i =>
      rw [List.getElem?_append_right (by omega), hl, show (i + 1) * 17 + j - 17 = i * 17 + j from by omega, bag_cellsD h2 i (by simpa using hi) j hj]
      simp [bg]
theorem br_cells {G : Nat → Prop} {n cap : Nat} {f : Nat → Int × BS} {cur : Array Value} {w : World} (h : BR n f cap cur) : ∀ m s, s + m = n → Cells bagE G w ((List.range' s m).map f) ((cur.toList.take (n * 17)).drop (s * 17))
  | 0, s, hs => by
    have : (cur.toList.take (n * 17)).drop (s * 17) = [] := List.drop_eq_nil_of_le (by rw [List.length_take]; omega)
    rw [this]; rfl
  | m + 1, s, hs => by
    rw [List.range'_succ, List.map_cons]
    have hz := h.size
    have hl := h.le
    have hc : cur.toList.length = cap * 17 := by rw [Array.length_toList, hz]
    have hd : (cur.toList.take (n * 17)).drop (s * 17) = ([I (f s).1] ++ (setC (f s).2).toList) ++ (cur.toList.take (n * 17)).drop ((s + 1) * 17) := by
      have hb : ([I (f s).1] ++ (setC (f s).2).toList).length = 17 := by simp [setC_size]
      refine List.ext_getElem? fun j => ?_
      by_cases hj : j < 17
      · rw [List.getElem?_append_left (by omega), List.getElem?_drop, List.getElem?_take, if_pos (by omega), Array.getElem?_toList, h.el s (by omega) j hj]
        simp [bagC]
      · rw [List.getElem?_append_right (by omega), hb, List.getElem?_drop, List.getElem?_drop]
        congr 1; omega
    rw [hd]
    exact ⟨_, _, rfl, ⟨_, _, rfl, rfl, rfl⟩, br_cells h m (s + 1) (by omega)⟩
theorem BR.dv {n cap : Nat} {G : Nat → Prop} {f : Nat → Int × BS} {cur : Array Value} {w : World} {g : Nat} (h : BR n f cap cur) (hb : Blk w g cur 86) (hG : ¬G g) : (Dv treeE G ((List.range n).map f)).p (.slice (some ⟨g, 0, none⟩) n cap) w := by
  have hc := br_cells (G := G) (w := w) h n 0 (Nat.zero_add n)
  rw [Nat.zero_mul, List.drop_zero, ← List.range_eq_range'] at hc
  have hz := h.size
  have hl := h.le
  refine Dv.sl.2 (.inr ⟨⟨g, 0, none⟩, cap, cur.toList.take (n * 17), ?_, by simp; exact hl, hG, hb.lt, hc, fun i u hu => ?_⟩)
  · simp
  · rw [Addr.add_lit, Nat.zero_add, hb.cell i]
    rw [List.getElem?_take] at hu
    split at hu
    · simpa using hu
    · cases hu
/-- the tree without bag b, whose index the last bag takes -/
def detB (t : List (Int × BS)) (b : Nat) (i : Nat) : Int × BS := if i = b then bg t (t.length - 1) else bg t i
def detF (t : List (Int × BS)) (b : Nat) (i : Nat) : Int × BS := if (detB t b i).1 = ((t.length - 1 : Nat) : Int) then ((b : Int), (detB t b i).2) else detB t b i
def detM (t : List (Int × BS)) (b : Nat) : List (Int × BS) := (List.range (t.length - 1)).map (detF t b)
theorem BR.cong {n cap : Nat} {f f' : Nat → Int × BS} {cur : Array Value} (h : BR n f cap cur) (hf : ∀ i, i < n → f i = f' i) : BR n f' cap cur := ⟨h.size, h.le, fun i hi j hj => by rw [h.el i hi j hj, hf i hi]⟩

theorem fremove_ok {G : Nat → Prop} (F : Fm) (b : Nat) (v : Value) (W : World) (hT : Tab W) (h : (Dv (ptE frE) G (some F)).p v W) (hl : F.1.length ≤ 1000) (hn : F.2.1.length = F.1.length) (hb : b < F.1.length) (hp : 0 ≤ (bg F.1 b).1) (hk : (ofF F (b : Int)).1 = []) :
    Calls Tryd.prog 65 #[v, I b] W (Post (Tup [NewA (detM F.1 b) Go.Mono.G0, E (I (newR (toT (detM F.1 b))))]) W) := by
  have hin : inT F.1 (b : Int) = true := by simp [inT, hb]
  refine enter (args := [v, I b]) (As := [Dv (ptE frE) Go.Mono.G0 (some F), E (I b)]) Tryd.func65 rfl Tryd.ntmps65 (Nat.le_of_ble_eq_true rfl) ?_ (fun a hf => ?_) (Nat.le_of_ble_eq_true rfl)
  rotate_left
  dsimp only [params, Nat.reduceAdd] at hf
  rotate_right
  · exact arg2 (Dv.weak h fun b _ hb => hb.elim) rfl
  have e := Ext.rfl' W
  have hT0 := hT.lt
  repeat refine seq ?_
  refine regn0 ?_
  refine tl_as hf rfl (by decide) fun a hf => ?_
  refine tl_as hf rfl (by decide) fun a hf => ?_
  refine tl_nil ?_
  replace hf := hf.keep [0, 1]
  dsimp only [keep, List.filterMap, look, Nat.beq, Option.map] at hf
  repeat refine seq ?_
  refine blk ?_
  repeat refine seq ?_
  refine regn 2 hf (by decide +kernel) ?_
  refine st (mv rfl) ?_
  refine st (eqlP Tryd.underlying24 (isR rfl)) ?_
  refine en fun a w e' hf => ?_
  replace hT := hT.ext e'
  replace e := Ext.tr e e'
  clear e'
  refine tl_as hf rfl (by decide) fun a hf => ?_
  refine tl_nil ?_
  repeat refine seq ?_
  refine ifc hf rfl (fun h => by cases h) (fun _ => ?_)
  repeat refine seq ?_
  refine regn 4 hf (by decide +kernel) ?_
  refine st (mv rfl) ?_
  refine st (mv rfl) ?_
  refine st (call2 En91 rfl rfl (fun v u w he h h' => by cases h'; exact fis_spec F _ _ w h)) ?_
  refine st ((notp rfl).eq (congrArg Value.bool (show (!inT F.1 (b : Int)) = false from by rw [hin]; rfl))) ?_
  refine en fun a w e' hf => ?_
  replace hT := hT.ext e'
  replace e := Ext.tr e e'
  clear e'
  refine tl_as hf rfl (by decide) fun a hf => ?_
  refine tl_nil ?_
  repeat refine seq ?_
  refine ifc hf rfl (fun h => by cases h) (fun _ => ?_)
  repeat refine seq ?_
  refine regn 11 hf (by decide +kernel) ?_
  refine st (mv rfl) ?_
  refine st (mv rfl) ?_
  refine st ((call2 En29 rfl rfl (fun v u w he h h' => by cases h'; exact fparent_spec F _ _ w h)).eq (show I _ = I (bg F.1 b).1 from by rw [hin, Int.toNat_natCast]; rfl)) ?_
  refine st ((lss rfl rfl).eq (congrArg Value.bool (decide_eq_false (by omega)))) ?_
  refine st (mv rfl) ?_
  first | refine sn rfl rfl rfl ?_ | refine su rfl rfl ?_ | refine sy rfl rfl (mv rfl) ?_
  first | refine sn rfl rfl rfl ?_ | refine su rfl rfl ?_ | refine sy rfl rfl (mv rfl) ?_
  first | refine sn rfl rfl rfl ?_ | refine su rfl rfl ?_ | refine sy rfl rfl ((call2 En43 rfl rfl (fun v u w he h h' => by cases h'; exact postG (G := Go.Mono.G0) (fchildren_spec F _ _ w h hn (by rw [hk]; simp)) (fun b hb => hb.elim))).dv (hk)) ?_
  first | refine sn rfl rfl rfl ?_ | refine su rfl rfl ?_ | refine sy rfl rfl (lenD Tryd.underlying43 (isR rfl)) ?_
  first | refine sn rfl rfl rfl ?_ | refine su rfl rfl ?_ | refine sy rfl rfl ((gtr rfl rfl).eq (congrArg Value.bool (show decide ((0 : Int) < ((List.length ([] : List Int) : Nat) : Int)) = false from rfl))) ?_
  first | refine st (pkT rfl rfl) ?_ | refine st (pkF rfl rfl) ?_ | refine st (pk rfl rfl rfl) ?_
  refine en fun a w e' hf => ?_
  replace hT := hT.ext e'
  replace e := Ext.tr e e'
  clear e'
  refine tl_as hf rfl (by decide) fun a hf => ?_
  refine tl_nil ?_
  repeat refine seq ?_
  refine ifc hf rfl (fun h => by cases h) (fun _ => ?_)
  refine wskip ?_
  try simp only [Exit.then, Exit.inBlock, ↓reduceIte]
  replace hf := hf.keep [0, 1]
  dsimp only [keep, List.filterMap, look, Nat.beq, Option.map] at hf
  repeat refine seq ?_
  refine regn 2 hf (by decide +kernel) ?_
  refine st (mv rfl) ?_
  refine st (call1 (A := OwA bagE 86 W.heap.size Go.Mono.G0 F.1) En36 rfl (fun v w he h => fbagsO_spec W.heap.size F v w h (by omega) (Nat.le_trans e.size he.size))) ?_
  refine en fun a w e' hf => ?_
  replace hT := hT.ext e'
  replace e := Ext.tr e e'
  clear e'
  refine tl_as hf rfl (by decide) fun a hf => ?_
  refine tl_nil ?_
  obtain ⟨u, ho, hf⟩ := hf.fix 6 rfl
  have ho : OwR bagE 86 W.heap.size Go.Mono.G0 w F.1 u := ho
  replace hf := hf.keep [1, 6]
  dsimp only [keep, List.filterMap, look, Nat.beq, Option.map] at hf
  obtain ⟨cs, ⟨_, hrow⟩, hcs⟩ := ho.own
  rcases hrow with ⟨_, hn0⟩ | ⟨g, cap, cur, rfl, hB, hg0, hcap, hm, hs, ht⟩
  · omega
  simp only [show (bagE).k = 17 from rfl] at hs ht
  have hbc := bag_cellsD hcs
  have B6 : Blk w g cur 86 := hg0
  have R0 : BR F.1.length (bg F.1) cap cur := ⟨hs, hcap, fun i hi j hj => by
    rw [← hbc i hi j hj, ← ht, List.getElem?_take, if_pos (by omega), Array.getElem?_toList]⟩
  clear ht hs hcs ho hbc hg0
  obtain ⟨n, hnn⟩ : ∃ n, n = F.1.length := ⟨_, rfl⟩
  rw [← hnn] at hf R0
  repeat refine seq ?_
  refine regn 3 hf (by decide +kernel) ?_
  refine st (mv rfl) ?_
  refine st (lenE Tryd.underlying23 rfl) ?_
  refine st ((sub rfl rfl (by omega)).eq (congrArg (Value.int .i64) (show ((n : Nat) : Int) - 1 = ((n - 1 : Nat) : Int) from by omega))) ?_
  refine en fun a w e' hf => ?_
  replace hT := hT.ext e'
  replace e := Ext.tr e e'
  replace B6 := B6.ext e'
  clear e'
  refine tl_as hf rfl (by decide) fun a hf => ?_
  refine tl_nil ?_
  replace hf := hf.keep [1, 6, 7]
  dsimp only [keep, List.filterMap, look, Nat.beq, Option.map] at hf
  have hgT : 0 < g := Nat.lt_of_lt_of_le hT0 hB
  repeat refine seq ?_
  refine regn 7 hf (by decide +kernel) ?_
  refine st (mv rfl) ?_
  refine st (mv rfl) ?_
  refine st (mv rfl) ?_
  refine st (mv rfl) ?_
  refine st (idxS Tryd.underlying23 S86 rfl rfl (by omega)) ?_
  refine st ((ldP T86 rfl B6 (by have := R0.size; have := R0.le; omega)).eq (R0.bag (by omega))) ?_
  refine st (idxS Tryd.underlying23 S86 rfl rfl (by omega)) ?_
  refine en fun a w e' hf => ?_
  replace hT := hT.ext e'
  replace e := Ext.tr e e'
  replace B6 := B6.ext e'
  clear e'
  refine tl_stP T86 hf rfl rfl (bagC_one _) B6 (bagC_size _) (by have := R0.size; have := R0.le; omega) fun w hg hsz B6 hf => ?_
  replace R0 := (R0.setBag (i := b) (by omega) (bg F.1 (n - 1))).cong (f' := detB F.1 b) fun i hi => by rw [detB, hnn]
  replace hT := hT.gr hg hgT
  replace e := e.gr hg (by omega)
  clear hg
  refine tl_nil ?_
  replace hf := hf.keep [1, 6, 7]
  dsimp only [keep, List.filterMap, look, Nat.beq, Option.map] at hf
  repeat refine seq ?_
  refine regn 3 hf (by decide +kernel) ?_
  refine st (mv rfl) ?_
  refine st (lenE Tryd.underlying23 rfl) ?_
  refine st (mv rfl) ?_
  refine en fun a w e' hf => ?_
  replace hT := hT.ext e'
  replace e := Ext.tr e e'
  replace B6 := B6.ext e'
  clear e'
  refine tl_nil ?_
  have Hr0 := R0.cong (f' := fun i => if i < 0 then detF F.1 b i else detB F.1 b i) fun i hi => by simp
  have hlast : ((F.1.length - 1 : Nat) : Int) = ((n - 1 : Nat) : Int) := by rw [hnn]
  generalize hcur : (_ : List Value).toArray = cur' at B6 R0 Hr0
  clear R0 hcur
  replace hf := hf.keep [1, 6, 7, 42, 43]
  dsimp only [keep, List.filterMap, look, Nat.beq, Option.map] at hf
  repeat refine seq ?_
  refine blk (loopN (fun r0 a w => ∃ (k : Nat) (cur : Array Value), r0 = n - k ∧ k ≤ n ∧ Fr 65 a w [(1, E (I (b : Nat))), (6, E (.slice (some ⟨g, 0, none⟩) n cap)), (7, E (I (n - 1 : Nat))), (42, E (I (n : Nat))), (43, E (I k))] ∧ Ext W w ∧ Blk w g cur 86 ∧ Tab w ∧ BR n (fun i => if i < k then detF F.1 b i else detB F.1 b i) cap cur) n ⟨0, cur', rfl, by omega, hf, e, B6, hT, Hr0⟩ ?_)
  clear hf e; try clear B6; try clear hT; try clear R0
  rintro r0 a w ⟨k, cur, rfl, hk, hf, e, B6, hT, R0⟩
  repeat refine seq ?_
  refine regn 1 hf (by decide +kernel) ?_
  refine st (lss rfl rfl) ?_
  refine en fun a w e' hf => ?_
  replace hT := hT.ext e'
  replace e := Ext.tr e e'
  replace B6 := B6.ext e'
  clear e'
  refine tl_nil ?_
  repeat refine seq ?_
  refine ifc hf rfl (fun hc => wskip ?_) (fun hc => wexit ?_)
  rotate_left
  rotate_left
  · have hlt : k < n := by have := of_decide_eq_true hc; (try dsimp only at this); omega
    clear hc
    replace hf := hf.keep [1, 6, 7, 42, 43]
    dsimp only [keep, List.filterMap, look, Nat.beq, Option.map] at hf
    repeat refine seq ?_
    refine blk ?_
    repeat refine seq ?_
    refine regn 1 hf (by decide +kernel) ?_
    refine st (mv rfl) ?_
    refine en fun a w e' hf => ?_
    replace hT := hT.ext e'
    replace e := Ext.tr e e'
    replace B6 := B6.ext e'
    clear e'
    refine tl_as hf rfl (by decide) fun a hf => ?_
    refine tl_nil ?_
    have hup := R0.up hlt
    rw [if_neg (Nat.lt_irrefl k)] at hup
    repeat refine seq ?_
    refine regn 7 hf (by decide +kernel) ?_
    refine st (mv rfl) ?_
    refine st (mv rfl) ?_
    refine st (idxS Tryd.underlying23 S86 rfl rfl (by omega)) ?_
    refine st (fldA Tryd.underlying86 rfl T3 (by decide) rfl) ?_
    refine st (ld1 T3 rfl B6 hup) ?_
    refine st (mv rfl) ?_
    refine st (eql rfl rfl) ?_
    refine en fun a w e' hf => ?_
    replace hT := hT.ext e'
    replace e := Ext.tr e e'
    replace B6 := B6.ext e'
    clear e'
    refine tl_nil ?_
    have hcg : ∀ x, (if (detB F.1 b k).1 = ((n - 1 : Nat) : Int) then (((b : Nat) : Int), (detB F.1 b k).2) else detB F.1 b k) = x → x = detF F.1 b k := fun x h => by rw [← h, detF, hlast]
    repeat refine seq ?_
    refine ifc hf rfl (fun hb => ?_) (fun hb => ?_)
    · have hb' : (detB F.1 b k).1 = ((n - 1 : Nat) : Int) := by simpa using hb
      rw [if_pos hb'] at hcg
      repeat refine seq ?_
      refine regn 5 hf (by decide +kernel) ?_
      refine st (mv rfl) ?_
      refine st (mv rfl) ?_
      refine st (mv rfl) ?_
      refine st (idxS Tryd.underlying23 S86 rfl rfl (by omega)) ?_
      refine st (fldA Tryd.underlying86 rfl T3 (by decide) rfl) ?_
      refine en fun a w e' hf => ?_
      replace hT := hT.ext e'
      replace e := Ext.tr e e'
      replace B6 := B6.ext e'
      clear e'
      refine tl_st1 T3 hf rfl rfl rfl B6 (by have := R0.size; have := R0.le; show 0 + ((k : Nat) : Int).toNat * 17 + 0 < _; omega) fun w hg hsz B6 hf => ?_
      replace hT := hT.gr hg hgT
      replace e := e.gr hg (by omega)
      clear hg
      refine tl_nil ?_
      replace R0 := (R0.setUp hlt (b : Int)).cong (f' := fun i => if i < k + 1 then detF F.1 b i else detB F.1 b i) fun i hi => by
        by_cases h1 : i = k
        · subst h1
          rw [if_pos rfl, if_pos (Nat.lt_succ_self _), ← hcg _ rfl, if_neg (Nat.lt_irrefl _)]
        · rw [if_neg h1]
          by_cases h2 : i < k
          · rw [if_pos h2, if_pos (by omega)]
          · rw [if_neg h2, if_neg (by omega)]
      obtain ⟨cur2, B6, R0⟩ : ∃ c, Blk w g c 86 ∧ BR n (fun i => if i < k + 1 then detF F.1 b i else detB F.1 b i) cap c := ⟨_, B6, R0⟩
      try simp only [Exit.then, Exit.inBlock, ↓reduceIte]
      repeat refine seq ?_
      refine regn 1 hf (by decide +kernel) ?_
      refine st ((add rfl rfl (by omega)).eq (congrArg (Value.int .i64) (show (k : Int) + 1 = ((k + 1 : Nat) : Int) from rfl))) ?_
      refine en fun a w e' hf => ?_
      replace hT := hT.ext e'
      replace e := Ext.tr e e'
      replace B6 := B6.ext e'
      clear e'
      refine tl_op hf (by decide) (mv rfl) fun a w e' hf => ?_
      replace hT := hT.ext e'
      replace e := Ext.tr e e'
      replace B6 := B6.ext e'
      clear e'
      refine tl_nil ?_
      replace hf := hf.keep [1, 6, 7, 42, 43]
      dsimp only [keep, List.filterMap, look, Nat.beq, Option.map] at hf
      refine ⟨_, ?_, k + 1, cur2, rfl, by omega, hf, e, ?_⟩
      · omega
      exact ⟨B6, hT, R0⟩
    · have hb' : ¬ (detB F.1 b k).1 = ((n - 1 : Nat) : Int) := by simpa using hb
      rw [if_neg hb'] at hcg
      refine wskip ?_
      try simp only [Exit.then, Exit.inBlock, ↓reduceIte]
      replace R0 := R0.cong (f' := fun i => if i < k + 1 then detF F.1 b i else detB F.1 b i) fun i hi => by
        by_cases h1 : i = k
        · subst h1
          rw [if_neg (Nat.lt_irrefl _), if_pos (Nat.lt_succ_self _), ← hcg _ rfl]
        · by_cases h2 : i < k
          · rw [if_pos h2, if_pos (by omega)]
          · rw [if_neg h2, if_neg (by omega)]
      try simp only [Exit.then, Exit.inBlock, ↓reduceIte]
      repeat refine seq ?_
      refine regn 1 hf (by decide +kernel) ?_
      refine st ((add rfl rfl (by omega)).eq (congrArg (Value.int .i64) (show (k : Int) + 1 = ((k + 1 : Nat) : Int) from rfl))) ?_
      refine en fun a w e' hf => ?_
      replace hT := hT.ext e'
      replace e := Ext.tr e e'
      replace B6 := B6.ext e'
      clear e'
      refine tl_op hf (by decide) (mv rfl) fun a w e' hf => ?_
      replace hT := hT.ext e'
      replace e := Ext.tr e e'
      replace B6 := B6.ext e'
      clear e'
      refine tl_nil ?_
      replace hf := hf.keep [1, 6, 7, 42, 43]
      dsimp only [keep, List.filterMap, look, Nat.beq, Option.map] at hf
      refine ⟨_, ?_, k + 1, cur, rfl, by omega, hf, e, ?_⟩
      · omega
      exact ⟨B6, hT, R0⟩
  · obtain rfl : k = n := by have := of_decide_eq_false hc; (try dsimp only at this); omega
    clear hc
    simp only [Exit.then, Exit.inBlock, ↓reduceIte]
    replace hf := hf.keep [6, 7]
    dsimp only [keep, List.filterMap, look, Nat.beq, Option.map] at hf
    have HV : (Dv treeE Go.Mono.G0 ((List.range k).map (detF F.1 b))).p (.slice (some ⟨g, 0, none⟩) k cap) w := (R0.cong (f' := detF F.1 b) fun i hi => by rw [if_pos hi]).dv B6 fun h => h.elim
    have htk : ((List.range k).map (detF F.1 b)).take (k - 1) = detM F.1 b := by
      rw [← List.map_take, List.take_range, Nat.min_eq_left (by omega), detM, hnn]
    repeat refine seq ?_
    refine regn 6 hf (by decide +kernel) ?_
    refine st (mv rfl) ?_
    refine st (mv rfl) ?_
    refine st ((slcD Tryd.underlying23 S86 (isE rfl HV) rfl (by simp)).dv (htk)) ?_
    refine st (call1 En32 rfl (fun v w he h => fnew0_spec (detM F.1 b) v w (hT.ext he) h (by simp [detM]; omega))) ?_
    refine st (ext_ rfl rfl) ?_
    refine st (ext_ rfl rfl) ?_
    refine en fun a w e' hf => ?_
    replace hT := hT.ext e'
    replace e := Ext.tr e e'
    replace B6 := B6.ext e'
    clear e'
    refine tl_as hf rfl (by decide) fun a hf => ?_
    refine tl_as hf rfl (by decide) fun a hf => ?_
    refine tl_nil ?_
    refine wret (ret2 rfl hf rfl rfl ?_)
    rintro u _ hu rfl
    exact ⟨_, rfl, e, Tup.two hu rfl⟩
end Go.Mono
