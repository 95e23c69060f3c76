/-
  An argument of type Tree, opened: its bags, as a datum.
  No condition.
-/
import Derived.Test.YtnhbkdliljcedaaDoorWB
import Derived.OpenShut
import Derived.Deep.Slices
import Derived.ChangeSame
set_option linter.unusedVariables false
set_option linter.unusedSimpArgs false
set_option linter.unusedVariables false
set_option linter.unusedSimpArgs false
namespace Go.Mono
open Go Go.Proofs Go.RowKit Go.ChangeShapes Go.WideShapes

theorem cellsBag : Tryd.prog.cellsOf 86 = 17 := by kernel_rfl
theorem cellsInt : Tryd.prog.cellsOf 3 = 1 := by kernel_rfl
theorem cellsSet : Tryd.prog.cellsOf 37 = 16 := by kernel_rfl
theorem cellsU64 : Tryd.prog.cellsOf 35 = 1 := by kernel_rfl
/-- sixteen words make a set -/
def ofW (f : Nat → BitVec 64) : Nat → BS
  | 0 => 0
  | n + 1 => ofW f n ||| ((f n).setWidth 1024 <<< (64 * n))
theorem word_shl (x : BitVec 64) (n i : Nat) (hi : i < 16) (hn : n < 16) : word (x.setWidth 1024 <<< (64 * n)) i = if i = n then x else 0 := by
  refine BitVec.eq_of_getLsbD_eq fun j hj => ?_
  rw [word_bit _ _ _ hj]
  have e : (x.setWidth 1024 <<< (64 * n)).getLsbD (64 * i + j) = (decide (64 * i + j < 1024) && !decide (64 * i + j < 64 * n) && (x.setWidth 1024).getLsbD (64 * i + j - 64 * n)) := BitVec.getLsbD_shiftLeft _ _
  rw [e, BitVec.getLsbD_setWidth]
  by_cases h : i = n
  · subst h
    have h1 : 64 * i + j - 64 * i = j := by omega
    have h2 : 64 * i + j < 1024 := by omega
    have h3 : ¬ 64 * i + j < 64 * i := by omega
    have h4 : j < 1024 := by omega
    simp only [h1, h2, h3, h4, decide_true, decide_false, Bool.not_false, Bool.true_and, if_true]
  · rw [if_neg h]
    by_cases h3 : i < n
    · have : 64 * i + j < 64 * n := by omega
      simp [this]
    · have h5 : 64 ≤ 64 * i + j - 64 * n := by omega
      have : x.getLsbD (64 * i + j - 64 * n) = false := BitVec.getLsbD_of_ge _ _ h5
      simp [this]
theorem ofW_word (f : Nat → BitVec 64) : ∀ n, n ≤ 16 → ∀ i, i < 16 → word (ofW f n) i = if i < n then f i else 0
  | 0, _, i, hi => by rw [ofW, word_zero]; simp
  | n + 1, hn, i, hi => by
    rw [ofW, word_or, ofW_word f n (by omega) i hi, word_shl _ _ _ hi (by omega)]
    by_cases h1 : i = n
    · subst h1; simp
    · by_cases h2 : i < n
      · rw [if_pos h2, if_neg h1, if_pos (by omega)]; simp
      · rw [if_neg h2, if_neg h1, if_neg (by omega)]; simp
theorem wordsC_ofW (f : Nat → BitVec 64) : setC (ofW f 16) = wordsC f := wordsC_congr fun i hi => by rw [ofW_word f 16 (Nat.le_refl _) i hi, if_pos hi]

section
variable {H : Type} {enc : TypeId × Value → H} {w : World} {base : Nat} {spare : Nat → Bool} {held : Bool}
theorem u64_of {z : Int} (h : (Lit.int .u64 z).wf = true) : Value.int .u64 z = Mono.W (BitVec.ofNat 64 z.toNat) := by
  have h1 : IntKind.u64.min = 0 := by decide
  have h2 : IntKind.u64.max = 18446744073709551615 := by decide
  simp only [Lit.wf, h1, h2, Bool.and_eq_true, decide_eq_true_eq] at h
  rw [Mono.W, BitVec.toNat_ofNat, Nat.mod_eq_of_lt (by omega), Int.toNat_of_nonneg h.1]
/-- the cells of one bag -/
theorem bag_cells {n : Nat} {cs : List Value} {x : DataW H × List MemPlace} (h : DataW.trod enc Tryd.prog w base spare held n 86 cs = some x) : ∃ b : Int × BS, cs = (bagC b).toList := by
  obtain ⟨y0, y1, m, _, hl, h0, h1⟩ := trod_struct2 Tryd.underlying86 h
  rw [cellsBag] at hl
  change DataW.trod enc Tryd.prog w base spare held m 3 ((cs.drop 0).take (Tryd.prog.cellsOf 3)) = some y0 at h0
  change DataW.trod enc Tryd.prog w base spare held m 37 ((cs.drop 1).take (Tryd.prog.cellsOf 37)) = some y1 at h1
  rw [cellsInt] at h0
  rw [cellsSet] at h1
  obtain ⟨z, hz, _, _⟩ := DataW.trod_int Tryd.underlying3 h0
  obtain ⟨xs, m2, _, _, hl2, hxl, hall⟩ := DataW.trod_array Tryd.underlying37 h1
  have hw : ∀ i, i < 16 → ∃ y : BitVec 64, cs[1 + i]? = some (Mono.W y) := by
    intro i hi
    have := hall i hi
    rw [cellsU64, Nat.mul_one] at this
    obtain ⟨b, hb⟩ : ∃ b, xs[i]? = some b := ⟨_, List.getElem?_eq_getElem (by omega)⟩
    rw [hb] at this
    obtain ⟨u, hu, _, hwf⟩ := DataW.trod_int Tryd.underlying35 this
    refine ⟨BitVec.ofNat 64 u.toNat, ?_⟩
    rw [← u64_of hwf]
    have h3 := congrArg (fun l : List Value => l[0]?) hu
    simp only [List.getElem?_cons_zero] at h3
    rw [List.getElem?_take, if_pos (by decide), List.getElem?_drop, Nat.add_zero, List.getElem?_take, if_pos hi, List.getElem?_drop] at h3
    exact h3
  obtain ⟨f, hf⟩ := Deep.choose_lt (n := 16) (p := fun i (y : BitVec 64) => cs[1 + i]? = some (Mono.W y)) hw
  refine ⟨(z, ofW f 16), ?_⟩
  apply List.ext_getElem?
  intro j
  simp only [bagC, wordsC_ofW]
  cases j with
  | zero =>
    have h3 := congrArg (fun l : List Value => l[0]?) hz
    simp only [List.getElem?_cons_zero] at h3
    rw [List.getElem?_take, if_pos (by decide), List.getElem?_drop] at h3
    simpa using h3
  | succ j =>
    simp only [List.getElem?_cons_succ, Array.getElem?_toList]
    by_cases hj : j < 16
    · rw [wordsC_get _ _ hj, Nat.add_comm]; exact hf j hj
    · rw [List.getElem?_eq_none (by omega), Array.getElem?_eq_none (by rw [wordsC_size]; omega)]
theorem bagC_len (b : Int × BS) : (bagC b).toList.length = 17 := by rw [Array.length_toList, bagC_size]
theorem bags_at {a : Addr} {f : Nat → Int × BS} : ∀ (n s : Nat), (∀ i, s ≤ i → i < s + n → ∀ j u, (bagC (f i)).toList[j]? = some u → w.cell? (a.add (i * 17 + j)) = some u) → ∀ j u, (((List.range' s n).map f).flatMap fun b => (bagC b).toList)[j]? = some u → w.cell? (a.add (s * 17 + j)) = some u
  | 0, s, h, j, u, hu => by simp at hu
  | n + 1, s, h, j, u, hu => by
    rw [List.range'_succ, List.map_cons, List.flatMap_cons] at hu
    by_cases hj : j < 17
    · rw [List.getElem?_append_left (by rw [bagC_len]; exact hj)] at hu
      exact h s (Nat.le_refl _) (by omega) j u hu
    · rw [List.getElem?_append_right (by rw [bagC_len]; omega), bagC_len] at hu
      have := bags_at n (s + 1) (fun i h1 h2 => h i (by omega) (by omega)) (j - 17) u hu
      rwa [show (s + 1) * 17 + (j - 17) = s * 17 + j by omega] at this
theorem bags_cells {G : Nat → Prop} : ∀ t : List (Int × BS), Cells bagE G w t (t.flatMap fun b => (bagC b).toList)
  | [] => rfl
  | b :: t => ⟨(bagC b).toList, _, rfl, ⟨[I b.1], (setC b.2).toList, rfl, rfl, rfl⟩, bags_cells t⟩
set_option maxRecDepth 100000 in
/-- THE ARGUMENT, OPENED -/
theorem open_tree {v : Value} {d : DataW H} {ps : List MemPlace} {b0 : Nat} (hok : Value.okWide Tryd.prog w .any b0 23 v) (h : DataW.Trod enc Tryd.prog w 0 spare held 23 v d ps) : ∃ t, (Dv treeE Go.Mono.G0 t).p v w := by
  obtain ⟨fuel, hf⟩ := h
  obtain ⟨a0, n0, c0, rfl⟩ := okWide_slice Tryd.underlying23 hok
  rcases Deep.open_slice Tryd.underlying23 hf with ⟨hcs, _⟩ | ⟨a, len, cap, m, n, D, Pl, hcs, _, hlc, _, hm, _, hall⟩
  · simp [Value.cells] at hcs
    obtain ⟨rfl, rfl, rfl⟩ := hcs
    exact ⟨[], Dv.nil⟩
  · simp [Value.cells] at hcs
    obtain ⟨rfl, rfl, rfl⟩ := hcs
    have hlm : n0 ≤ m := by rw [hm]; split <;> omega
    have each : ∀ i, i < n0 → ∃ b : Int × BS, ∀ j u, (bagC b).toList[j]? = some u → w.cell? (a.add (i * 17 + j)) = some u := by
      intro i hi
      obtain ⟨cs', h1, h2⟩ := hall i (by omega)
      rw [cellsBag] at h1
      obtain ⟨_, hlen, hcell⟩ := World.cells?_some h1
      obtain ⟨b, rfl⟩ := bag_cells h2
      refine ⟨b, fun j u hu => ?_⟩
      have hj : j < 17 := by have := (List.getElem?_eq_some_iff.1 hu).1; rw [bagC_len] at this; exact this
      have := hcell j hj
      rw [Deep.add_add] at this
      rw [this]; exact hu
    obtain ⟨f, hf'⟩ := Deep.choose_lt each
    by_cases h0 : n0 = 0
    · subst h0
      have hb : a.block < w.heap.size := by
        have h1 : Cell.ok Tryd.prog w .any b0 23 (.slice (some a) 0 c0) := by
          have := hok
          simpa [Value.okWide, Cell.okWide, Tryd.underlying23] using this
        have h2 : 0 ≤ c0 ∧ (c0 : Int) ≤ IntKind.i64.max ∧ w.has Tryd.prog .any b0 a 86 c0 := by
          simpa [Cell.ok, Tryd.underlying23] using h1
        have h3 := h2.2.2.2.2
        obtain ⟨row, h3⟩ := h3
        obtain ⟨cells, h3⟩ := h3
        have h4 := h3.1
        apply Classical.byContradiction
        intro hn
        have : w.heap[a.block]? = none := Array.getElem?_eq_none (by omega)
        simp [World.shape?, this] at h4
      exact ⟨[], Dv.sl.2 (.inr ⟨a, c0, [], rfl, by simp, fun hg => hg.elim, hb, rfl, fun j u hu => by simp at hu⟩)⟩
    · refine ⟨(List.range n0).map f, Dv.sl.2 (.inr ⟨a, c0, ((List.range n0).map f).flatMap fun b => (bagC b).toList, by simp, by simpa using hlc, fun hg => hg.elim, ?_, bags_cells _, fun j u hu => ?_⟩)⟩
      · have := hf' 0 (by omega) 0 (I (f 0).1) rfl
        have := World.block_lt_of_cell? w _ this
        simpa [add_block] using this
      · rw [List.range_eq_range'] at hu
        have := bags_at (w := w) (a := a) (f := f) n0 0 (fun i _ hi j u hu => hf' i (by omega) j u hu) j u hu
        simpa using this
end
end Go.Mono
