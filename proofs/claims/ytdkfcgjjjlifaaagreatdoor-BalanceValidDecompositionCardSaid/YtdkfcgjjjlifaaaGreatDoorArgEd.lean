/-
  XArgEd.
  No condition.
-/
import Derived.Test.YtdkfcgjjjlifaaaGreatDoorVD
import Derived.Test.YtdkfcgjjjlifaaaGreatDoorVE
set_option linter.unusedVariables false
set_option linter.unusedSimpArgs false
namespace Go.Mono
open Go Go.Proofs Go.RowKit Go.ChangeShapes Go.WideShapes Go.Gr

theorem cellsEd : Tryz.prog.cellsOf 26 = 5 := by kernel_rfl
theorem cellsU8 : Tryz.prog.cellsOf 5 = 1 := by kernel_rfl
def edC (d : DT) : List Value := [I d.1, I d.2.1, I d.2.2.1, .int .u8 d.2.2.2.1, I d.2.2.2.2]
def edOk (d : DT) : Prop := 0 ≤ d.2.2.2.1 ∧ d.2.2.2.1 < 256
theorem u8_of {z : Int} (h : (Lit.int .u8 z).wf = true) : 0 ≤ z ∧ z < 256 := by
  have h1 : IntKind.u8.min = 0 := by decide
  have h2 : IntKind.u8.max = 255 := by decide
  simp only [Lit.wf, h1, h2, Bool.and_eq_true, decide_eq_true_eq] at h
  omega
theorem one_of {cs : List Value} {j : Nat} {v : Value} (h : (cs.drop j).take 1 = [v]) : cs[j]? = some v := by
  have h3 := congrArg (fun l : List Value => l[0]?) h
  simp only [List.getElem?_cons_zero] at h3
  rw [List.getElem?_take, if_pos (by decide), List.getElem?_drop, Nat.add_zero] at h3
  exact h3
section
variable {H : Type} {enc : TypeId × Value → H} {w : World} {base : Nat} {spare : Nat → Bool} {held : Bool}
/-- the cells of one edit -/
theorem ed_cells {n : Nat} {cs : List Value} {x : DataW H × List MemPlace} (h : DataW.trod enc Tryz.prog w base spare held n 26 cs = some x) : ∃ d : DT, cs = edC d ∧ edOk d := by
  obtain ⟨xs, m, _, _, hl, hlen, hf⟩ := DataW.trod_struct Tryz.underlying26 h
  rw [cellsEd] at hl
  have hx : ∀ i, i < 5 → ∃ y, xs[i]? = some y := fun i hi => ⟨_, List.getElem?_eq_getElem (by rw [hlen]; exact hi)⟩
  obtain ⟨y0, e0⟩ := hx 0 (by decide)
  obtain ⟨y1, e1⟩ := hx 1 (by decide)
  obtain ⟨y2, e2⟩ := hx 2 (by decide)
  obtain ⟨y3, e3⟩ := hx 3 (by decide)
  obtain ⟨y4, e4⟩ := hx 4 (by decide)
  have h0 := hf 0 _ rfl
  have h1 := hf 1 _ rfl
  have h2 := hf 2 _ rfl
  have h3 := hf 3 _ rfl
  have h4 := hf 4 _ rfl
  rw [e0] at h0; rw [e1] at h1; rw [e2] at h2; rw [e3] at h3; rw [e4] at h4
  change DataW.trod enc Tryz.prog w base spare held m 3 ((cs.drop 0).take (Tryz.prog.cellsOf 3)) = some y0 at h0
  change DataW.trod enc Tryz.prog w base spare held m 3 ((cs.drop 1).take (Tryz.prog.cellsOf 3)) = some y1 at h1
  change DataW.trod enc Tryz.prog w base spare held m 3 ((cs.drop 2).take (Tryz.prog.cellsOf 3)) = some y2 at h2
  change DataW.trod enc Tryz.prog w base spare held m 5 ((cs.drop 3).take (Tryz.prog.cellsOf 5)) = some y3 at h3
  change DataW.trod enc Tryz.prog w base spare held m 3 ((cs.drop 4).take (Tryz.prog.cellsOf 3)) = some y4 at h4
  rw [cellsInt] at h0 h1 h2 h4
  rw [cellsU8] at h3
  obtain ⟨z0, q0, _, _⟩ := DataW.trod_int Tryz.underlying3 h0
  obtain ⟨z1, q1, _, _⟩ := DataW.trod_int Tryz.underlying3 h1
  obtain ⟨z2, q2, _, _⟩ := DataW.trod_int Tryz.underlying3 h2
  obtain ⟨z3, q3, _, hwf⟩ := DataW.trod_int Tryz.underlying5 h3
  obtain ⟨z4, q4, _, _⟩ := DataW.trod_int Tryz.underlying3 h4
  refine ⟨(z0, z1, z2, z3, z4), List.ext_getElem? fun j => ?_, u8_of hwf⟩
  match j with
  | 0 => rw [one_of q0]; rfl
  | 1 => rw [one_of q1]; rfl
  | 2 => rw [one_of q2]; rfl
  | 3 => rw [one_of q3]; rfl
  | 4 => rw [one_of q4]; rfl
  | j + 5 =>
    rw [List.getElem?_eq_none (by omega), List.getElem?_eq_none]
    show 5 ≤ j + 5
    omega
theorem eds_at {a : Addr} {f : Nat → DT} : ∀ (n s : Nat), (∀ i, s ≤ i → i < s + n → ∀ j u, (edC (f i))[j]? = some u → w.cell? (a.add (i * 5 + j)) = some u) → ∀ j u, (((List.range' s n).map f).flatMap edC)[j]? = some u → w.cell? (a.add (s * 5 + j)) = some u
  | 0, s, h, j, u, hu => by simp at hu
  | n + 1, s, h, j, u, hu => by
    have hln : (edC (f s)).length = 5 := rfl
    rw [List.range'_succ, List.map_cons, List.flatMap_cons] at hu
    by_cases hj : j < 5
    · rw [List.getElem?_append_left (by rw [hln]; exact hj)] at hu
      exact h s (Nat.le_refl _) (by omega) j u hu
    · rw [List.getElem?_append_right (by rw [hln]; omega), hln] at hu
      have := eds_at n (s + 1) (fun i h1 h2 => h i (by omega) (by omega)) (j - 5) u hu
      rwa [show (s + 1) * 5 + (j - 5) = s * 5 + j by omega] at this
theorem eds_cells {G : Nat → Prop} : ∀ l : List DT, Cells dtE G w l (l.flatMap edC)
  | [] => rfl
  | d :: l => ⟨edC d, _, rfl, ⟨[I d.1], [I d.2.1, I d.2.2.1, .int .u8 d.2.2.2.1, I d.2.2.2.2], rfl, rfl, [I d.2.1], [I d.2.2.1, .int .u8 d.2.2.2.1, I d.2.2.2.2], rfl, rfl, [I d.2.2.1], [.int .u8 d.2.2.2.1, I d.2.2.2.2], rfl, rfl, [.int .u8 d.2.2.2.1], [I d.2.2.2.2], rfl, rfl, rfl⟩, eds_cells l⟩
set_option maxRecDepth 100000 in
/-- THE ARGUMENT, OPENED -/
theorem open_eds {v : Value} {d : DataW H} {ps : List MemPlace} {b0 : Nat} (hok : Value.okWide Tryz.prog w .any b0 24 v) (h : DataW.Trod enc Tryz.prog w 0 spare held 24 v d ps) : ∃ l : List DT, (Dv (slE dtE) Go.Mono.G0 l).p v w ∧ ∀ d ∈ l, edOk d := by
  obtain ⟨fuel, hf⟩ := h
  obtain ⟨a0, n0, c0, rfl⟩ := okWide_slice Tryz.underlying24 hok
  rcases Deep.open_slice Tryz.underlying24 hf with ⟨hcs, _⟩ | ⟨a, len, cap, m, n, D, Pl, hcs, _, hlc, _, hm, _, hall⟩
  · simp [Value.cells] at hcs
    obtain ⟨rfl, rfl, rfl⟩ := hcs
    exact ⟨[], Dv.nil, by simp⟩
  · simp [Value.cells] at hcs
    obtain ⟨rfl, rfl, rfl⟩ := hcs
    have hlm : n0 ≤ m := by rw [hm]; split <;> omega
    have each : ∀ i, i < n0 → ∃ b : DT, edOk b ∧ ∀ j u, (edC b)[j]? = some u → w.cell? (a.add (i * 5 + j)) = some u := by
      intro i hi
      obtain ⟨cs', h1, h2⟩ := hall i (by omega)
      rw [cellsEd] at h1
      obtain ⟨_, hlen, hcell⟩ := World.cells?_some h1
      obtain ⟨b, rfl, hb⟩ := ed_cells h2
      refine ⟨b, hb, fun j u hu => ?_⟩
      have hj : j < 5 := (List.getElem?_eq_some_iff.1 hu).1
      have := hcell j hj
      rw [Deep.add_add] at this
      rw [this]; exact hu
    obtain ⟨f, hf'⟩ := Deep.choose_lt each
    by_cases h0 : n0 = 0
    · subst h0
      have hb : a.block < w.heap.size := by
        have h1 : Cell.ok Tryz.prog w .any b0 24 (.slice (some a) 0 c0) := by
          have := hok
          simpa [Value.okWide, Cell.okWide, Tryz.underlying24] using this
        have h2 : 0 ≤ c0 ∧ (c0 : Int) ≤ IntKind.i64.max ∧ w.has Tryz.prog .any b0 a 26 c0 := by
          simpa [Cell.ok, Tryz.underlying24] using h1
        have h3 := h2.2.2.2.2
        obtain ⟨row, h3⟩ := h3
        obtain ⟨cells, h3⟩ := h3
        have h4 := h3.1
        apply Classical.byContradiction
        intro hn
        have : w.heap[a.block]? = none := Array.getElem?_eq_none (by omega)
        simp [World.shape?, this] at h4
      exact ⟨[], Dv.sl.2 (.inr ⟨a, c0, [], rfl, by simp, fun hg => hg.elim, hb, rfl, fun j u hu => by simp at hu⟩), by simp⟩
    · refine ⟨(List.range n0).map f, Dv.sl.2 (.inr ⟨a, c0, ((List.range n0).map f).flatMap edC, by simp, by simpa using hlc, fun hg => hg.elim, ?_, eds_cells _, fun j u hu => ?_⟩), ?_⟩
      · have := (hf' 0 (by omega)).2 0 (I (f 0).1) rfl
        have := World.block_lt_of_cell? w _ this
        simpa [add_block] using this
      · rw [List.range_eq_range'] at hu
        have := eds_at (w := w) (a := a) (f := f) n0 0 (fun i _ hi j u hu => (hf' i (by omega)).2 j u hu) j u hu
        simpa using this
      · intro d hd
        obtain ⟨i, hi, rfl⟩ := List.mem_map.1 hd
        exact (hf' i (List.mem_range.1 hi)).1
end
end Go.Mono
