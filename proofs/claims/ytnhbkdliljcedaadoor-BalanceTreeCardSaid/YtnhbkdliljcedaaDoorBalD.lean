/-
  Plain facts: unions of sorted lists; the balanced tree as the reference keeps it.
  No condition.
-/
import Derived.Test.YtnhbkdliljcedaaDoorBalC
set_option linter.unusedVariables false
set_option linter.unusedSimpArgs false
set_option linter.unusedVariables false
set_option linter.unusedSimpArgs false
namespace Go.Mono

theorem fold_ins (A : BS) : ∀ (l : List Nat), (∀ x ∈ l, x < 1024) → (l.map fun i : Nat => (i : Int)).foldl withL (toL A) = toL ((l.map fun i : Nat => (i : Int)).foldl ins A) := by
  intro l
  induction l generalizing A with
  | nil => intro _; simp only [List.map_nil, List.foldl_nil]
  | cons x l ih =>
    intro h
    rw [List.map_cons, List.foldl_cons, List.foldl_cons, toL_ins A (h x (by simp))]
    exact ih _ fun y hy => h y (by simp [hy])
theorem fold_ins_bit (i : Nat) : ∀ (l : List Nat) (A : BS), (∀ x ∈ l, x < 1024) → (((l.map fun i : Nat => (i : Int)).foldl ins A).getLsbD i = true ↔ A.getLsbD i = true ∨ i ∈ l) := by
  intro l
  induction l with
  | nil => intro A _; simp
  | cons x l ih =>
    intro A h
    rw [List.map_cons, List.foldl_cons, ih _ fun y hy => h y (by simp [hy]), bit_ins A (h x (by simp)), List.mem_cons]
    constructor
    · rintro ((h | h) | h)
      · exact .inl h
      · exact .inr (.inl h)
      · exact .inr (.inr h)
    · rintro (h | h | h)
      · exact .inl (.inl h)
      · exact .inl (.inr h)
      · exact .inr h
theorem toL_or (A C : BS) : (toL C).foldl withL (toL A) = toL (A ||| C) := by
  have hb : ∀ x ∈ elems C, x < 1024 := fun x hx => (mem_elems.1 hx).1
  have e1 := toL_eq C
  rw [e1, fold_ins A _ hb]
  refine congrArg toL (set_ext' fun i => ?_)
  rw [fold_ins_bit i _ A hb, BitVec.getLsbD_or, Bool.or_eq_true, mem_elems]
  exact ⟨fun h => h.imp id (·.2), fun h => h.imp id fun h => ⟨bit_lt h, h⟩⟩
theorem toL_below {n : Nat} (hn : n ≤ 1024) : toL (belowB n) = (List.range n).map fun i : Nat => (i : Int) := by
  refine srt_ext (toL_srt _) (range_srt n) fun x => ?_
  rw [toL_mem', List.mem_map]
  constructor
  · rintro ⟨i, rfl, h⟩; exact ⟨i, List.mem_range.2 ((below_bit' n i hn).1 h), rfl⟩
  · rintro ⟨i, h, rfl⟩; exact ⟨i, rfl, (below_bit' n i hn).2 (List.mem_range.1 h)⟩
theorem toT_map (l : List (Int × BS)) : toT l = l.map toB := rfl
theorem toB_get {t : List (Int × BS)} {i : Nat} (h : i < t.length) : (toT t)[i]? = some ((bg t i).1, toL (bg t i).2) := by
  rw [up_get (by rw [toT_len]; exact h), toT_up h, toT_hs h]
end Go.Mono
