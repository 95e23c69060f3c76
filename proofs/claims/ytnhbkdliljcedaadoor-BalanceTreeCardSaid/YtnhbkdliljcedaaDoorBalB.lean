/-
  Plain facts: the last and the first of a set's list; the reference's check of a part.
  No condition.
-/
import Derived.Test.YtnhbkdliljcedaaDoorBalA
set_option linter.unusedVariables false
set_option linter.unusedSimpArgs false
set_option linter.unusedVariables false
set_option linter.unusedSimpArgs false
namespace Go.Mono

theorem elems_pair (S : BS) : (elems S).Pairwise (· < ·) := List.Pairwise.filter _ (List.pairwise_lt_range (n := 1024))
theorem last_ex {S : BS} {c : Nat} (hc : card S = c + 1) : ∃ m, (elems S)[c]? = some m ∧ S.getLsbD m = true ∧ ∀ i, S.getLsbD i = true → i ≤ m := by
  have hl : (elems S).length = c + 1 := by rw [card_elems, hc]
  obtain ⟨m, hm⟩ : ∃ m, (elems S)[c]? = some m := ⟨_, List.getElem?_eq_getElem (by omega)⟩
  refine ⟨m, hm, (mem_elems.1 (List.mem_of_getElem? hm)).2, fun i hi => ?_⟩
  obtain ⟨j, hj⟩ := List.getElem?_of_mem (mem_elems.2 ⟨bit_lt hi, hi⟩)
  obtain ⟨hjl, hje⟩ := List.getElem?_eq_some_iff.1 hj
  obtain ⟨hml, hme⟩ := List.getElem?_eq_some_iff.1 hm
  by_cases hjc : j = c
  · subst hjc
    rw [hm] at hj
    cases hj
    exact Nat.le_refl _
  · have := List.pairwise_iff_getElem.1 (elems_pair S) j c hjl hml (by omega)
    rw [hje, hme] at this
    omega
theorem first_ex {S : BS} {k : Nat} (h : minOf S = some k) : (elems S)[0]? = some k := by rw [elems_min h]; rfl
theorem card_eq_sub {C S : BS} (h : ∀ i, C.getLsbD i = true → S.getLsbD i = true) (he : card C = card S) : C = S := by
  refine set_ext' fun k => ⟨h k, fun hk => ?_⟩
  apply Classical.byContradiction
  intro hn
  have := card_lt h hk hn
  omega
theorem card_ne {S : BS} {c : Nat} (hc : card S = c + 1) : ∃ k, minOf S = some k := by
  cases hm : minOf S with
  | none => rw [minOf_none.1 hm, card_zero] at hc; omega
  | some k => exact ⟨k, rfl⟩
section
variable {t : List (Int × BS)} {S : BS}
theorem partE_zero (h0 : chkR (toT t) = 0) (hc : card S = 0) : partE t S = 3 := by
  have : S = 0 := set_ext' fun i => ⟨fun hi => by have := card_pos hi; omega, fun hi => absurd hi (bit_zero i)⟩
  rw [partE, if_neg (fun h => h h0), if_pos]
  left
  rw [this]
  exact minOf_none.2 rfl
theorem partE_far (hl : t.length ≤ 1000) (h0 : chkR (toT t) = 0) {m : Nat} (hm : S.getLsbD m = true) (hmt : t.length ≤ m) : partE t S = 3 := by
  rw [partE, if_neg (fun h => h h0), if_pos]
  right; left
  intro hz
  have : (S &&& ~~~belowB t.length).getLsbD m = true := (bit_diff _ _ m).2 ⟨hm, fun hb => by have := (below_bit' _ m (by omega)).1 hb; omega⟩
  rw [hz] at this
  exact bit_zero m this
theorem partE_near (hl : t.length ≤ 1000) (h0 : chkR (toT t) = 0) {k : Nat} (hk : minOf S = some k) (hin : ∀ i, S.getLsbD i = true → i < t.length) : partE t S = if compB (adjL t) S k = S then 0 else 3 := by
  have hz : S &&& ~~~belowB t.length = 0 := set_ext' fun i => by
    rw [bit_diff, below_bit' _ i (by omega)]
    exact ⟨fun h => absurd (hin i h.1) h.2, fun h => absurd h (bit_zero i)⟩
  rw [partE, if_neg (fun h => h h0)]
  by_cases hc : compB (adjL t) S k = S
  · rw [if_pos hc, if_neg]
    rintro (h | h | h)
    · rw [hk] at h; cases h
    · exact h hz
    · rw [hk] at h; exact h hc
  · rw [if_neg hc, if_pos]
    right; right
    rw [hk]; exact hc
end
end Go.Mono
