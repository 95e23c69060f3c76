/-
  Plain facts: the parts of a split are apart and make the whole; the laws on the centre.
  No condition.
-/
import Derived.Test.YtnhbkdliljcedaaDoorWF
set_option linter.unusedVariables false
set_option linter.unusedSimpArgs false
set_option linter.unusedVariables false
set_option linter.unusedSimpArgs false
namespace Go.Mono

section
variable {fs : List BS} {T : Tr}
theorem zero_and {S C : BS} : S &&& C = 0 ↔ ∀ i, ¬(S.getLsbD i = true ∧ C.getLsbD i = true) := by
  rw [and_zero]
  exact ⟨fun h i hi => h i (bit_lt hi.1) hi, fun h i _ => h i⟩
theorem ne_zero {C : BS} {k : Nat} (h : C.getLsbD k = true) : C ≠ 0 := fun e => by rw [e] at h; exact bit_zero k h
theorem parts_un (F : Fo fs T) : ∀ (f : Nat) (left : BS) (l : List BS) (acc : BS), (∀ i, left.getLsbD i = true → i < T.n) → splitF fs f left = some l → (∀ i, ¬(acc.getLsbD i = true ∧ left.getLsbD i = true)) →
    (∀ k C, l[k]? = some C → C ≠ 0 ∧ (l.take k).foldl (· ||| ·) acc &&& C = 0) ∧ l.foldl (· ||| ·) acc = acc ||| left := by
  intro f
  induction f with
  | zero =>
    intro left l acc hin h hd
    cases hm : minOf left with
    | none =>
      rw [splitF_nil hm] at h; cases h
      rw [minOf_none.1 hm]
      exact ⟨fun k C hk => by simp at hk, by simp⟩
    | some k => rw [splitF_zero hm] at h; cases h
  | succ f ih =>
    intro left l acc hin h hd
    cases hm : minOf left with
    | none =>
      rw [splitF_nil hm] at h; cases h
      rw [minOf_none.1 hm]
      exact ⟨fun k C hk => by simp at hk, by simp⟩
    | some k =>
      have hk := minOf_mem hm
      have hsub := comp_sub F hin hk
      have hself := comp_self F hin hk
      rw [splitF_cons hm] at h
      generalize compB fs left k = C at *
      cases hr : splitF fs f (left &&& ~~~C) with
      | none => rw [hr] at h; cases h
      | some l' =>
        rw [hr] at h
        cases h
        obtain ⟨h1, h2⟩ := ih (left &&& ~~~C) l' (acc ||| C) (fun i hi => hin i ((bit_diff _ _ i).1 hi).1) hr fun i hi => by
          have h3 := (bit_diff _ _ i).1 hi.2
          rcases (bit_or _ _ i).1 hi.1 with h4 | h4
          · exact hd i ⟨h4, h3.1⟩
          · exact h3.2 h4
        refine ⟨fun j D hj => ?_, ?_⟩
        · cases j with
          | zero =>
            cases hj
            exact ⟨ne_zero hself, zero_and.2 fun i hi => hd i ⟨hi.1, hsub i hi.2⟩⟩
          | succ j => exact h1 j D hj
        · rw [List.foldl_cons, h2]
          refine set_ext' fun i => ?_
          rw [bit_or, bit_or, bit_or, bit_diff]
          constructor
          · rintro ((h | h) | h)
            · exact .inl h
            · exact .inr (hsub i h)
            · exact .inr h.1
          · rintro (h | h)
            · exact .inl (.inl h)
            · by_cases hc : C.getLsbD i = true
              · exact .inl (.inr hc)
              · exact .inr ⟨h, hc⟩
def unTo (l : List BS) (k : Nat) : BS := (l.take k).foldl (· ||| ·) 0
theorem unTo_succ {l : List BS} {k : Nat} {C : BS} (h : l[k]? = some C) : unTo l (k + 1) = unTo l k ||| C := by
  rw [unTo, List.take_add_one, h, List.foldl_append]; rfl
theorem parts_part (F : Fo fs T) {left : BS} (hin : ∀ i, left.getLsbD i = true → i < T.n) : (∀ k C, (partsB fs left)[k]? = some C → C ≠ 0 ∧ unTo (partsB fs left) k &&& C = 0) ∧ unTo (partsB fs left) (partsB fs left).length = left := by
  obtain ⟨h1, h2⟩ := parts_un F (1 + fs.length) left (partsB fs left) 0 hin (parts_some F hin).1 fun i hi => bit_zero i hi.1
  refine ⟨h1, ?_⟩
  rw [unTo, List.take_length, h2]
  simp
theorem cen_parts (F : Fo fs T) {part : BS} (hin : ∀ i, part.getLsbD i = true → i < T.n) (hC : T.conn (bits part)) {p : Nat} (hp : part.getLsbD p = true) {k : Nat} {C : BS} (h : (partsB fs (del part (cenB fs part : Int)))[k]? = some C) : 2 * card C ≤ card part := by
  have h1 := cen_half F hin hC hp
  have h2 := (foldl_max card (partsB fs (del part (cenB fs part : Int))) 0).2.1 C (List.mem_of_getElem? h)
  change card C ≤ mostB fs part (cenB fs part) at h2
  omega
end
end Go.Mono
