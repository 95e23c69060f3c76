/-
  An argument of type Set, opened: its numbers.
  No condition.
-/
import Derived.Test.YtnhbkdliljcedaaDoorWF
set_option linter.unusedVariables false
set_option linter.unusedSimpArgs false
set_option linter.unusedVariables false
set_option linter.unusedSimpArgs false
namespace Go.Mono
open Go Go.Proofs Go.RowKit Go.ChangeShapes Go.WideShapes

section
variable {H : Type} {enc : TypeId × Value → H} {w : World} {base : Nat} {spare : Nat → Bool} {held : Bool}
theorem okWide_ar {P : Program} {t e : TypeId} {n : Nat} (ht : P.underlying t = some (.array n e)) {r : Reach} {b0 : Nat} {v : Value} (h : Value.okWide P w r b0 t v) : ∃ cs, v = .agg cs ∧ cs.size = P.cellsOf t := by
  simp only [Value.okWide, ht] at h
  obtain ⟨cs, h1, h2, _⟩ := h
  exact ⟨cs, h1, h2⟩
set_option maxRecDepth 100000 in
theorem okWide_set {r : Reach} {b0 : Nat} {v : Value} (h : Value.okWide Tryd.prog w r b0 37 v) : ∃ cs, v = .agg cs ∧ cs.size = 16 := by
  obtain ⟨cs, h1, h2⟩ := okWide_ar Tryd.underlying37 h
  exact ⟨cs, h1, h2.trans cellsSet⟩
set_option maxRecDepth 100000 in
/-- THE ARGUMENT, OPENED -/
theorem open_set {v : Value} {d : DataW H} {ps : List MemPlace} {b0 : Nat} (hok : Value.okWide Tryd.prog w .any b0 37 v) (h : DataW.Trod enc Tryd.prog w 0 spare held 37 v d ps) : ∃ S, v = setV S := by
  obtain ⟨fuel, hf⟩ := h
  obtain ⟨cs, rfl, hsz⟩ := okWide_set hok
  have hf : DataW.trod enc Tryd.prog w 0 spare held fuel 37 cs.toList = some (d, ps) := hf
  obtain ⟨xs, m2, _, _, hl2, hxl, hall⟩ := DataW.trod_array Tryd.underlying37 hf
  have hw : ∀ i, i < 16 → ∃ y : BitVec 64, cs[i]? = some (Mono.W y) := by
    intro i hi
    have := hall i hi
    rw [cellsU64, Nat.mul_one] at this
    obtain ⟨b, hb⟩ : ∃ b, xs[i]? = some b := ⟨_, List.getElem?_eq_getElem (by omega)⟩
    rw [hb] at this
    obtain ⟨u, hu, _, hwf⟩ := DataW.trod_int Tryd.underlying35 this
    refine ⟨BitVec.ofNat 64 u.toNat, ?_⟩
    rw [← u64_of hwf]
    have h3 := congrArg (fun l : List Value => l[0]?) hu
    simp only [List.getElem?_cons_zero] at h3
    rw [List.getElem?_take, if_pos (by decide), List.getElem?_drop, Nat.add_zero, Array.getElem?_toList] at h3
    exact h3
  obtain ⟨f, hf'⟩ := Deep.choose_lt (n := 16) (p := fun i (y : BitVec 64) => cs[i]? = some (Mono.W y)) hw
  refine ⟨ofW f 16, congrArg Value.agg (Array.ext_getElem? fun j => ?_)⟩
  rw [wordsC_ofW]
  by_cases hj : j < 16
  · rw [wordsC_get _ _ hj]; exact hf' j hj
  · rw [Array.getElem?_eq_none (by omega), Array.getElem?_eq_none (by rw [wordsC_size]; omega)]
end
end Go.Mono
