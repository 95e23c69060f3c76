/-
  Plain facts: the path by its next bag; the bag of a path that is nearest to the centre.
  No condition.
-/
import Derived.Test.YtnhbkdliljcedaaDoorBalB
set_option linter.unusedVariables false
set_option linter.unusedSimpArgs false
set_option linter.unusedVariables false
set_option linter.unusedSimpArgs false
namespace Go.Mono

section
variable {fs : List BS} {T : Tr} {S C : BS}
theorem path_self (F : Fo fs T) (hin : ∀ i, S.getLsbD i = true → i < T.n) (hC : T.conn (bits S)) {x : Nat} (hx : S.getLsbD x = true) : pathB fs S x x = ins 0 (x : Int) := set_ext' fun i => by
  rw [(path_some F hin hC hx hx).2 i, P_self (hin x hx), bit_ins 0 (bit_lt hx)]
  exact ⟨.inr, fun h => h.resolve_left (bit_zero i)⟩
/-- the path from x to y by its first bag k, within the component that holds y -/
theorem path_step (F : Fo fs T) (hin : ∀ i, S.getLsbD i = true → i < T.n) (hS : T.conn (bits S)) {x y k : Nat} (hx : S.getLsbD x = true) (hy : S.getLsbD y = true) (hne : x ≠ y) (hCS : Sub fs T S x C) (hyC : C.getLsbD y = true) (hkC : C.getLsbD k = true) (hk : T.adj k x) :
    pathB fs S x y = ins (pathB fs C k y) (x : Int) := by
  have hxn := hin x hx
  have hCin : ∀ i, C.getLsbD i = true → i < T.n := fun i hi => hin i (hCS.sub i hi).1
  have hkn := hCin k hkC
  have hV : T.cn (Tr.wo (fun i => i < T.n) x) k y := (hCS.conn k y hkn (hCin y hyC) hkC hyC).mono fun i hi hh => ⟨hi, (hCS.sub i hh).2⟩
  have p1 := Tr.hop_P hxn hk hV
  refine set_ext' fun i => ?_
  rw [(path_some F hin hS hx hy).2 i, bit_ins _ (bit_lt hx), (path_some F hCin hCS.conn hkC hyC).2 i]
  constructor
  · intro h
    rcases h.split k with h | h
    · rcases P_adj hxn hkn hk h with rfl | rfl
      · exact .inr rfl
      · exact .inl Tr.P.left
    · exact .inl h
  · rintro (h | rfl)
    · exact p1.sub' h
    · exact Tr.P.left
/-- there is such a first bag -/
theorem path_first (F : Fo fs T) (hin : ∀ i, S.getLsbD i = true → i < T.n) (hS : T.conn (bits S)) {x y : Nat} (hx : S.getLsbD x = true) (hy : S.getLsbD y = true) (hne : x ≠ y) (hCS : Sub fs T S x C) (hyC : C.getLsbD y = true) : ∃ k, C.getLsbD k = true ∧ T.adj k x := by
  obtain ⟨k, k1, k2⟩ := Tr.hop hS (hin x hx) (hin y hy) hx hy (Ne.symm hne)
  refine ⟨k, ?_, k1⟩
  exact k2.symm.ind (S := fun i => C.getLsbD i = true) hyC fun a b ha hb pa pb hs hab => hCS.clo a b hs pb.1 pb.2 hab
/-- the nearest bag of a path has the shortest way to the centre -/
theorem near_lt (F : Fo fs T) (hin : ∀ i, S.getLsbD i = true → i < T.n) (hS : T.conn (bits S)) {x y c m n : Nat} (hx : S.getLsbD x = true) (hy : S.getLsbD y = true) (hc : S.getLsbD c = true) (h1 : T.P m x y) (h2 : T.P m x c) (h3 : T.P m y c) (hn : T.P n x y) (hne : n ≠ m) :
    card (pathB fs S m c) < card (pathB fs S n c) := by
  have hxn := hin x hx
  have hyn := hin y hy
  have hcn := hin c hc
  have hmS : S.getLsbD m = true := Tr.P.mem hS hxn hyn hx hy h1
  have hnS : S.getLsbD n = true := Tr.P.mem hS hxn hyn hx hy hn
  have hm := Tr.near hxn hyn hcn h1 h2 h3 hn
  have pm := (path_some F hin hS hmS hc).2
  have pn := (path_some F hin hS hnS hc).2
  refine card_lt (z := n) (fun i hi => (pn i).2 (hm.sub' ((pm i).1 hi))) ((pn n).2 Tr.P.left) fun hh => ?_
  have h4 := (pm n).1 hh
  exact hne (Tr.P.meet hcn (hin m hmS) h4.symm hm.symm Tr.P.right).symm
end
theorem bes_symm (xs : List RB) (a b : Nat) : besB xs a b = besB xs b a := by unfold besB; rw [Bool.or_comm]
theorem cmpLs_self : ∀ l : List (List Int), cmpLs l l = 0
  | [] => rfl
  | x :: l => by rw [cmpLs, if_pos (cmpL_self x)]; exact cmpLs_self l
end Go.Mono
