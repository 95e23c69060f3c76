/-
  Plain facts: sorted lists of elements and sets; the reference's search for a component.
  No condition.
-/
import Derived.Test.YtnhbkdliljcedaaDoorBal9
set_option linter.unusedVariables false
set_option linter.unusedSimpArgs false
set_option linter.unusedVariables false
set_option linter.unusedSimpArgs false
namespace Go.Mono

/-! ### sorted lists -/
def Srt (l : List Int) : Prop := l.Pairwise (· < ·)
theorem srt_ext : ∀ {l m : List Int}, Srt l → Srt m → (∀ x, x ∈ l ↔ x ∈ m) → l = m
  | [], [], _, _, _ => rfl
  | [], y :: m, _, _, h => by have := (h y).2 (by simp); simp at this
  | x :: l, [], _, _, h => by have := (h x).1 (by simp); simp at this
  | x :: l, y :: m, hl, hm, h => by
    obtain ⟨l1, l2⟩ := List.pairwise_cons.1 hl
    obtain ⟨m1, m2⟩ := List.pairwise_cons.1 hm
    have hxy : x = y := by
      rcases List.mem_cons.1 ((h x).1 (by simp)) with h1 | h1
      · exact h1
      · rcases List.mem_cons.1 ((h y).2 (by simp)) with h2 | h2
        · exact h2.symm
        · have := l1 y h2; have := m1 x h1; omega
    subst hxy
    have : l = m := srt_ext l2 m2 fun z => by
      constructor
      · intro hz
        rcases List.mem_cons.1 ((h z).1 (by simp [hz])) with h1 | h1
        · have := l1 z hz; omega
        · exact h1
      · intro hz
        rcases List.mem_cons.1 ((h z).2 (by simp [hz])) with h1 | h1
        · have := m1 z hz; omega
        · exact h1
    rw [this]
theorem range_srt (n : Nat) : ((List.range n).map fun i : Nat => (i : Int)).Pairwise (· < ·) := by
  rw [List.pairwise_map]
  exact (List.pairwise_lt_range (n := n)).imp fun h => by omega
theorem toL_srt (S : BS) : Srt (toL S) := by
  unfold Srt toL selN
  rw [List.pairwise_map]
  exact (List.Pairwise.filter _ (List.pairwise_lt_range (n := 1024))).imp fun h => by omega
theorem insAt_srt : ∀ {r : List Int} {n : Int}, Srt r → n ∉ r → Srt (insAt r n)
  | [], n, _, _ => by simp [insAt, Srt]
  | x :: r, n, h, hn => by
    obtain ⟨h1, h2⟩ := List.pairwise_cons.1 h
    unfold insAt
    split
    · rename_i hx
      refine List.pairwise_cons.2 ⟨fun y hy => ?_, h⟩
      rcases List.mem_cons.1 hy with rfl | hy
      · omega
      · have := h1 y hy; omega
    · rename_i hx
      have hne : x ≠ n := fun e => hn (by simp [e])
      refine List.pairwise_cons.2 ⟨fun y hy => ?_, insAt_srt h2 fun hh => hn (by simp [hh])⟩
      rcases mem_insAt.1 hy with hy | rfl
      · exact h1 y hy
      · omega
theorem withL_srt {r : List Int} {n : Int} (h : Srt r) : Srt (withL r n) := by
  unfold withL
  split
  · exact h
  · rename_i hn
    refine insAt_srt h fun hm => hn (.inr (.inr ?_))
    rw [hasL]; exact decide_eq_true hm
theorem toL_eq (S : BS) : toL S = (elems S).map fun i : Nat => (i : Int) := rfl
theorem toL_mem' {S : BS} {x : Int} : x ∈ toL S ↔ ∃ i : Nat, x = (i : Int) ∧ S.getLsbD i = true := by
  rw [toL, mem_selN]
  exact ⟨fun ⟨i, _, h2, h3⟩ => ⟨i, h3, h2⟩, fun ⟨i, h1, h2⟩ => ⟨i, bit_lt h2, h2, h1⟩⟩
theorem toL_ins (S : BS) {n : Nat} (hn : n < 1024) : withL (toL S) (n : Int) = toL (ins S (n : Int)) := by
  refine srt_ext (withL_srt (toL_srt S)) (toL_srt _) fun x => ?_
  rw [mem_withL (by omega), toL_mem', toL_mem']
  constructor
  · rintro (⟨i, rfl, h⟩ | rfl)
    · exact ⟨i, rfl, (bit_ins S hn).2 (.inl h)⟩
    · exact ⟨n, rfl, (bit_ins S hn).2 (.inr rfl)⟩
  · rintro ⟨i, rfl, h⟩
    rcases (bit_ins S hn).1 h with h | rfl
    · exact .inl ⟨i, rfl, h⟩
    · exact .inr rfl
theorem toL_del (S : BS) (p : Int) : ((toL S).filter fun x => x != p) = toL (del S p) := by
  refine srt_ext ((toL_srt S).filter _) (toL_srt _) fun x => ?_
  rw [List.mem_filter, toL_mem', toL_mem']
  unfold del
  by_cases hf : fitsB p = true
  · rw [if_pos hf]
    have h := fitsB_iff.1 hf
    constructor
    · rintro ⟨⟨i, rfl, hi⟩, hne⟩
      refine ⟨i, rfl, (bit_diff _ _ i).2 ⟨hi, fun hs => ?_⟩⟩
      rw [sgl_bit _ _ (by omega)] at hs
      have := of_decide_eq_true hs
      simp at hne
      omega
    · rintro ⟨i, rfl, hi⟩
      obtain ⟨h1, h2⟩ := (bit_diff _ _ i).1 hi
      refine ⟨⟨i, rfl, h1⟩, ?_⟩
      rw [sgl_bit _ _ (by omega)] at h2
      simp at h2 ⊢
      omega
  · rw [if_neg hf]
    constructor
    · rintro ⟨h, _⟩; exact h
    · rintro ⟨i, rfl, hi⟩
      refine ⟨⟨i, rfl, hi⟩, ?_⟩
      have : (i : Int) ≠ p := fun e => hf (fitsB_iff.2 (by have := bit_lt hi; omega))
      simpa using this
theorem toL_minus (S U : BS) : ((toL S).filter fun x => !hasL (toL U) x) = toL (S &&& ~~~U) := by
  refine srt_ext ((toL_srt S).filter _) (toL_srt _) fun x => ?_
  rw [List.mem_filter, toL_mem', toL_mem']
  constructor
  · rintro ⟨⟨i, rfl, hi⟩, hn⟩
    refine ⟨i, rfl, (bit_diff _ _ i).2 ⟨hi, fun hu => ?_⟩⟩
    rw [hasL, decide_eq_true (toL_mem'.2 ⟨i, rfl, hu⟩)] at hn
    cases hn
  · rintro ⟨i, rfl, hi⟩
    obtain ⟨h1, h2⟩ := (bit_diff _ _ i).1 hi
    refine ⟨⟨i, rfl, h1⟩, ?_⟩
    have : ¬((i : Int) ∈ toL U) := fun hm => by
      obtain ⟨j, e, hj⟩ := toL_mem'.1 hm
      have : i = j := by omega
      subst this
      exact h2 hj
    rw [hasL, decide_eq_false this]; rfl
theorem toL_card (S : BS) : (toL S).length = card S := by rw [toL_eq, List.length_map, card_elems]
theorem toL_zero : toL 0 = [] := by rw [toL_eq, elems_zero]; rfl
theorem toL_one {p : Nat} (hp : p < 1024) : toL (ins 0 (p : Int)) = [(p : Int)] := by
  rw [← toL_ins 0 hp, toL_zero]
  unfold withL
  rw [if_neg]
  · rfl
  · rintro (h | h | h)
    · omega
    · omega
    · simp [hasL] at h
theorem toL_from (S : BS) : (toL S).foldl ins 0 = S := by
  rw [toL_eq, ← elI, ins_elems]
  simp
theorem toL_get {S : BS} {k x : Nat} (h : (elems S)[k]? = some x) : (toL S)[k]? = some (x : Int) := by
  rw [toL_eq, List.getElem?_map, h]; rfl
theorem elems_get {S : BS} {k : Nat} (h : k < card S) : ∃ x, (elems S)[k]? = some x ∧ S.getLsbD x = true := by
  rw [← card_elems] at h
  exact ⟨_, List.getElem?_eq_getElem h, (mem_elems.1 (List.getElem_mem h)).2⟩

/-! ### the reference's search -/
def besB (xs : List RB) (a b : Nat) : Bool := decide (up xs a = (b : Int)) || decide (up xs b = (a : Int))
def rowN (xs : List RB) (x : Nat) (ys : List Nat) (N : BS) : BS := ys.foldl (fun N y => if besB xs x y = true then ins N (y : Int) else N) N
def stepN (xs : List RB) (os ys : List Nat) (N : BS) : BS := os.foldl (fun N x => rowN xs x ys N) N
theorem rowN_succ (xs : List RB) (x : Nat) {ys : List Nat} {k y : Nat} (h : ys[k]? = some y) (N : BS) : rowN xs x (ys.take (k + 1)) N = if besB xs x y = true then ins (rowN xs x (ys.take k) N) (y : Int) else rowN xs x (ys.take k) N := by
  rw [rowN, List.take_add_one, h, List.foldl_append]; rfl
theorem stepN_succ (xs : List RB) {os : List Nat} (ys : List Nat) {k x : Nat} (h : os[k]? = some x) (N : BS) : stepN xs (os.take (k + 1)) ys N = rowN xs x ys (stepN xs (os.take k) ys N) := by
  rw [stepN, List.take_add_one, h, List.foldl_append]; rfl
theorem rowN_bit (xs : List RB) (x : Nat) {ys : List Nat} (hy : ∀ y ∈ ys, y < 1024) (N : BS) (i : Nat) : (rowN xs x ys N).getLsbD i = true ↔ N.getLsbD i = true ∨ (i ∈ ys ∧ besB xs x i = true) := by
  unfold rowN
  rw [foldl_bit_or i _ (fun y => i = y ∧ besB xs x y = true)]
  · constructor
    · rintro (h | ⟨y, h1, rfl, h2⟩)
      · exact .inl h
      · exact .inr ⟨h1, h2⟩
    · rintro (h | ⟨h1, h2⟩)
      · exact .inl h
      · exact .inr ⟨i, h1, rfl, h2⟩
  · intro S y hym
    by_cases hb : besB xs x y = true
    · rw [if_pos hb, bit_ins S (hy y hym)]
      exact ⟨fun h => h.imp id fun h => ⟨h, hb⟩, fun h => h.imp id fun h => h.1⟩
    · rw [if_neg hb]
      exact ⟨.inl, fun h => h.elim id fun h => absurd h.2 hb⟩
theorem stepN_bit (xs : List RB) {os ys : List Nat} (hy : ∀ y ∈ ys, y < 1024) (N : BS) (i : Nat) : (stepN xs os ys N).getLsbD i = true ↔ N.getLsbD i = true ∨ (i ∈ ys ∧ ∃ x ∈ os, besB xs x i = true) := by
  unfold stepN
  rw [foldl_bit_or i _ (fun x => i ∈ ys ∧ besB xs x i = true)]
  · constructor
    · rintro (h | ⟨x, h1, h2, h3⟩)
      · exact .inl h
      · exact .inr ⟨h2, x, h1, h3⟩
    · rintro (h | ⟨h2, x, h1, h3⟩)
      · exact .inl h
      · exact .inr ⟨x, h1, h2, h3⟩
  · intro S x _
    exact rowN_bit xs x hy S i
def nextN (xs : List RB) (S O : BS) : BS := stepN xs (elems O) (elems S) O
theorem nextN_bit (xs : List RB) (S O : BS) (i : Nat) : (nextN xs S O).getLsbD i = true ↔ O.getLsbD i = true ∨ (S.getLsbD i = true ∧ ∃ x, O.getLsbD x = true ∧ besB xs x i = true) := by
  unfold nextN
  rw [stepN_bit xs (fun y hy => (mem_elems.1 hy).1)]
  constructor
  · rintro (h | ⟨h1, x, h2, h3⟩)
    · exact .inl h
    · exact .inr ⟨(mem_elems.1 h1).2, x, (mem_elems.1 h2).2, h3⟩
  · rintro (h | ⟨h1, x, h2, h3⟩)
    · exact .inl h
    · exact .inr ⟨mem_elems.2 ⟨bit_lt h1, h1⟩, x, mem_elems.2 ⟨bit_lt h2, h2⟩, h3⟩
section
variable {t : List (Int × BS)}
theorem bes_adj (V : Vals (toT t)) {a b : Nat} (ha : a < t.length) (hb : b < t.length) : besB (toT t) a b = true ↔ (trOf (toT t) V).adj a b := by
  unfold besB Tr.adj
  rw [Bool.or_eq_true, decide_eq_true_eq, decide_eq_true_eq, trOf_par V (by rw [toT_len]; exact ha), trOf_par V (by rw [toT_len]; exact hb)]
/-- a step of the search: it stays in the component; where it stands still it has all of it -/
theorem next_ok (hl : t.length ≤ 1000) (V : Vals (toT t)) {S O : BS} {p : Nat} (hin : ∀ i, S.getLsbD i = true → i < t.length) (hp : S.getLsbD p = true) (hpO : O.getLsbD p = true) (hO : ∀ i, O.getLsbD i = true → (compB (adjL t) S p).getLsbD i = true) :
    (∀ i, O.getLsbD i = true → (nextN (toT t) S O).getLsbD i = true) ∧ (∀ i, (nextN (toT t) S O).getLsbD i = true → (compB (adjL t) S p).getLsbD i = true) ∧ (card (nextN (toT t) S O) = card O → O = compB (adjL t) S p) := by
  have F := fo_tree hl V
  have hn : (trOf (toT t) V).n = t.length := toT_len t
  have hin' : ∀ i, S.getLsbD i = true → i < (trOf (toT t) V).n := fun i hi => by rw [hn]; exact hin i hi
  have hc := (comp_some F hin' hp).2
  have hOS : ∀ i, O.getLsbD i = true → S.getLsbD i = true := fun i hi => comp_sub F hin' hp i (hO i hi)
  have h1 : ∀ i, O.getLsbD i = true → (nextN (toT t) S O).getLsbD i = true := fun i hi => (nextN_bit _ _ _ i).2 (.inl hi)
  refine ⟨h1, fun i hi => ?_, fun he => ?_⟩
  · rcases (nextN_bit _ _ _ i).1 hi with h | ⟨h2, x, h3, h4⟩
    · exact hO i h
    · have hx := hOS x h3
      have := (hc x).1 (hO x h3)
      exact (hc i).2 (this.trans (Tr.cn.of_adj (hin' x hx) (hin' i h2) hx h2 ((bes_adj V (hin x hx) (hin i h2)).1 h4)))
  · refine set_ext' fun k => ⟨hO k, fun hk => ?_⟩
    refine ((hc k).1 hk).ind (S := fun i => O.getLsbD i = true) hpO fun a b ha hb pa pb hs hab => ?_
    apply Classical.byContradiction
    intro hnb
    have hb' : (nextN (toT t) S O).getLsbD b = true := (nextN_bit _ _ _ b).2 (.inr ⟨pb, a, hs, (bes_adj V (hin a pa) (hin b pb)).2 hab⟩)
    have := card_lt h1 hb' hnb
    omega
end
end Go.Mono
