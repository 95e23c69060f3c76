/-
  A leaf attached to a valid tree of bags: plain facts.
  No condition.
-/
import Derived.Test.YtnhbkdliljcedaaDoorCons
import Derived.Test.YtnhbkdliljcedaaDoorAdd
set_option linter.unusedVariables false
set_option linter.unusedSimpArgs false
set_option linter.unusedVariables false
set_option linter.unusedSimpArgs false
namespace Go.Mono
open Go Go.Proofs Go.RowKit

theorem up_app {xs : List RB} {b : RB} {i : Nat} (hi : i < xs.length) : up (xs ++ [b]) i = up xs i := by
  unfold up; rw [List.getElem?_append_left hi]
theorem hs_app {xs : List RB} {b : RB} {i : Nat} (hi : i < xs.length) : hs (xs ++ [b]) i = hs xs i := by
  unfold hs; rw [List.getElem?_append_left hi]
theorem up_new {xs : List RB} {b : RB} : up (xs ++ [b]) xs.length = b.1 := by
  unfold up; rw [List.getElem?_append_right (Nat.le_refl _), Nat.sub_self]; rfl
theorem hs_new {xs : List RB} {b : RB} : hs (xs ++ [b]) xs.length = b.2 := by
  unfold hs; rw [List.getElem?_append_right (Nat.le_refl _), Nat.sub_self]; rfl
theorem hs_new2 {xs : List RB} {p : Int} {l : List Int} : hs (xs ++ [(p, l)]) xs.length = l := hs_new
theorem abv_app {xs : List RB} {b : RB} (hr : ∀ i, i < xs.length → -1 ≤ up xs i ∧ up xs i < xs.length) : ∀ (f : Nat) (a : Int), a < ((xs.length : Nat) : Int) → abv (xs ++ [b]) f a = abv xs f a
  | 0, a, _ => rfl
  | f + 1, a, ha => by
    rw [abv, abv]
    by_cases h : a < 0
    · rw [if_pos h, if_pos h]
    · have : a.toNat < xs.length := by omega
      rw [if_neg h, if_neg h, up_app this, abv_app hr f _ (hr _ this).2]
theorem selN_app {p q : Nat → Bool} {n : Nat} (h : ∀ i, i < n → p i = q i) : selN p n = selN q n := by
  unfold selN
  congr 1
  refine List.filter_congr fun i hi => h i (List.mem_range.1 hi)
theorem mem_idsR {x : Int} {xs : List RB} {j : Nat} (hj : j < xs.length) (h : x ∈ hs xs j) (hf : ∀ i, i < xs.length → ∀ n ∈ hs xs i, 0 ≤ n ∧ n ≤ 1023) : x ∈ idsR xs := by
  have g : ∀ (ys : List RB) (r : List Int), (∀ b ∈ ys, ∀ n ∈ b.2, 0 ≤ n ∧ n ≤ 1023) → (x ∈ ys.foldl (fun out b => b.2.foldl withL out) r ↔ x ∈ r ∨ ∃ b ∈ ys, x ∈ b.2) := by
    intro ys
    induction ys with
    | nil => intro r _; simp
    | cons b ys ih =>
      intro r hb
      rw [List.foldl_cons, ih _ fun c hc => hb c (by simp [hc]), mem_foldl_withL fun m hm => hb b (by simp) m hm, or_assoc]
      simp
  rw [idsR, g xs [] fun b hb n hn => by
    obtain ⟨i, hi⟩ := List.mem_iff_getElem?.1 hb
    have hlt := (List.getElem?_eq_some_iff.1 hi).1
    rw [up_get hlt] at hi
    cases hi
    exact hf i hlt n hn]
  exact .inr ⟨(up xs j, hs xs j), List.mem_of_getElem? (up_get hj), h⟩
theorem vals_app {xs : List RB} (V : Vals xs) (h0 : 0 < xs.length) {q : Nat} {l : List Int} (hq : q < xs.length) (hf : ∀ i, i < xs.length → ∀ n ∈ hs xs i, 0 ≤ n ∧ n ≤ 1023) (hl : ∀ x ∈ l, x ∈ idsR xs → x ∈ hs xs q) : Vals (xs ++ [((q : Int), l)]) := by
  obtain ⟨ys, hys⟩ : ∃ ys, ys = xs ++ [((q : Int), l)] := ⟨_, rfl⟩
  have hlen : ys.length = xs.length + 1 := by rw [hys]; simp
  have u1 : ∀ {i}, i < xs.length → up ys i = up xs i := fun h => by rw [hys, up_app h]
  have u2 : up ys xs.length = (q : Int) := by rw [hys, up_new]
  have s1 : ∀ {i}, i < xs.length → hs ys i = hs xs i := fun h => by rw [hys, hs_app h]
  have s2 : hs ys xs.length = l := by rw [hys, hs_new]
  have r1 : ∀ i, i < ys.length → -1 ≤ up ys i ∧ up ys i < ys.length := fun i hi => by
    rcases Nat.lt_or_ge i xs.length with h | h
    · have := V.range i h
      rw [u1 h]; omega
    · obtain rfl : i = xs.length := by omega
      rw [u2]; omega
  have r2 : (selN (fun i => decide (up ys i < 0)) ys.length).length = 1 := by
    rw [hlen, selN_succ, if_neg (by rw [u2]; simp)]
    rw [selN_app (q := fun i => decide (up xs i < 0)) fun i hi => by rw [u1 hi]]
    exact V.root
  have r3 : ∀ i, i < ys.length → (above ys i).isSome = true := fun i hi => by
    have ha : ∀ (f : Nat) (a : Int), a < ((xs.length : Nat) : Int) → abv ys f a = abv xs f a := fun f a h => by rw [hys, abv_app V.range f a h]
    rcases Nat.lt_or_ge i xs.length with h | h
    · have hl := V.loop i h
      rw [above, u1 h, ha _ _ (V.range i h).2, hlen]
      cases hx : above xs i with
      | none => rw [hx] at hl; cases hl
      | some l' => rw [above] at hx; rw [abv_mono hx]; rfl
    · obtain rfl : i = xs.length := by omega
      have hl := V.loop q hq
      rw [above, u2, ha _ _ (by omega), hlen, abv, if_neg (by omega), Int.toNat_natCast]
      cases hx : above xs q with
      | none => rw [hx] at hl; cases hl
      | some l' => rw [above] at hx; rw [hx]; rfl
  have t1 : ∀ {id i}, i < xs.length → topB ys id i = topB xs id i := fun {id i} h => by
    rw [topB, topB, u1 h, s1 h]
    by_cases hu : up xs i < 0
    · rw [decide_eq_true hu]; rfl
    · rw [s1 (by have := V.range i h; omega)]
  rw [← hys]
  refine ⟨r1, r2, r3, (uni_R (bare_vals r1 r2 r3)).2 fun id j i hji hi => ?_⟩
  rcases Nat.lt_or_ge i xs.length with h | h
  · rw [t1 h, t1 (by omega)]
    exact V.uni id j i hji h
  · obtain rfl : i = xs.length := by omega
    rintro ⟨h1, h2⟩
    rw [t1 hji, topB, Bool.and_eq_true] at h2
    rw [topB, Bool.and_eq_true, u2, s2, decide_eq_false (by omega), Bool.false_or, Int.toNat_natCast, s1 hq, Bool.not_eq_true'] at h1
    have m1 : id ∈ l := of_decide_eq_true h1.1
    have m2 : ¬ id ∈ hs xs q := of_decide_eq_false h1.2
    have m3 : id ∈ hs xs j := of_decide_eq_true h2.1
    exact m2 (hl id m1 (mem_idsR hji m3 hf))
theorem new_iff {xs : List RB} : newR xs = 0 ↔ 0 < xs.length ∧ Vals xs ∧ ∀ i, i < xs.length → (hs xs i).length ≤ 4 := by
  unfold newR
  constructor
  · intro h
    split at h
    · rename_i h1; exact absurd h h1
    · rename_i h1
      have h1 := Classical.not_not.1 h1
      split at h
      · rename_i h2; exact ⟨(chkR_ok.1 h1).1, (chkR_ok.1 h1).2, h2⟩
      · cases h
  · rintro ⟨h1, h2, h3⟩
    rw [if_neg (Classical.not_not.2 (chkR_ok.2 ⟨h1, h2⟩)), if_pos h3]
theorem toT_fit (t : List (Int × BS)) : ∀ i, i < (toT t).length → ∀ n ∈ hs (toT t) i, 0 ≤ n ∧ n ≤ 1023 := fun i hi n hn => by
  rw [toT_hs (by rwa [toT_len] at hi)] at hn
  exact toL_fit n hn
/-- what the program's AddLeaf and the reference's Attach refuse -/
theorem add_att {t : List (Int × BS)} (p : Int) (S : BS) : addC (frM t) p S = attC (toT t) p (toL S) := by
  have h1 : inT (frM t).1 p = isR45 (toT t) p := by
    show inT t p = _
    rw [inT, isR45, toT_len, Bool.decide_and]
  have h2 : (frM t).1.length = (toT t).length := by rw [toT_len]; rfl
  rw [addC, attC, h1, h2, toL_card]
  by_cases hi : isR45 (toT t) p = false
  · rw [if_pos hi, if_pos hi]
  have hi' : isR45 (toT t) p = true := by simpa using hi
  rw [if_neg hi, if_neg hi]
  by_cases h3 : 1024 ≤ (toT t).length
  · rw [if_pos h3, if_pos h3]
  rw [if_neg h3, if_neg h3]
  by_cases h4 : 4 < card S
  · rw [if_pos h4, if_pos h4]
  rw [if_neg h4, if_neg h4]
  have hq : p.toNat < t.length := by
    rw [isR45, toT_len] at hi'
    have := of_decide_eq_true hi'
    omega
  refine ite2 ?_ (fun _ => rfl) (fun _ => rfl)
  rw [hi', if_pos rfl, ← h2, show (frM t).1 = t from rfl, union_ids, toT_hs hq, List.any_eq_true, beq_eq_false_iff_ne, ne_eq]
  have key : ∀ k, k < 1024 → ((S &&& (idsR (toT t)).foldl ins 0 &&& ~~~(bg t p.toNat).2).getLsbD k = true ↔ ((k : Int) ∈ toL S ∧ (k : Int) ∈ idsR (toT t) ∧ ¬ (k : Int) ∈ toL (bg t p.toNat).2)) := fun k hk => by
    have hz : (0 : BS).getLsbD k = false := BitVec.getLsbD_zero
    rw [BitVec.getLsbD_and, BitVec.getLsbD_and, BitVec.getLsbD_not, foldl_ins_bit k hk, hz, Bool.false_or, Bool.and_eq_true, Bool.and_eq_true, decide_eq_true_eq, toL_mem hk, toL_mem hk]
    simp [hk, and_assoc]
  constructor
  · intro h
    apply Classical.byContradiction
    intro hno
    refine h (BitVec.eq_of_getLsbD_eq fun k hk => ?_)
    have hz : (0 : BS).getLsbD k = false := BitVec.getLsbD_zero
    rw [hz]
    cases hb : (S &&& (idsR (toT t)).foldl ins 0 &&& ~~~(bg t p.toNat).2).getLsbD k with
    | false => rfl
    | true =>
      obtain ⟨m1, m2, m3⟩ := (key k hk).1 hb
      exact absurd ⟨(k : Int), m1, by rw [hasL, hasL, decide_eq_true m2, decide_eq_false m3]; rfl⟩ hno
  · rintro ⟨x, m1, m2⟩ h
    obtain ⟨h5, h6⟩ := toL_fit x m1
    obtain ⟨k, rfl⟩ : ∃ k : Nat, x = (k : Int) := ⟨x.toNat, by omega⟩
    have hk : k < 1024 := by omega
    rw [Bool.and_eq_true, hasL, hasL, decide_eq_true_eq, Bool.not_eq_true', decide_eq_false_iff_not] at m2
    have := (key k hk).2 ⟨m1, m2⟩
    rw [h] at this
    have hz : (0 : BS).getLsbD k = false := BitVec.getLsbD_zero
    rw [hz] at this
    cases this
theorem toT_app (t : List (Int × BS)) (p : Int) (S : BS) : toT (t ++ [(p, S)]) = toT t ++ [(p, toL S)] := by
  simp [toT, toB]
/-- a leaf that Attach allows makes a frame -/
theorem add_new {t : List (Int × BS)} (h : newR (toT t) = 0) {p : Int} {S : BS} (hc : attC (toT t) p (toL S) = 0) : newR (toT (t ++ [(p, S)])) = 0 ∧ 0 ≤ p ∧ p < t.length := by
  obtain ⟨h0, V, h4⟩ := new_iff.1 h
  unfold attC at hc
  split at hc
  · cases hc
  split at hc
  · cases hc
  split at hc
  · cases hc
  split at hc
  · cases hc
  rename_i c1 c2 c3 c4
  have c5 : (toL S).length ≤ 4 := Nat.not_lt.1 c3
  have hi' : isR45 (toT t) p = true := by simpa using c1
  have hp := of_decide_eq_true hi'
  rw [toT_len] at hp
  obtain ⟨q, rfl⟩ : ∃ q : Nat, p = (q : Int) := ⟨p.toNat, by omega⟩
  have hq : q < (toT t).length := by rw [toT_len]; omega
  refine ⟨?_, hp⟩
  rw [toT_app, new_iff]
  have V' : Vals (toT t ++ [((q : Int), toL S)]) := vals_app V h0 hq (toT_fit t) fun x hx hx2 => by
    apply Classical.byContradiction
    intro hno
    refine c4 (List.any_eq_true.2 ⟨x, hx, ?_⟩)
    rw [hasL, hasL, decide_eq_true hx2, Int.toNat_natCast, decide_eq_false hno]; rfl
  refine ⟨by simp, V', fun i hi => ?_⟩
  rcases Nat.lt_or_ge i (toT t).length with h | h
  · rw [hs_app h]; exact h4 i h
  · obtain rfl : i = (toT t).length := by simp at hi; omega
    rw [hs_new2]
    exact c5
theorem bg_app {t : List (Int × BS)} {b : Int × BS} {i : Nat} (hi : i < t.length) : bg (t ++ [b]) i = bg t i := by
  unfold bg; rw [List.getElem?_append_left hi]
theorem bg_new {t : List (Int × BS)} {b : Int × BS} : bg (t ++ [b]) t.length = b := by
  unfold bg; rw [List.getElem?_append_right (Nat.le_refl _), Nat.sub_self]; rfl
theorem bg_range (t : List (Int × BS)) : (List.range t.length).map (bg t) = t := by
  refine List.ext_getElem? fun i => ?_
  rw [List.getElem?_map]
  rcases Nat.lt_or_ge i t.length with h | h
  · rw [List.getElem?_range h, bg_get h]; rfl
  · rw [List.getElem?_eq_none (by simpa using h), List.getElem?_eq_none h]; rfl
/-- RemoveLeaf undoes AddLeaf -/
theorem det_app {t : List (Int × BS)} (hr : ∀ i, i < t.length → (bg t i).1 < t.length) (b : Int × BS) : detM (t ++ [b]) t.length = t := by
  rw [detM, List.length_append, List.length_singleton, Nat.add_sub_cancel]
  refine (List.map_congr_left fun i hi => ?_).trans (bg_range t)
  have hi := List.mem_range.1 hi
  have h1 : detB (t ++ [b]) t.length i = bg t i := by rw [detB, if_neg (by omega), bg_app hi]
  have := hr i hi
  rw [detF, h1, if_neg]
  rw [List.length_append, List.length_singleton, Nat.add_sub_cancel]
  omega
theorem kids_new {xs : List RB} (hr : ∀ i, i < xs.length → up xs i < xs.length) {p : Int} (hp : p < xs.length) (l : List Int) : kids (xs ++ [(p, l)]) (xs.length : Nat) = [] := by
  rw [kids, List.length_append, List.length_singleton, selN_succ, if_neg (by rw [up_new]; simp; omega)]
  rw [List.eq_nil_iff_forall_not_mem]
  intro x hx
  obtain ⟨i, h1, h2, _⟩ := mem_selN.1 hx
  rw [up_app h1] at h2
  have h3 : up xs i = (xs.length : Nat) := by simpa using h2
  have := hr i h1
  omega
end Go.Mono
