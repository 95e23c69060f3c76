/-
  Plain facts on the balanced tree: each bag is a splitter once; the splitters below a node are its part.
  No condition.
-/
import Derived.Test.YtnhbkdliljcedaaDoorBal8
set_option linter.unusedVariables false
set_option linter.unusedSimpArgs false
set_option linter.unusedVariables false
set_option linter.unusedSimpArgs false
namespace Go.Mono

/-- k lies below i, or is i -/
def und (o : List (Int × BS)) : Nat → Nat → Nat → Bool
  | 0, _, _ => false
  | f + 1, k, i => if k = i then true else if (bg o k).1 < 0 then false else und o f (bg o k).1.toNat i
inductive Und (o : List (Int × BS)) : Nat → Nat → Prop
  | refl (k : Nat) : Und o k k
  | step {k p i : Nat} (h : (bg o k).1 = (p : Int)) (hu : Und o p i) : Und o k i
theorem Und.trans {o : List (Int × BS)} {k j i : Nat} (h : Und o k j) (h' : Und o j i) : Und o k i := by
  induction h with
  | refl => exact h'
  | step h _ ih => exact .step h (ih h')
/-- the one above has a smaller number -/
def Dec (o : List (Int × BS)) : Prop := ∀ j, j < o.length → -1 ≤ (bg o j).1 ∧ (bg o j).1 < (j : Int)
theorem und_iff {o : List (Int × BS)} (D : Dec o) {i : Nat} : ∀ f k, k < f → k < o.length → (und o f k i = true ↔ Und o k i)
  | 0, k, h, _ => by omega
  | f + 1, k, h, hk => by
    have hd := D k hk
    rw [und]
    by_cases h1 : k = i
    · rw [if_pos h1]
      subst h1
      exact ⟨fun _ => .refl k, fun _ => rfl⟩
    · rw [if_neg h1]
      by_cases h2 : (bg o k).1 < 0
      · rw [if_pos h2]
        constructor
        · intro h; cases h
        · intro h
          cases h with
          | refl => exact absurd rfl h1
          | step h _ => omega
      · rw [if_neg h2, und_iff D f _ (by omega) (by omega)]
        constructor
        · intro h; exact .step (by omega) h
        · intro h
          cases h with
          | refl => exact absurd rfl h1
          | step h hu => rw [h, Int.toNat_natCast]; exact hu
theorem und_fuel {o : List (Int × BS)} (D : Dec o) {i f g k : Nat} (hf : k < f) (hg : k < g) (hk : k < o.length) : und o f k i = und o g k i := by
  rw [Bool.eq_iff_iff, und_iff D f k hf hk, und_iff D g k hg hk]

section
variable {t : List (Int × BS)} {T : Tr}
theorem bal_dec (F : Fo (adjL t) T) (h : chkR (toT t) = 0) : Dec (balT t) := by
  obtain ⟨h0, _⟩ := chkR_ok.1 h
  rw [toT_len] at h0
  obtain ⟨hl, hz, hn⟩ := parts0_ok F h0
  have e : balT t = (parts0 t).map (bagOf (adjL t) t) := by rw [balT, if_pos h]
  intro j hj
  rw [balT_len F h] at hj
  obtain ⟨x, hx⟩ := bal_get F h0 hj
  rw [e, bal_bg hx, bagOf_fst]
  by_cases hj0 : 0 < j
  · obtain ⟨p, u, Q, e1, e2, _⟩ := (hn j x hx).2 hj0
    rw [e1]
    exact ⟨by omega, by omega⟩
  · obtain rfl : j = 0 := by omega
    rw [hz] at hx
    have : x.1 = -1 := by cases hx; rfl
    rw [this]
    exact ⟨by omega, by omega⟩
theorem bal_up (h : chkR (toT t) = 0) {j : Nat} {x : Int × BS} (hx : (parts0 t)[j]? = some x) : (bg (balT t) j).1 = x.1 := by
  have e : balT t = (parts0 t).map (bagOf (adjL t) t) := by rw [balT, if_pos h]
  rw [e, bal_bg hx, bagOf_fst]
theorem und_sub (F : Fo (adjL t) T) (h : chkR (toT t) = 0) {k i : Nat} (hu : Und (balT t) k i) : ∀ x z, (parts0 t)[k]? = some x → (parts0 t)[i]? = some z → ∀ y, x.2.getLsbD y = true → z.2.getLsbD y = true := by
  obtain ⟨h0, _⟩ := chkR_ok.1 h
  rw [toT_len] at h0
  obtain ⟨hl, hz, hn⟩ := parts0_ok F h0
  induction hu with
  | refl k => intro x z hx hz y hy; rw [hx] at hz; cases hz; exact hy
  | @step k p i hp hu ih =>
    intro x z hx hzz y hy
    rw [bal_up h hx] at hp
    have hk0 : 0 < k := by
      apply Classical.byContradiction
      intro hh
      obtain rfl : k = 0 := by omega
      rw [hz] at hx
      have : x.1 = -1 := by cases hx; rfl
      omega
    obtain ⟨p', u, Q, e1, e2, e3, e4⟩ := (hn k x hx).2 hk0
    have : p' = p := by rw [hp] at e1; exact (Int.ofNat.inj e1).symm
    subst this
    exact ih _ z e3 hzz y (((hn p' _ e3).1.pt.sub F e4).sub y hy).1
theorem und_reach (F : Fo (adjL t) T) (h : chkR (toT t) = 0) : ∀ (m i : Nat) (x : Int × BS), (parts0 t)[i]? = some x → card x.2 ≤ m → ∀ y, x.2.getLsbD y = true → ∃ (k : Nat) (z : Int × BS), (parts0 t)[k]? = some z ∧ splitter (adjL t) z.2 = y ∧ Und (balT t) k i := by
  obtain ⟨h0, _⟩ := chkR_ok.1 h
  rw [toT_len] at h0
  obtain ⟨hl, hz, hn⟩ := parts0_ok F h0
  intro m
  induction m with
  | zero => intro i x hx hc y hy; have := card_pos hy; omega
  | succ m ih =>
    intro i x hx hc y hy
    have hp := (hn i x hx).1.pt
    by_cases hys : splitter (adjL t) x.2 = y
    · exact ⟨i, x, hx, hys, .refl i⟩
    · have hle := F.le
      have hsn := hp.inn _ (hp.spl F).mem
      have hyd : (del x.2 (splitter (adjL t) x.2 : Int)).getLsbD y = true := (bit_del x.2 (by omega)).2 ⟨hy, fun e => hys e.symm⟩
      have hCm := (parts_some F (del_in (part := x.2) hp.inn (splitter (adjL t) x.2 : Int))).2.2.2 y hyd
      have hself := comp_self F (del_in (part := x.2) hp.inn (splitter (adjL t) x.2 : Int)) hyd
      obtain ⟨k, _, hk⟩ := (hn i x hx).1.kid _ hCm
      have := (hp.step F hCm).2
      obtain ⟨j, z, j1, j2, j3⟩ := ih k _ hk (by simp only; omega) y hself
      exact ⟨j, z, j1, j2, j3.trans (.step (bal_up h hk) (.refl i))⟩
/-- the splitters of the nodes below i, among the first K -/
def useto (o : List (Int × BS)) (at_ : List Int) (i K : Nat) : BS := (List.range K).foldl (fun S k => if und o (k + 1) k i = true then ins S (at_.getD k 0) else S) 0
theorem useto_succ (o : List (Int × BS)) (at_ : List Int) (i K : Nat) : useto o at_ i (K + 1) = if und o (K + 1) K i = true then ins (useto o at_ i K) (at_.getD K 0) else useto o at_ i K := by
  rw [useto, List.range_succ, List.foldl_append]; rfl
theorem at_get (h : chkR (toT t) = 0) {k : Nat} {z : Int × BS} (hz : (parts0 t)[k]? = some z) : (balAt t)[k]? = some ((splitter (adjL t) z.2 : Nat) : Int) := by
  rw [balAt, if_pos h, List.getElem?_map, hz]; rfl
/-- THE SPLITTERS BELOW A NODE -/
theorem use_part (F : Fo (adjL t) T) (h : chkR (toT t) = 0) {i : Nat} {x : Int × BS} (hx : (parts0 t)[i]? = some x) : useto (balT t) (balAt t) i t.length = x.2 := by
  obtain ⟨h0, _⟩ := chkR_ok.1 h
  rw [toT_len] at h0
  obtain ⟨hl, hz, hn⟩ := parts0_ok F h0
  have hle := F.le
  have D := bal_dec F h
  have hlen := balT_len F h
  have hsn : ∀ (k : Nat) (z : Int × BS), (parts0 t)[k]? = some z → splitter (adjL t) z.2 < 1024 := fun k z hk => by
    have hp := (hn k z hk).1.pt
    have := hp.inn _ (hp.spl F).mem
    omega
  refine set_ext' fun y => ?_
  unfold useto
  rw [foldl_bit_or y _ (fun k => und (balT t) (k + 1) k i = true ∧ (balAt t).getD k 0 = (y : Int))]
  · constructor
    · rintro (hb | ⟨k, hk, hu, ha⟩)
      · exact absurd hb (bit_zero y)
      · have hkl := List.mem_range.1 hk
        obtain ⟨z, hz'⟩ := bal_get F h0 hkl
        have hU := (und_iff D (k + 1) k (by omega) (by omega)).1 hu
        have hg := at_get h hz'
        have hsy : splitter (adjL t) z.2 = y := by
          rw [List.getD_eq_getElem?_getD, hg] at ha
          exact Int.ofNat.inj ha
        have hp := (hn k z hz').1.pt
        exact und_sub F h hU z x hz' hx y (by rw [← hsy]; exact (hp.spl F).mem)
    · intro hy
      obtain ⟨k, z, k1, k2, k3⟩ := und_reach F h _ i x hx (Nat.le_refl _) y hy
      have hkl := (List.getElem?_eq_some_iff.1 k1).1
      rw [hl] at hkl
      refine .inr ⟨k, List.mem_range.2 hkl, (und_iff D (k + 1) k (by omega) (by omega)).2 k3, ?_⟩
      rw [List.getD_eq_getElem?_getD, at_get h k1, k2]; rfl
  · intro S k hk
    have hkl := List.mem_range.1 hk
    obtain ⟨z, hz'⟩ := bal_get F h0 hkl
    have hg := at_get h hz'
    have hgd : (balAt t).getD k 0 = ((splitter (adjL t) z.2 : Nat) : Int) := by rw [List.getD_eq_getElem?_getD, hg]; rfl
    by_cases hu : und (balT t) (k + 1) k i = true
    · rw [if_pos hu, hgd, bit_ins S (hsn k z hz')]
      constructor
      · rintro (hh | hh)
        · exact .inl hh
        · exact .inr ⟨hu, by rw [hh]⟩
      · rintro (hh | ⟨_, hh⟩)
        · exact .inl hh
        · exact .inr (Int.ofNat.inj hh).symm
    · rw [if_neg hu]
      exact ⟨.inl, fun hh => hh.elim id fun hh => absurd hh.1 hu⟩
/-- the part of a node: a part that the checks let through -/
theorem part_ok (F : Fo (adjL t) T) (h : chkR (toT t) = 0) {P : BS} (hp : Pt (adjL t) T P) : partE t P = 0 ∧ card (bouR t P) ≤ 2 := by
  have hTn : T.n = t.length := by rw [← F.len, adjL_len]
  have hle := F.le
  have hE : partE t P = 0 := by
    rw [partE, if_neg (fun hh => hh h), if_neg]
    obtain ⟨k0, hk0⟩ := hp.ne
    obtain ⟨k, hk, _⟩ := minOf_is hk0
    rintro (hh | hh | hh)
    · rw [hk] at hh; cases hh
    · refine hh (set_ext' fun i => ?_)
      rw [bit_diff, below_bit' _ _ (by omega)]
      exact ⟨fun h' => absurd (by have := hp.inn i h'.1; omega) h'.2, fun h' => absurd h' (bit_zero i)⟩
    · rw [hk] at hh
      exact hh ((comp_conn F hp.inn (minOf_mem hk)).2 hp.conn)
  exact ⟨hE, by rw [bouR, if_pos hE]; exact hp.two⟩
/-! ### each once -/
theorem sum_one {c : Nat → Nat} : ∀ (n : Nat), (∀ i, i < n → 1 ≤ c i) → n ≤ ((List.range n).map c).sum ∧ (((List.range n).map c).sum = n → ∀ i, i < n → c i = 1)
  | 0, _ => ⟨by simp, fun _ i hi => by omega⟩
  | n + 1, h => by
    obtain ⟨h1, h2⟩ := sum_one n fun i hi => h i (by omega)
    have hn := h n (by omega)
    rw [List.range_succ, List.map_append, List.sum_append]
    simp only [List.map_cons, List.map_nil, List.sum_cons, List.sum_nil, Nat.add_zero]
    refine ⟨by omega, fun he i hi => ?_⟩
    by_cases hin : i = n
    · subst hin; omega
    · exact h2 (by omega) i (by omega)
theorem count_two {l : List Nat} {i j y : Nat} (hi : l[i]? = some y) (hj : l[j]? = some y) (hlt : j < i) : 2 ≤ l.count y := by
  rw [← List.take_append_drop i l, List.count_append]
  have h1 : y ∈ l.take i := List.mem_of_getElem? (i := j) (by rw [List.getElem?_take, if_pos hlt]; exact hj)
  have h2 : y ∈ l.drop i := List.mem_of_getElem? (i := 0) (by rw [List.getElem?_drop]; exact hi)
  have := List.count_pos_iff.2 h1
  have := List.count_pos_iff.2 h2
  omega
theorem at_once (F : Fo (adjL t) T) (h : chkR (toT t) = 0) {i j : Nat} {x z : Int × BS} (hx : (parts0 t)[i]? = some x) (hz : (parts0 t)[j]? = some z) (hlt : j < i) : splitter (adjL t) x.2 ≠ splitter (adjL t) z.2 := by
  intro he
  obtain ⟨h0, _⟩ := chkR_ok.1 h
  rw [toT_len] at h0
  obtain ⟨hl, _, hn⟩ := parts0_ok F h0
  have hTn : T.n = t.length := by rw [← F.len, adjL_len]
  obtain ⟨l, hlE⟩ : ∃ l, l = (parts0 t).map fun x => splitter (adjL t) x.2 := ⟨_, rfl⟩
  have hll : l.length = t.length := by rw [hlE, List.length_map, hl]
  have hlt' : ∀ y ∈ l, y < t.length := fun y hy => by
    rw [hlE, List.mem_map] at hy
    obtain ⟨w, hw, rfl⟩ := hy
    obtain ⟨k, hk⟩ := List.getElem?_of_mem hw
    have hp := (hn k w hk).1.pt
    have := hp.inn _ (hp.spl F).mem
    omega
  have hc : ∀ y, y < t.length → 1 ≤ l.count y := fun y hy => by
    obtain ⟨k, w, hk, hs⟩ := reach0 F h0 hy
    refine List.count_pos_iff.2 ?_
    rw [hlE, List.mem_map]
    exact ⟨w, List.mem_of_getElem? hk, hs⟩
  have hsum := len_count hlt'
  rw [hll] at hsum
  have h1 := (sum_one (c := fun y => l.count y) t.length hc).2 hsum.symm
  have gi : l[i]? = some (splitter (adjL t) x.2) := by rw [hlE, List.getElem?_map, hx]; rfl
  have gj : l[j]? = some (splitter (adjL t) x.2) := by rw [hlE, List.getElem?_map, hz, he]; rfl
  have h2 := count_two gi gj hlt
  have h3 := h1 _ (hlt' _ (List.mem_of_getElem? gi))
  omega
end
end Go.Mono
