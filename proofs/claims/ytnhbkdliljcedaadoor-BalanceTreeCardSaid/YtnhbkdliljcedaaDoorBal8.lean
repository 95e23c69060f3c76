/-
  Plain facts on the balanced tree: its size, its depth, its width.
  No condition.
-/
import Derived.Test.YtnhbkdliljcedaaDoorBal7
import Derived.Test.YtnhbkdliljcedaaDoorWF
set_option linter.unusedVariables false
set_option linter.unusedSimpArgs false
set_option linter.unusedVariables false
set_option linter.unusedSimpArgs false
namespace Go.Mono

theorem countP_min (n : Nat) : ∀ m, (List.range m).countP (fun i => decide (i < n)) = min m n
  | 0 => by simp
  | m + 1 => by
    rw [List.range_succ, List.countP_append, countP_min n m]
    by_cases h : m < n
    · simp [h]; omega
    · simp [h]; omega
theorem card_below (n : Nat) (hn : n ≤ 1024) : card (belowB n) = n := by
  have : card (belowB n) = (List.range 1024).countP (fun i => decide (i < n)) := List.countP_congr fun i _ => by
    rw [below_bit' n i hn, decide_eq_true_eq]
  rw [this, countP_min]; omega

section
variable {t : List (Int × BS)} {T : Tr}
theorem parts0_ok (F : Fo (adjL t) T) (h0 : 0 < t.length) : (parts0 t).length = t.length ∧ (parts0 t)[0]? = some (-1, belowB t.length) ∧ ∀ i x, (parts0 t)[i]? = some x → BNd (adjL t) T (parts0 t) i x.1 x.2 ∧ (0 < i → Ab (adjL t) (parts0 t) i x.1 x.2) := by
  obtain ⟨hp, hc⟩ := Pt.all F h0
  have hle := F.le
  have hn : T.n = t.length := by rw [← F.len, adjL_len]
  obtain ⟨seg, h1, h2, h3, h4⟩ := balL_ok F t.length (belowB t.length) (-1) [] hp hc
  have e : parts0 t = seg := by rw [parts0, h1]; rfl
  rw [e]
  refine ⟨by rw [h2, card_below _ (by omega)], h3, fun i x hx => ?_⟩
  have := h4 i x hx
  simpa using this
/-- the new bag and the one above of node i -/
theorem bal_bg {i : Nat} {x : Int × BS} (h : (parts0 t)[i]? = some x) : bg ((parts0 t).map (bagOf (adjL t) t)) i = bagOf (adjL t) t x := by
  rw [bg, List.getElem?_map, h]; rfl
theorem bal_get {i : Nat} (F : Fo (adjL t) T) (h0 : 0 < t.length) (h : i < t.length) : ∃ x, (parts0 t)[i]? = some x := by
  rw [← (parts0_ok F h0).1] at h
  exact ⟨_, List.getElem?_eq_getElem h⟩
theorem bagOf_fst (fs : List BS) (t : List (Int × BS)) (x : Int × BS) : (bagOf fs t x).1 = x.1 := by simp only [bagOf]
theorem bagOf_snd (fs : List BS) (t : List (Int × BS)) (x : Int × BS) : (bagOf fs t x).2 = hasTo t (splitter fs x.2) (elems (outM fs x.2)) := by simp only [bagOf, hasB]
/-! ### depth -/
def potI (t : List (Int × BS)) (i : Nat) : Nat := match (parts0 t)[i]? with
  | some x => pot (adjL t) x.2
  | none => 0
theorem potI_kid (F : Fo (adjL t) T) (h0 : 0 < t.length) {b k : Nat} (h : k ∈ kN ((parts0 t).map (bagOf (adjL t) t)) b) : potI t k + 1 ≤ potI t b := by
  obtain ⟨h1, h2⟩ := mem_kN.1 h
  obtain ⟨hl, hz, hn⟩ := parts0_ok F h0
  rw [List.length_map, hl] at h1
  obtain ⟨x, hx⟩ := bal_get F h0 h1
  rw [bal_bg hx] at h2
  have hk0 : 0 < k := by
    apply Classical.byContradiction
    intro hh
    obtain rfl : k = 0 := by omega
    rw [hz] at hx
    cases hx
    simp only [bagOf] at h2
    omega
  obtain ⟨p, u, Q, e1, e2, e3, e4⟩ := (hn k x hx).2 hk0
  have e5 : p = b := by
    rw [bagOf_fst] at h2
    have h3 := h2
    rw [h3] at e1
    exact (Int.ofNat.inj e1).symm
  subst e5
  have := ((hn p _ e3).1.pt).pot F e4
  simp only [potI, hx, e3]
  exact this
theorem dnF_pot {ks : Nat → List Nat} {h : Nat → Nat} (hk : ∀ b, ∀ k ∈ ks b, h k + 1 ≤ h b) (B : Int) : ∀ (f b : Nat) (deep : Int) (s : List Int × Int), (∀ x ∈ s.1, x ≤ B) → deep + h b ≤ B → ∀ x ∈ (dnF ks f b deep s).1, x ≤ B
  | 0, b, deep, s, hs, hd => by
    intro x hx
    rw [dnF] at hx
    rcases List.mem_or_eq_of_mem_set hx with h1 | h1
    · exact hs x h1
    · rw [h1]; omega
  | f + 1, b, deep, s, hs, hd => by
    rw [dnF]
    have : ∀ (l : List Nat) (s : List Int × Int), (∀ k ∈ l, h k + 1 ≤ h b) → (∀ x ∈ s.1, x ≤ B) → ∀ x ∈ (l.foldl (fun s k => dnF ks f k (deep + 1) s) s).1, x ≤ B := by
      intro l
      induction l with
      | nil => intro s _ h; exact h
      | cons k l ih =>
        intro s hl hs
        rw [List.foldl_cons]
        have := hl k (by simp)
        exact ih _ (fun j hj => hl j (by simp [hj])) (dnF_pot hk B f k (deep + 1) s hs (by omega))
    refine this _ _ (hk b) fun x hx => ?_
    rcases List.mem_or_eq_of_mem_set hx with h1 | h1
    · exact hs x h1
    · rw [h1]; omega
theorem balT_len (F : Fo (adjL t) T) (h : chkR (toT t) = 0) : (balT t).length = t.length := by
  obtain ⟨h0, _⟩ := chkR_ok.1 h
  rw [toT_len] at h0
  rw [balT, if_pos h, List.length_map, (parts0_ok F h0).1]
theorem balAt_len (F : Fo (adjL t) T) (h : chkR (toT t) = 0) : (balAt t).length = t.length := by
  obtain ⟨h0, _⟩ := chkR_ok.1 h
  rw [toT_len] at h0
  rw [balAt, if_pos h, List.length_map, (parts0_ok F h0).1]
/-- THE DEPTH -/
theorem bal_depth (F : Fo (adjL t) T) (h : chkR (toT t) = 0) : depT (balT t) ≤ 2 * (dg t.length : Nat) := by
  obtain ⟨h0, _⟩ := chkR_ok.1 h
  rw [toT_len] at h0
  have hlen := balT_len F h
  unfold depT
  split
  · obtain ⟨hl, hz, hn⟩ := parts0_ok F h0
    have e : balT t = (parts0 t).map (bagOf (adjL t) t) := by rw [balT, if_pos h]
    have hpos := dg_step (n := t.length) (by omega)
    have hpot0 : potI t 0 + 1 ≤ 2 * dg t.length := by
      simp only [potI, hz]
      have := ((hn 0 _ hz).1.pt)
      have hle := F.le
      have hTn : T.n = t.length := by rw [← F.len, adjL_len]
      have ho : outM (adjL t) (belowB t.length) = 0 := set_ext' fun k => by
        rw [out_bit F this.inn]
        constructor
        · rintro ⟨h1, h2, _⟩; exact absurd ((below_bit' _ k (by omega)).2 (by omega)) h2
        · intro h; exact absurd h (bit_zero k)
      simp only [pot]
      rw [ho, card_zero, card_below _ (by omega), if_pos (by omega)]
      omega
    have key : ∀ x ∈ (depthsF (balT t) (balT t).length (rootN (balT t))).1, x ≤ ((potI t 0 : Nat) : Int) := by
      have hroot : ∀ b ∈ rootN (balT t), b = 0 := by
        intro b hb
        have hb2 : b < (balT t).length ∧ (bg (balT t) b).1 = -1 := by simpa [rootN] using hb
        rw [hlen] at hb2
        obtain ⟨x, hx⟩ := bal_get F h0 hb2.1
        have hb3 := hb2.2
        rw [e, bal_bg hx] at hb3
        apply Classical.byContradiction
        intro hne
        obtain ⟨p, u, Q, e1, _⟩ := (hn b x hx).2 (by omega)
        rw [bagOf_fst] at hb3
        have h3 := hb3
        have h4 : (0 : Int) ≤ (p : Int) := Int.natCast_nonneg p
        rw [← e1, h3] at h4
        exact absurd h4 (by decide)
      have : ∀ (l : List Nat) (s : List Int × Int), (∀ b ∈ l, b = 0) → (∀ x ∈ s.1, x ≤ ((potI t 0 : Nat) : Int)) → ∀ x ∈ (l.foldl (fun s b => dnF (kN (balT t)) (balT t).length b 0 s) s).1, x ≤ ((potI t 0 : Nat) : Int) := by
        intro l
        induction l with
        | nil => intro s _ h; exact h
        | cons b l ih =>
          intro s hl hs
          rw [List.foldl_cons]
          refine ih _ (fun j hj => hl j (by simp [hj])) (dnF_pot (h := potI t) (fun b k hk => potI_kid F h0 (by rw [← e]; exact hk)) _ _ _ _ _ hs ?_)
          rw [hl b (by simp)]; omega
      refine this _ _ hroot fun x hx => ?_
      rw [List.eq_of_mem_replicate hx]; omega
    have hm := key _ (maxTo_mem (k := (balT t).length) (by rw [depthsF_len, hlen]; exact h0))
    omega
  · omega
/-! ### each bag is a splitter -/
theorem reach (F : Fo (adjL t) T) (h0 : 0 < t.length) : ∀ (m i : Nat) (x : Int × BS), (parts0 t)[i]? = some x → card x.2 ≤ m → ∀ y, x.2.getLsbD y = true → ∃ (k : Nat) (z : Int × BS), (parts0 t)[k]? = some z ∧ splitter (adjL t) z.2 = y := by
  obtain ⟨hl, hz, hn⟩ := parts0_ok F h0
  intro m
  induction m with
  | zero => intro i x hx hc y hy; have := card_pos hy; omega
  | succ m ih =>
    intro i x hx hc y hy
    have hp := (hn i x hx).1.pt
    by_cases hys : splitter (adjL t) x.2 = y
    · exact ⟨i, x, hx, hys⟩
    · have hle := F.le
      have hsn := hp.inn _ (hp.spl F).mem
      have hyd : (del x.2 (splitter (adjL t) x.2 : Int)).getLsbD y = true := (bit_del x.2 (by omega)).2 ⟨hy, fun e => hys e.symm⟩
      have hCm := (parts_some F (del_in (part := x.2) hp.inn (splitter (adjL t) x.2 : Int))).2.2.2 y hyd
      have hself := comp_self F (del_in (part := x.2) hp.inn (splitter (adjL t) x.2 : Int)) hyd
      obtain ⟨k, _, hk⟩ := (hn i x hx).1.kid _ hCm
      have := (hp.step F hCm).2
      exact ih k _ hk (by simp only; omega) y hself
theorem reach0 (F : Fo (adjL t) T) (h0 : 0 < t.length) {y : Nat} (hy : y < t.length) : ∃ (k : Nat) (z : Int × BS), (parts0 t)[k]? = some z ∧ splitter (adjL t) z.2 = y := by
  obtain ⟨hl, hz, hn⟩ := parts0_ok F h0
  have hle := F.le
  have hTn : T.n = t.length := by rw [← F.len, adjL_len]
  exact reach F h0 _ 0 _ hz (Nat.le_refl _) y ((below_bit' _ y (by omega)).2 hy)
end
/-! ### width -/
def widTo (t : List (Int × BS)) (k : Nat) : Int := (t.take k).foldl (fun m b => max m ((card b.2 : Int) - 1)) (-1)
def widT (t : List (Int × BS)) : Int := widTo t t.length
theorem widTo_succ {t : List (Int × BS)} {k : Nat} (h : k < t.length) : widTo t (k + 1) = max (widTo t k) ((card (bg t k).2 : Int) - 1) := by
  rw [widTo, List.take_add_one, bg_get h, List.foldl_append]; rfl
theorem widTo_bd (t : List (Int × BS)) : ∀ k, k ≤ t.length → -1 ≤ widTo t k ∧ widTo t k ≤ 1024 ∧ (∀ i, i < k → (card (bg t i).2 : Int) - 1 ≤ widTo t k) ∧ ∀ B : Int, -1 ≤ B → (∀ i, i < k → (card (bg t i).2 : Int) - 1 ≤ B) → widTo t k ≤ B
  | 0, _ => ⟨by simp [widTo], by simp [widTo], fun i hi => by omega, fun B hB _ => by simpa [widTo] using hB⟩
  | k + 1, h => by
    obtain ⟨h1, h2, h3, h4⟩ := widTo_bd t k (by omega)
    rw [widTo_succ (by omega)]
    have hc := card_le_n (S := (bg t k).2) (n := 1024) fun i hi => bit_lt hi
    refine ⟨by omega, by omega, fun i hi => ?_, fun B hB hb => ?_⟩
    · by_cases hik : i = k
      · subst hik; omega
      · have := h3 i (by omega); omega
    · have := h4 B hB fun i hi => hb i (by omega)
      have := hb k (by omega)
      omega
theorem card_or_le (S U : BS) : card (S ||| U) ≤ card S + card U := by
  have h1 := card_split (C := S) (U := S ||| U) fun i hi => (bit_or _ _ i).2 (.inl hi)
  have h2 : card ((S ||| U) &&& ~~~S) ≤ card U := card_mono fun i hi => by
    have := (bit_diff _ _ i).1 hi
    exact ((bit_or _ _ i).1 this.1).resolve_left this.2
  omega
theorem hasTo_card {t : List (Int × BS)} {c w : Nat} (h : ∀ i, i < t.length → card (bg t i).2 ≤ w) (hc : c < t.length) : ∀ s : List Nat, (∀ x ∈ s, x < t.length) → card (hasTo t c s) ≤ (s.length + 1) * w := by
  have : ∀ (s : List Nat) (S : BS) (m : Nat), card S ≤ m * w → (∀ x ∈ s, x < t.length) → card (s.foldl (fun h n => h ||| (bg t n).2) S) ≤ (m + s.length) * w := by
    intro s
    induction s with
    | nil => intro S m hS _; simpa using hS
    | cons x s ih =>
      intro S m hS hs
      rw [List.foldl_cons]
      have h1 := card_or_le S (bg t x).2
      have h2 := h x (hs x (by simp))
      have := ih (S ||| (bg t x).2) (m + 1) (by rw [Nat.succ_mul]; omega) fun y hy => hs y (by simp [hy])
      rw [List.length_cons, show m + (s.length + 1) = m + 1 + s.length by omega]
      exact this
  intro s hs
  have := this s (bg t c).2 1 (by have := h c hc; omega) hs
  rw [Nat.add_comm] at this
  exact this
theorem hasTo_sub {t : List (Int × BS)} {c : Nat} {i : Nat} (hi : (bg t c).2.getLsbD i = true) (s : List Nat) : (hasTo t c s).getLsbD i = true := by
  have : ∀ (s : List Nat) (S : BS), S.getLsbD i = true → (s.foldl (fun h n => h ||| (bg t n).2) S).getLsbD i = true := by
    intro s
    induction s with
    | nil => intro S h; exact h
    | cons x s ih => intro S h; exact ih _ ((bit_or _ _ i).2 (.inl h))
  exact this s _ hi
theorem bal_width {t : List (Int × BS)} {T : Tr} (F : Fo (adjL t) T) (h : chkR (toT t) = 0) : widT (balT t) ≤ 3 * max (widT t) 0 + 2 ∧ widT t ≤ widT (balT t) := by
  obtain ⟨h0, _⟩ := chkR_ok.1 h
  rw [toT_len] at h0
  have hlen := balT_len F h
  have hTn : T.n = t.length := by rw [← F.len, adjL_len]
  obtain ⟨hl, hz, hn⟩ := parts0_ok F h0
  have e : balT t = (parts0 t).map (bagOf (adjL t) t) := by rw [balT, if_pos h]
  obtain ⟨a1, a2, a3, a4⟩ := widTo_bd t t.length (Nat.le_refl _)
  obtain ⟨b1, b2, b3, b4⟩ := widTo_bd (balT t) (balT t).length (Nat.le_refl _)
  change -1 ≤ widT t at a1
  constructor
  · refine b4 _ (by omega) fun i hi => ?_
    rw [hlen] at hi
    obtain ⟨x, hx⟩ := bal_get F h0 hi
    rw [e, bal_bg hx]
    have hp := (hn i x hx).1.pt
    have hc := hp.inn _ (hp.spl F).mem
    obtain ⟨w, hw⟩ : ∃ w : Nat, (w : Int) = max (widT t) 0 + 1 := ⟨(max (widT t) 0 + 1).toNat, by omega⟩
    have hb : ∀ i, i < t.length → card (bg t i).2 ≤ w := fun i hi => by have := a3 i hi; change _ ≤ widT t at this; omega
    have h1 := hasTo_card hb (c := splitter (adjL t) x.2) (by omega) (elems (outM (adjL t) x.2)) fun y hy => by
      have := ((out_bit F hp.inn y).1 (mem_elems.1 hy).2).1
      omega
    have h2 := hp.two
    rw [← card_elems] at h2
    have h3 : ((elems (outM (adjL t) x.2)).length + 1) * w ≤ 3 * w := Nat.mul_le_mul_right w (by omega)
    have h4 := Nat.le_trans h1 h3
    rw [bagOf_snd]
    generalize card (hasTo t (splitter (adjL t) x.2) (elems (outM (adjL t) x.2))) = cc at h4 ⊢
    generalize widT t = wt at hw a1 ⊢
    clear h1 h3 hb h2 b1 b2 b3 b4 a2 a3 a4 hc hi hlen hl h0 hTn
    omega
  · refine a4 _ b1 fun i hi => ?_
    obtain ⟨k, z, hk, hs⟩ := reach0 F h0 hi
    have hkl := (List.getElem?_eq_some_iff.1 hk).1
    have h1 := b3 k (by rw [hlen]; omega)
    rw [e, bal_bg hk] at h1
    have h2 : card (bg t i).2 ≤ card (hasTo t (splitter (adjL t) z.2) (elems (outM (adjL t) z.2))) := card_mono fun j hj => hasTo_sub (by rw [hs]; exact hj) _
    rw [bagOf_snd, ← e] at h1
    change _ ≤ widT (balT t) at h1
    generalize card (hasTo t (splitter (adjL t) z.2) (elems (outM (adjL t) z.2))) = cc at h1 h2
    generalize widT (balT t) = wb at h1 ⊢
    clear b1 b2 b3 b4 a2 a3 a4 hlen hl h0 hTn a1 hkl
    omega
end Go.Mono
