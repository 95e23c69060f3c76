/-
  Walks and plain facts, in this order: TwW, TwQ, TwN, MonoF, Wi, Wo, R45, R45b, Plain2, Far, Gir, Cyc1, Cyc2, Cyc3, EdP.
  No condition.
-/
import Derived.Test.YtlfbebmhghpkaaaGreatDoorHF
import Derived.Test.YtlfbebmhghpkaaaGreatDoorHD
import Derived.Test.YtlfbebmhghpkaaaGreatDoorHC
import Derived.WideKeyEntry
import Derived.Test.YtlfbebmhghpkaaaGreatDoorHB
import Derived.Test.YtlfbebmhghpkaaaGreatDoorHE
set_option linter.unusedVariables false
set_option linter.unusedSimpArgs false
namespace Go.Mono
open Go Go.Proofs Go.RowKit Go.Gr
section
variable {nb : Int → BS}
theorem lv_succ : ∀ (f : Nat) (at' seen : BS), (1024 < f + card seen ∨ at' = 0) → ∀ (k x y : Nat) (S : BS), (lvF nb f at' seen)[k]? = some S → S.getLsbD x = true → (nb (x : Int)).getLsbD y = true →
  seen.getLsbD y = true ∨ ∃ k' T, k' ≤ k + 1 ∧ (lvF nb f at' seen)[k']? = some T ∧ T.getLsbD y = true := by
 intro f
 induction f with
 | zero => intro at' seen _ k x y S hS; rw [lvF] at hS; cases hS
 | succ f ih =>
  intro at' seen hf k x y S hS hx hxy
  by_cases h0 : at' = 0
  ·rw [lvF_nil h0] at hS; cases hS
  rw [lvF_cons h0] at hS ⊢
  obtain ⟨a2, ha2⟩ : ∃ a2, a2 = nxN nb at' &&& ~~~seen := ⟨_, rfl⟩
  rw [← ha2] at hS ⊢
  have hfu : 1024 < f + card (seen ||| a2) ∨ a2 = 0 := by
   by_cases h2 : a2 = 0
   ·exact .inr h2
   ·left
    obtain ⟨z, hz⟩ : ∃ z, a2.getLsbD z = true := Classical.byContradiction fun hn => h2 (set_ext' fun k => ⟨fun h => absurd ⟨k, h⟩ hn, fun h => absurd h (bit_zero k)⟩)
    have := card_lt (S := seen) (T := seen ||| a2) (z := z) (fun i hi => (bit_or _ _ _).2 (.inl hi)) ((bit_or _ _ _).2 (.inr hz)) (by rw [ha2] at hz; exact ((bit_diff _ _ _).1 hz).2)
    rcases hf with h | h
    ·omega
    ·exact absurd h h0
  have hone : ∀ y, a2.getLsbD y = true → ∃ T, (at' :: lvF nb f a2 (seen ||| a2))[1]? = some T ∧ T.getLsbD y = true := fun y hy => by
   have hne : a2 ≠ 0 := fun h => by rw [h] at hy; exact bit_zero _ hy
   cases f with
   | zero =>
    rcases hfu with h | h
    ·have := card_le_1024 (seen ||| a2); omega
    ·exact absurd h hne
   | succ f => exact ⟨a2, by rw [List.getElem?_cons_succ, lvF_cons hne, List.getElem?_cons_zero], hy⟩
  cases k with
  | zero =>
   rw [List.getElem?_cons_zero] at hS
   obtain rfl := Option.some.inj hS
   by_cases hs : seen.getLsbD y = true
   ·exact .inl hs
   ·obtain ⟨T, h1, h2⟩ := hone y (by rw [ha2]; exact (bit_diff _ _ _).2 ⟨nxN_bit.2 ⟨x, hx, hxy⟩, hs⟩)
    exact .inr ⟨1, T, by omega, h1, h2⟩
  | succ k =>
   rw [List.getElem?_cons_succ] at hS
   rcases ih a2 (seen ||| a2) hfu k x y S hS hx hxy with h | ⟨k', T, h1, h2, h3⟩
   ·rcases (bit_or _ _ _).1 h with h | h
    ·exact .inl h
    ·obtain ⟨T, h1, h2⟩ := hone y h
     exact .inr ⟨1, T, by omega, h1, h2⟩
   ·exact .inr ⟨k' + 1, T, by omega, by rw [List.getElem?_cons_succ]; exact h2, h3⟩
theorem lv_far {a : Nat} (ha : a < 1024) (q : Nat → Nat) (h0 : q 0 = a) : ∀ m, (∀ i, i < m → (nb (q i : Int)).getLsbD (q (i + 1)) = true) → ∃ k T, k ≤ m ∧ (lvB nb a)[k]? = some T ∧ T.getLsbD (q m) = true := by
 have h1 : ∀ i, (ins 0 (a : Int)).getLsbD i = true ↔ i = a := fun i => by
  rw [bit_ins _ ha]
  exact ⟨fun h => h.resolve_left (bit_zero i), .inr⟩
 have hne : ins 0 (a : Int) ≠ 0 := fun h => by
  have := (h1 a).2 rfl
  rw [h] at this; exact bit_zero _ this
 have hz : (lvB nb a)[0]? = some (ins 0 (a : Int)) := by rw [lvB, lvF_cons hne, List.getElem?_cons_zero]
 intro m
 induction m with
 | zero => intro _; exact ⟨0, _, Nat.le_refl _, hz, (h1 _).2 h0⟩
 | succ m ih =>
  intro hw
  obtain ⟨k, T, k1, k2, k3⟩ := ih fun i hi => hw i (by omega)
  rw [lvB] at k2
  rcases lv_succ 1025 _ _ (.inl (by omega)) k (q m) (q (m + 1)) T k2 k3 (hw m (Nat.lt_succ_self _)) with h | ⟨k', T', m1, m2, m3⟩
  ·exact ⟨0, _, by omega, hz, h⟩
  ·exact ⟨k', T', by omega, by rw [lvB]; exact m2, m3⟩
def farF (L : List BS) (b : Nat) : Int := match L.findIdx? (fun S => S.getLsbD b) with
 | some i => (i : Int)
 | none => -1
theorem farF_le {L : List BS} {b k : Nat} {T : BS} (h : L[k]? = some T) (hT : T.getLsbD b = true) : 0 ≤ farF L b ∧ farF L b ≤ k := by
 rw [farF]
 cases hf : L.findIdx? (fun S => S.getLsbD b) with
 | none =>
  have := List.findIdx?_eq_none_iff.1 hf T (List.mem_of_getElem? h)
  rw [hT] at this; cases this
 | some i =>
  obtain ⟨h1, h2, h3⟩ := List.findIdx?_eq_some_iff_getElem.1 hf
  refine ⟨(show (0 : Int) ≤ (i : Int) by omega), ?_⟩
  by_cases hik : i ≤ k
  ·show (i : Int) ≤ k; omega
  ·exfalso
   have := h3 k (by omega)
   obtain ⟨hk, he⟩ := List.getElem?_eq_some_iff.1 h
   rw [he, hT] at this
   exact this rfl
theorem farF_some {L : List BS} {b k : Nat} (h : farF L b = (k : Int)) : ∃ T, L[k]? = some T ∧ T.getLsbD b = true := by
 rw [farF] at h
 cases hf : L.findIdx? (fun S => S.getLsbD b) with
 | none => rw [hf] at h; exact absurd h (by show ¬(-1 : Int) = k; omega)
 | some i =>
  obtain ⟨h1, h2, _⟩ := List.findIdx?_eq_some_iff_getElem.1 hf
  rw [hf] at h
  have : i = k := by have h' : (i : Int) = k := h; omega
  subst this
  exact ⟨_, List.getElem?_eq_getElem h1, h2⟩
def extF (nb : Int → BS) (a n : Nat) : Nat → List Nat → Option (List Nat)
 | 0, _ => none
 | f + 1, way => if way.length = n then (if (nb (way.getLastD 0 : Nat)).getLsbD a = true then some way else none)
  else (elems (nb (way.getLastD 0 : Nat))).findSome? fun next => if way.contains next = true ∨ (n : Int) - way.length < farF (lvB nb a) next then none else extF nb a n f (way ++ [next])
theorem extF_len {a n : Nat} : ∀ (f : Nat) (way out : List Nat), extF nb a n f way = some out → out.length = n := by
 intro f
 induction f with
 | zero => intro way out h; cases h
 | succ f ih =>
  intro way out h
  rw [extF] at h
  split at h
  ·rename_i hl
   split at h
   ·cases h; exact hl
   ·cases h
  ·obtain ⟨next, _, hn⟩ := List.exists_of_findSome?_eq_some h
   split at hn
   ·cases hn
   ·exact ih _ _ hn
theorem extF_some (hs : ∀ i j : Nat, (nb (i : Int)).getLsbD j = true → (nb (j : Int)).getLsbD i = true) {p : Nat → Nat} {n : Nat} (h : Cyc nb p n) : ∀ (f i : Nat), i < n → n ≤ f + i → extF nb (p 0) n f ((List.range (i + 1)).map p) ≠ none := by
 have h3 := h.three
 have hp0 : p 0 < 1024 := bit_lt h.last
 intro f
 induction f with
 | zero => intro i hi hf; omega
 | succ f ih =>
  intro i hi hf
  have hlen : ((List.range (i + 1)).map p).length = i + 1 := by rw [List.length_map, List.length_range]
  have hlast : ((List.range (i + 1)).map p).getLastD 0 = p i := by rw [List.range_succ, List.map_append, List.map_singleton, List.getLastD_concat]
  rw [extF, hlen, hlast]
  by_cases hn : i + 1 = n
  ·rw [if_pos hn, if_pos (by have := h.last; rwa [show n - 1 = i by omega] at this)]
   exact fun h => by cases h
  ·rw [if_neg hn]
   intro hno
   have hadj := h.adj i (by omega)
   have hmem : p (i + 1) ∈ elems (nb (p i : Int)) := mem_elems.2 ⟨bit_lt hadj, hadj⟩
   have h1 := List.findSome?_eq_none_iff.1 hno _ hmem
   have hnc : ¬((List.range (i + 1)).map p).contains (p (i + 1)) = true := fun hc => by
    obtain ⟨j, hj, he⟩ := List.mem_map.1 (List.contains_iff_mem.1 hc)
    have hj := List.mem_range.1 hj
    have := h.inj j (i + 1) (by omega) (by omega) he
    omega
   obtain ⟨k, T, k1, k2, k3⟩ := lv_far (nb := nb) hp0 (fun j => if j = 0 then p 0 else p (n - j)) rfl (n - (i + 1)) fun j hj => by
    by_cases h0 : j = 0
    ·subst h0
     exact hs _ _ (by simpa using h.last)
    ·have := h.adj (n - (j + 1)) (by omega)
     rw [show n - (j + 1) + 1 = n - j by omega] at this
     simp only [h0, if_false, Nat.add_eq_zero_iff, false_and]
     exact hs _ _ this
   rw [if_neg (by omega), show n - (n - (i + 1)) = i + 1 by omega] at k3
   have hd := farF_le k2 k3
   rw [if_neg (by
    rintro (hc | hc)
    ·exact hnc hc
    ·have : ((i + 1 : Nat) : Int) = (i : Int) + 1 := rfl
     omega)] at h1
   have h2 := ih (i + 1) (by omega) (by omega)
   rw [List.range_succ (n := i + 1), List.map_append, List.map_singleton] at h2
   exact h2 h1
theorem Cyc.rot {p : Nat → Nat} {n : Nat} (h : Cyc nb p n) : Cyc nb (fun i => if i = n - 1 then p 0 else p (i + 1)) n := by
 have h3 := h.three
 refine ⟨h3, fun i j hi hj hij => ?_, fun i hi => ?_, ?_⟩
 ·try dsimp only at hij
  split at hij <;> split at hij
  ·omega
  ·have := h.inj _ _ (by omega) (by omega) hij; omega
  ·have := h.inj _ _ (by omega) (by omega) hij; omega
  ·have := h.inj _ _ (by omega) (by omega) hij; omega
 ·try dsimp only
  rw [if_neg (by omega)]
  split
  ·have := h.last
   rwa [show n - 1 = i + 1 by omega] at this
  ·exact h.adj (i + 1) (by omega)
 ·try dsimp only
  rw [if_pos rfl, if_neg (by omega)]
  exact h.adj 0 (by omega)
theorem Cyc.at {n : Nat} : ∀ (i : Nat) (p : Nat → Nat), Cyc nb p n → i < n → ∃ p', Cyc nb p' n ∧ p' 0 = p i ∧ ∀ j, j < n → ∃ j', j' < n ∧ p' j = p j' := by
 intro i
 induction i with
 | zero => intro p h _; exact ⟨p, h, rfl, fun j hj => ⟨j, hj, rfl⟩⟩
 | succ i ih =>
  intro p h hi
  obtain ⟨p', h1, h2, h4⟩ := ih _ h.rot (by omega)
  rw [if_neg (by omega)] at h2
  refine ⟨p', h1, h2, fun j hj => ?_⟩
  obtain ⟨j', hj', e⟩ := h4 j hj
  split at e
  ·exact ⟨0, by omega, e⟩
  ·exact ⟨j' + 1, by omega, e⟩
theorem least_at (p : Nat → Nat) : ∀ n, 0 < n → ∃ i, i < n ∧ ∀ j, j < n → p i ≤ p j := by
 intro n
 induction n with
 | zero => intro h; omega
 | succ n ih =>
  intro _
  by_cases h0 : n = 0
  ·exact ⟨0, by omega, fun j hj => by rw [show j = 0 by omega]; exact Nat.le_refl _⟩
  obtain ⟨i, hi, h⟩ := ih (by omega)
  by_cases hle : p i ≤ p n
  ·exact ⟨i, by omega, fun j hj => by
    by_cases hjn : j = n
    ·rw [hjn]; exact hle
    ·exact h j (by omega)⟩
  ·exact ⟨n, by omega, fun j hj => by
    by_cases hjn : j = n
    ·rw [hjn]; exact Nat.le_refl _
    ·have := h j (by omega); omega⟩
theorem Cyc.least {p : Nat → Nat} {n : Nat} (h : Cyc nb p n) : ∃ p', Cyc nb p' n ∧ ∀ j, j < n → p' 0 ≤ p' j := by
 have h3 := h.three
 obtain ⟨i, hi, hm⟩ := least_at p n (by omega)
 obtain ⟨p', h1, h2, h4⟩ := Cyc.at i p h hi
 refine ⟨p', h1, fun j hj => ?_⟩
 obtain ⟨j', hj', e⟩ := h4 j hj
 rw [h2, e]
 exact hm j' hj'
theorem Cyc.within {p : Nat → Nat} {n : Nat} {S : BS} {nb' : Int → BS} (h : Cyc nb p n) (hS : ∀ i, i < n → S.getLsbD (p i) = true) (hn : ∀ i j : Nat, S.getLsbD i = true → S.getLsbD j = true → (nb (i : Int)).getLsbD j = true → (nb' (i : Int)).getLsbD j = true) : Cyc nb' p n :=
 have h3 := h.three
 ⟨h3, h.inj, fun i hi => hn _ _ (hS i (by omega)) (hS _ hi) (h.adj i hi), hn _ _ (hS _ (by omega)) (hS _ (by omega)) h.last⟩
def girF (nb : Int → BS) (es : List (Nat × Nat)) : Int := es.foldl (fun best e => let n := farF (lvB (wo nb e.1 e.2) e.1) e.2; if n ≠ -1 ∧ (best = 0 ∨ n + 1 < best) then n + 1 else best) 0
theorem farF_lo (L : List BS) (b : Nat) : -1 ≤ farF L b := by
 rw [farF]; split
 ·show (-1 : Int) ≤ (_ : Nat); omega
 ·exact Int.le_refl _
theorem girTo_ok (nb : Int → BS) : ∀ (es : List (Nat × Nat)) (b : Int), 0 ≤ b → 0 ≤ es.foldl (fun best e => let n := farF (lvB (wo nb e.1 e.2) e.1) e.2; if n ≠ -1 ∧ (best = 0 ∨ n + 1 < best) then n + 1 else best) b ∧
  (es.foldl (fun best e => let n := farF (lvB (wo nb e.1 e.2) e.1) e.2; if n ≠ -1 ∧ (best = 0 ∨ n + 1 < best) then n + 1 else best) b = 0 ↔ b = 0 ∧ ∀ e ∈ es, farF (lvB (wo nb e.1 e.2) e.1) e.2 = -1) ∧
  (es.foldl (fun best e => let n := farF (lvB (wo nb e.1 e.2) e.1) e.2; if n ≠ -1 ∧ (best = 0 ∨ n + 1 < best) then n + 1 else best) b = b ∨ ∃ e ∈ es, farF (lvB (wo nb e.1 e.2) e.1) e.2 ≠ -1 ∧ es.foldl (fun best e => let n := farF (lvB (wo nb e.1 e.2) e.1) e.2; if n ≠ -1 ∧ (best = 0 ∨ n + 1 < best) then n + 1 else best) b = farF (lvB (wo nb e.1 e.2) e.1) e.2 + 1) := by
 intro es
 induction es with
 | nil => intro b hb; exact ⟨hb, ⟨fun h => ⟨h, fun e he => by cases he⟩, fun h => h.1⟩, .inl rfl⟩
 | cons e es ih =>
  intro b hb
  obtain ⟨n, hn⟩ : ∃ n, n = farF (lvB (wo nb e.1 e.2) e.1) e.2 := ⟨_, rfl⟩
  have hlo : -1 ≤ n := by rw [hn]; exact farF_lo _ _
  rw [List.foldl_cons]
  dsimp only
  rw [← hn]
  obtain ⟨b', hb'⟩ : ∃ b', b' = if n ≠ -1 ∧ (b = 0 ∨ n + 1 < b) then n + 1 else b := ⟨_, rfl⟩
  rw [← hb']
  have hb0 : 0 ≤ b' := by rw [hb']; split <;> omega
  have hz : b' = 0 ↔ b = 0 ∧ n = -1 := by
   rw [hb']
   split
   ·rename_i h; constructor
    ·intro h'; omega
    ·intro h'; omega
   ·rename_i h; constructor
    ·intro h'; refine ⟨h', Classical.byContradiction fun hh => h ⟨hh, .inl h'⟩⟩
    ·intro h'; exact h'.1
  obtain ⟨i1, i2, i3⟩ := ih b' hb0
  dsimp only at i1 i2 i3
  refine ⟨i1, ?_, ?_⟩
  ·rw [i2, hz]
   constructor
   ·rintro ⟨⟨h1, h2⟩, h3⟩
    exact ⟨h1, fun x hx => by
     rcases List.mem_cons.1 hx with rfl | hx
     ·rw [← hn]; exact h2
     ·exact h3 x hx⟩
   ·rintro ⟨h1, h2⟩
    exact ⟨⟨h1, by rw [hn]; exact h2 e (List.mem_cons_self ..)⟩, fun x hx => h2 x (List.mem_cons_of_mem _ hx)⟩
  ·rcases i3 with h | ⟨x, hx, h1, h2⟩
   ·rw [h, hb']
    split
    ·rename_i hc
     exact .inr ⟨e, List.mem_cons_self .., by rw [← hn]; exact hc.1, by rw [← hn]⟩
    ·exact .inl rfl
   ·exact .inr ⟨x, List.mem_cons_of_mem _ hx, h1, h2⟩
theorem girF_ok (es : List (Nat × Nat)) : (girF nb es = 0 ↔ ∀ e ∈ es, farF (lvB (wo nb e.1 e.2) e.1) e.2 = -1) ∧ (girF nb es ≠ 0 → ∃ e ∈ es, ∃ k : Nat, farF (lvB (wo nb e.1 e.2) e.1) e.2 = (k : Int) ∧ girF nb es = ((k + 1 : Nat) : Int)) := by
 obtain ⟨h1, h2, h3⟩ := girTo_ok nb es 0 (Int.le_refl _)
 refine ⟨h2.trans ⟨fun h => h.2, fun h => ⟨rfl, h⟩⟩, fun hne => ?_⟩
 rcases h3 with h | ⟨e, he, h4, h5⟩
 ·exact absurd h hne
 ·have hlo := farF_lo (lvB (wo nb e.1 e.2) e.1) e.2
  refine ⟨e, he, (farF (lvB (wo nb e.1 e.2) e.1) e.2).toNat, by omega, ?_⟩
  rw [girF, h5]; omega
end
end Go.Mono

namespace Go.Mono
open Go Go.Proofs Go.RowKit Go.Gr
theorem farF_none {L : List BS} {b : Nat} : farF L b = -1 ↔ ¬(unL L).getLsbD b = true := by
 constructor
 ·intro h hh
  obtain ⟨T, hT, hb⟩ := unL_bit.1 hh
  obtain ⟨k, hk, he⟩ := List.getElem_of_mem hT
  have := farF_le (L := L) (k := k) (by rw [List.getElem?_eq_getElem hk, he]) hb
  omega
 ·intro h
  refine Classical.byContradiction fun hn => ?_
  have hlo := farF_lo L b
  obtain ⟨T, hT, hb⟩ := farF_some (L := L) (b := b) (k := (farF L b).toNat) (by omega)
  exact h (unL_bit.2 ⟨T, List.mem_of_getElem? hT, hb⟩)
section
variable {nb : Int → BS}
theorem wo_back (hs : ∀ i j : Nat, (nb (i : Int)).getLsbD j = true → (nb (j : Int)).getLsbD i = true) {i j : Nat} (hi : i < 1024) (hj : j < 1024) (hij : i ≠ j) (h : (unL (lvB (wo nb i j) i)).getLsbD j = true) : (unL (lvB (wo nb j i) j)).getLsbD i = true := by
 obtain ⟨a1, a2, a3⟩ := lvB_ok (nb := wo nb i j) hi
 obtain ⟨b1, b2, _⟩ := lvB_ok (nb := wo nb j i) hj
 refine Classical.byContradiction fun hn => ?_
 have hb := a3 (unL (lvB (wo nb i j) i) &&& ~~~unL (lvB (wo nb j i) j)) ((bit_diff _ _ _).2 ⟨a1, hn⟩) (fun x y hx hxy => by
  obtain ⟨k1, k2⟩ := (bit_diff _ _ _).1 hx
  refine (bit_diff _ _ _).2 ⟨a2 x y k1 hxy, fun hy => k2 (b2 y x hy ?_)⟩
  obtain ⟨m1, m2, m3⟩ := (wo_bit hi hj hij x y).1 hxy
  exact (wo_bit hj hi (Ne.symm hij) y x).2 ⟨hs x y m1, fun h => m2 ⟨h.2, h.1⟩, fun h => m3 ⟨h.2, h.1⟩⟩) j h
 exact ((bit_diff _ _ _).1 hb).2 b1
end
section
variable {g : GT}
theorem tw_girth (G : Gr.Ok g) (hl : g.1.length ≤ 12) {es : List (Nat × Nat)} (hes : ∀ i j : Nat, Adj g i j ↔ (i, j) ∈ es ∨ (j, i) ∈ es) : twG g ≤ 1 ↔ girF (nbA g) es = 0 := by
 rw [tw_bridges G hl, (girF_ok es).1]
 constructor
 ·intro h e he
  exact farF_none.2 (h e.1 e.2 ((hes _ _).2 (.inl he)))
 ·intro h i j hij hh
  obtain ⟨hi, hj, hne⟩ := hij.inn G
  rcases (hes i j).1 hij with he | he
  ·exact farF_none.1 (h _ he) hh
  ·exact farF_none.1 (h _ he) (wo_back (nb_symm G) (bit_lt hi) (bit_lt hj) hne hh)
theorem girth_found (G : Gr.Ok g) {es : List (Nat × Nat)} (hes : ∀ i j : Nat, Adj g i j ↔ (i, j) ∈ es ∨ (j, i) ∈ es) (hn : girF (nbA g) es ≠ 0) :
  ∃ n : Nat, girF (nbA g) es = (n : Int) ∧ 3 ≤ n ∧ ∃ a, (vset g.1).getLsbD a = true ∧ ∀ S : BS, (∀ i, (vset g.1).getLsbD i = true → a ≤ i → S.getLsbD i = true) →
   ∀ (nb' : Int → BS), (∀ i j : Nat, S.getLsbD i = true → S.getLsbD j = true → (nbA g (i : Int)).getLsbD j = true → (nb' (i : Int)).getLsbD j = true) → (∀ i j : Nat, (nb' (i : Int)).getLsbD j = true → (nb' (j : Int)).getLsbD i = true) → ∀ f, n ≤ f → extF nb' a n f [a] ≠ none := by
 obtain ⟨e, he, k, hk, hg⟩ := (girF_ok es).2 hn
 obtain ⟨T, hT, hb⟩ := farF_some hk
 have hA : Adj g e.1 e.2 := (hes _ _).2 (.inl he)
 obtain ⟨hi, hj, hne⟩ := hA.inn G
 obtain ⟨p0, hp0, _⟩ := cyc_of (bit_lt hi) (bit_lt hj) hne ((nbA_bit G).2 hA.symm) hT hb
 obtain ⟨p, hp, hmin⟩ := hp0.least
 have h3 := hp.three
 have hV : ∀ i, i < k + 1 → (vset g.1).getLsbD (p i) = true := fun i hi => by
  by_cases hi1 : i + 1 < k + 1
  ·exact (((nbA_bit G).1 (hp.adj i hi1)).inn G).1
  ·have := (((nbA_bit G).1 hp.last).inn G).1
   rwa [show k + 1 - 1 = i by omega] at this
 refine ⟨k + 1, hg, h3, p 0, hV 0 (by omega), fun S hS nb' hnb hs' f hf => ?_⟩
 have hpS : ∀ i, i < k + 1 → S.getLsbD (p i) = true := fun i hi => hS _ (hV i hi) (hmin i hi)
 have hp' := hp.within (nb' := nb') hpS hnb
 have := extF_some hs' hp' f 0 (by omega) (by omega)
 rwa [show (List.range (0 + 1)).map p = [p 0] from rfl] at this
end
end Go.Mono

namespace Go.Mono
open Go Go.Proofs Go.RowKit Go.Gr
theorem mem_insW' {γ : Type} (after : γ → Bool) (x y : γ) (l : List γ) : y ∈ insW after x l ↔ y = x ∨ y ∈ l := by
 have h : y ∈ l ↔ y ∈ l.takeWhile (fun y => !after y) ∨ y ∈ l.dropWhile (fun y => !after y) := by
  rw [← List.mem_append, List.takeWhile_append_dropWhile]
 rw [insW, List.mem_append, List.mem_cons, h]
 constructor
 ·rintro (h | h | h)
  ·exact .inr (.inl h)
  ·exact .inl h
  ·exact .inr (.inr h)
 ·rintro (h | h | h)
  ·exact .inr (.inl h)
  ·exact .inl h
  ·exact .inr (.inr h)
def eG (g : GT) (a b : Nat) (c : Int × Int) : GT := (g.1, insE g.2 (ends (a : Int) (b : Int), c))
theorem eG_adj {g : GT} {a b : Nat} {c : Int × Int} (i j : Nat) : Adj (eG g a b c) i j ↔ Adj g i j ∨ (i = a ∧ j = b) ∨ (i = b ∧ j = a) := by
 have he : ends (a : Int) (b : Int) = ((a : Int), (b : Int)) ∨ ends (a : Int) (b : Int) = ((b : Int), (a : Int)) := by
  rcases Nat.le_total a b with h | h
  ·left; exact Prod.ext (by show min (a : Int) b = a; omega) (by show max (a : Int) b = b; omega)
  ·right; exact Prod.ext (by show min (a : Int) b = b; omega) (by show max (a : Int) b = a; omega)
 have hp : ∀ (p q r s : Nat), ((p : Int), (q : Int)) = ((r : Int), (s : Int)) ↔ p = r ∧ q = s := fun p q r s => by
  rw [Prod.mk.injEq]
  constructor <;> (rintro ⟨h1, h2⟩; constructor <;> omega)
 constructor
 ·rintro ⟨x, hx, h⟩
  rcases (mem_insW' _ _ _ _).1 hx with rfl | hx
  ·right
   rcases he with he | he <;> rcases h with h | h <;> (have h' := h; dsimp only at h'; rw [he] at h'; obtain ⟨h1, h2⟩ := (hp _ _ _ _).1 h'; subst h1; subst h2; simp)
  ·exact .inl ⟨x, hx, h⟩
 ·rintro (⟨x, hx, h⟩ | h)
  ·exact ⟨x, (mem_insW' _ _ _ _).2 (.inr hx), h⟩
  ·refine ⟨(ends (a : Int) (b : Int), c), (mem_insW' _ _ _ _).2 (.inl rfl), ?_⟩
   rcases h with ⟨rfl, rfl⟩ | ⟨rfl, rfl⟩
   ·exact he
   ·exact he.symm
theorem tw_add {g : GT} (G : Gr.Ok g) (hl : g.1.length ≤ 12) {a b : Nat} {c : Int × Int} (H : Gr.Ok (eG g a b c)) (ha : (vset g.1).getLsbD a = true) : twG g ≤ twG (eG g a b c) ∧ twG (eG g a b c) ≤ twG g + 1 :=
 tw_edge G H hl hl (fun i => Iff.rfl) (fun i j => eG_adj i j) ha
end Go.Mono

namespace Go.Mono
open Go Go.Proofs Go.RowKit
open Go.WideElems (Fit rd rg pl rd_val elemAt findIdx_arr findIdx_born set_self)
open Go.ChangeMaps (modify_eq_set)
open Go.ChangeMaps (setBlock)
section
variable {P : Program} {α β : Type} {V : KV P α β} {w : World} {b n : Nat} {l : List (α × β)}
theorem setIf_self {γ : Type} {a : Array γ} {i : Nat} {x : γ} (h : a[i]? = some x) : a.setIfInBounds i x = a := by
 apply Array.ext'
 rw [Array.toList_setIfInBounds]
 exact set_self _ _ _ (by simpa using h)
theorem MpR.slot {t : TypeId} (h : MpR V w b n l) (ht : P.underlying t = some (.map V.k V.e)) {x : α} {c : β} (hx : V.ok x) (hm : (x, c) ∈ l) :
  ∃ v0 st : Value, (Instr.mapEntry t (.map (some b)) (V.kv x)).run P w = .ok (.tuple #[v0, st]) w ∧
   ∀ w2 val, w2.heap[b]? = w.heap[b]? → (Instr.entryStore t (.map (some b)) st val).run P w2 = (Instr.mapUpdate t (.map (some b)) (V.kv x) val).run P w2 := by
 obtain ⟨es, ⟨arr, clock, hb, F, hs, hD⟩, hp, hok, hpw⟩ := h
 have hkey := V.key x hx
 obtain ⟨s1, s2, s3⟩ := F.stamped
 have hthere : ∃ e0 ∈ arr.toList, e0.key = V.kv x := by
  have h1 : V.enc (x, c) ∈ es := hp.mem_iff.2 (List.mem_map.2 ⟨_, hm, rfl⟩)
  cases hD
  have h2 : V.enc (x, c) ∈ arr.toList.map (rg P V.k V.R) := by
   have key : ∀ (m : List (Lit × DataW Unit)) (p : Lit × DataW Unit), p ∈ m.foldr DataW.insert [] → p ∈ m := by
    intro m
    induction m with
    | nil => intro p h; exact h
    | cons a m ih =>
     intro p h
     rw [List.foldr_cons] at h
     have := (insert_perm a (m.foldr DataW.insert [])).mem_iff.1 h
     rcases List.mem_cons.1 this with h | h
     ·rw [h]; exact List.mem_cons_self ..
     ·exact List.mem_cons_of_mem _ (ih p h)
   exact key _ _ h1
  obtain ⟨e0, he0, hr⟩ := List.mem_map.1 h2
  obtain ⟨y, hy⟩ := F.reads e0 he0
  have m1 := Go.WideElems.rd_key hy
  rw [Go.WideElems.rg_of hy] at hr
  have m2 : y.1 = V.kl x := by rw [hr]; rfl
  rw [m2] at m1
  exact ⟨e0, he0, V.K.inj m1 hkey⟩
 rcases V.K.find w hkey arr.toList F.keys with ⟨h1, h2⟩ | ⟨j, e0, h1, h2, h3⟩
 ·obtain ⟨e0, he0, hk⟩ := hthere
  exact absurd hk (h2 e0 he0)
 ·have hj : arr[j]? = some e0 := by simpa using h2
  have hsame : arr.modify j (fun e => { e with key := V.kv x }) = arr := by
   apply Array.ext'
   rw [Array.toList_modify, modify_eq_set _ _ _ _ h2]
   have : ({ e0 with key := V.kv x } : MapEntry) = e0 := by rw [← h3]
   rw [this]
   exact set_self _ _ _ h2
  refine ⟨e0.val, goInt e0.born, ?_, fun w2 val hw2 => ?_⟩
  ·have hset : ({ w with heap := w.heap.setIfInBounds b (.map arr clock) } : World) = w := by rw [setIf_self hb]
   simp [Instr.mapEntry, run_underlying ht, MapKept.run_getObj_map hb, V.K.check w false hkey, h1, hj, h3, V.K.stays w hkey, hsame, MapKept.run_setObj_map _ hb, Result.andThen, hset]
  ·have hb2 := hw2.trans hb
   have hidx : arr.findIdx? (fun e => ((e.born : Nat) : Int) == ((e0.born : Nat) : Int)) = some j := by
    rw [findIdx_arr]
    exact findIdx_born s2 h2
   have hmod : arr.modify j (fun e => { e with val := val }) = arr.modify j (fun e' => { e' with key := V.kv x, val := val }) := by
    apply Array.ext'
    rw [Array.toList_modify, Array.toList_modify, modify_eq_set _ _ _ _ h2, modify_eq_set _ _ _ _ h2, ← h3]
   have h1' : (Instr.findKey V.k (V.kv x) arr.toList).run P w2 = .ok (some (j, e0.val)) w2 := by
    rcases V.K.find w2 hkey arr.toList F.keys with ⟨q1, q2⟩ | ⟨j', e', q1, q2, q3⟩
    ·exact absurd h3 (q2 e0 (List.mem_of_getElem? h2))
    ·have hee : j' = j ∧ e' = e0 := by
      have hjl : j' < (arr.toList.map (·.key)).length := by rw [List.length_map]; exact (List.getElem?_eq_some_iff.1 q2).1
      have hjj : j' = j := (List.getElem?_inj hjl s3).1 (by rw [List.getElem?_map, List.getElem?_map, q2, h2]; show some e'.key = some e0.key; rw [q3, h3])
      refine ⟨hjj, ?_⟩
      rw [hjj, h2] at q2
      exact (Option.some.inj q2).symm
     rw [hee.1, hee.2] at q1
     exact q1
   simp [Instr.entryStore, MapKept.run_getObj_map hb2, asInt, asIntOf, goInt, hidx, hmod, MapKept.run_setObj_map _ hb2, Result.andThen]
   simp [Instr.mapUpdate, run_underlying ht, MapKept.run_getObj_map hb2, V.K.check w2 false hkey, h1', hj, h3, V.K.stays w2 hkey, MapKept.run_setObj_map _ hb2, Result.andThen]
def SlA (P : Program) (t b : Nat) (key : Value) : VA := ⟨fun st w => b < w.heap.size ∧ ∀ w2 val, w2.heap[b]? = w.heap[b]? → (Instr.entryStore t (.map (some b)) st val).run P w2 = (Instr.mapUpdate t (.map (some b)) key val).run P w2,
 fun v w w' e ⟨h1, h2⟩ => ⟨Nat.lt_of_lt_of_le h1 e.size, fun w2 val hw => h2 w2 val (hw.trans (e.block b h1))⟩⟩
theorem MpR.dvE {N : Nat} (h : MpR V w b n l) (hn : n ≤ N) {G : Nat → Prop} (hG : ¬G b) : (Dv (mpE V N) G l).p (.map (some b)) w := ⟨[.map (some b)], ⟨b, n, rfl, hG, hn, h⟩, rfl⟩
end
section ops
variable {P : Program} {w0 : World} {L : Env} {dst : Option Tmp} {ty : TypeId} {pos : String} {aft : Array Edge} {g : Option (Nat × Bool)} {x y s : Operand} {t b n : Nat}
variable {α β : Type} {V : KV P α β} {l : List (α × β)} {i : α} {c : β}
theorem enS (ht : P.underlying t = some (.map V.k V.e)) (hx : opd L x = some (E (.map (some b)))) (hy : opd L y = some (E (V.kv i))) (hM : MpR V w0 b n l) (hi : V.ok i) (hm : (i, c) ∈ l) :
  OpC P w0 L ⟨dst, .mapEntry t x y, ty, pos, aft, g⟩ (Tup [Any, SlA P t b (V.kv i)]) :=
 opc_pure fun ρ w he hv => by
  have hxv : ρ x = .map (some b) := hv x (by simp [Op.operands]) _ hx
  have hyv : ρ y = V.kv i := hv y (by simp [Op.operands]) _ hy
  obtain ⟨v0, st, h1, h2⟩ := (hM.ext he).slot ht hi hm
  exact ⟨.tuple #[v0, st], by simp only [execOp, hxv, hyv, Sem.run_bind, h1, Result.andThen_ok, Sem.run_pure], Tup.two trivial ⟨(hM.ext he).lt, h2⟩⟩
theorem esJ [DecidableEq α] (ht : P.underlying t = some (.map V.k V.e)) (hx : opd L x = some (E (.map (some b)))) (hs : opd L s = some (SlA P t b (V.kv i))) (hy : opd L y = some (E (V.mv c))) (hM : MpR V w0 b n l) (hi : V.ok i) (hc : V.okv c) (hn : n < maxLen) :
  XOpJ P w0 (Chg fun d => d = b) (fun w' => MpR V w' b (n + 1) (putP l i c)) L ⟨none, .entryStore t x s y, ty, pos, aft, none⟩ Any := by
 refine ⟨fun ρ w he hv => ?_⟩
 have hxv : ρ x = .map (some b) := hv x (by simp [Op.operands]) _ hx
 have hsv := hv s (by simp [Op.operands]) _ hs
 have hyv : ρ y = V.mv c := hv y (by simp [Op.operands]) _ hy
 obtain ⟨w', h1, h2, h3⟩ := (hM.ext he).put hi hc ht hn
 have h4 := hsv.2 w (V.mv c) rfl
 rw [h1] at h4
 simp only [OpR, execOp, hxv, hyv, Sem.run_bind, h4, Result.andThen_ok, Sem.run_pure]
 exact ⟨⟨h3.os, h3.tape, h3.output, h3.size, fun k hk hn => h3.block k hk fun hh => hn (by cases hh; rfl)⟩, trivial, h2⟩
end ops
end Go.Mono

namespace Go.Mono
open Go Go.Proofs Go.RowKit Go.Gr

theorem bAd2 (S : BS) (bm : Nat) : Tryz.prog.built 80 [(0, setV S), (1, .map (some bm))] = some (adC S (.map (some bm))) := by kernel_rfl
def wiP (l : List (Int × BS)) (S : BS) (s : List Nat) : List (Int × BS) := s.map fun n : Nat => ((n : Int), lkS l (n : Int) &&& S)
def wiL (l : List (Int × BS)) (S : BS) : List (Int × BS) := wiP l S (elems S)
theorem putP_new' {α β : Type} [DecidableEq α] {l : List (α × β)} {x : α} {c : β} (hx : ∀ c, (x, c) ∉ l) : (putP l x c).Perm (l ++ [(x, c)]) := by
 have hf : l.filter (fun p => !decide (p.1 = x)) = l := by
  rw [List.filter_eq_self]
  intro p hp
  have : p.1 ≠ x := fun e => hx p.2 (by rw [← e]; exact hp)
  simp [this]
 rw [putP, hf]
 exact List.perm_append_comm (l₁ := [(x, c)])
theorem wiP_put {l : List (Int × BS)} {S : BS} {s : List Nat} {x : Nat} (hx : x ∉ s) : (putP (wiP l S s) (x : Int) (lkS l (x : Int) &&& S)).Perm (wiP l S (s ++ [x])) := by
 refine (putP_new' fun c hc => ?_).trans (by rw [wiP, wiP, List.map_append]; exact List.Perm.refl _)
 obtain ⟨n, hn, he⟩ := List.mem_map.1 hc
 have : n = x := by have := congrArg Prod.fst he; simp only at this; omega
 exact hx (by rw [← this]; exact hn)
theorem lkS_map (f : Nat → BS) : ∀ (s : List Nat) (x : Nat), lkS (s.map fun n : Nat => ((n : Int), f n)) (x : Int) = if x ∈ s then f x else 0
 | [], x => by simp [lkS]
 | n :: s, x => by
  have ih := lkS_map f s x
  rw [lkS] at ih
  rw [List.map_cons, lkS, List.find?_cons]
  by_cases h : n = x
  ·subst h; simp
  ·have h1 : ((n : Int) = (x : Int)) = False := by simp; omega
   have h2 : (x ∈ n :: s) = (x ∈ s) := by simp [Ne.symm h]
   simp only [h1, decide_false, h2]
   exact ih
theorem lkS_neg (f : Nat → BS) (s : List Nat) {i : Int} (hi : i < 0) : lkS (s.map fun n : Nat => ((n : Int), f n)) i = 0 := by
 refine lkS_no fun c hc => ?_
 obtain ⟨n, _, he⟩ := List.mem_map.1 hc
 have := congrArg Prod.fst he
 simp only at this; omega
def nbWi (nb : Int → BS) (S : BS) : Int → BS := fun i => if has S i = true then nb i &&& S else 0
theorem lk_wi (l : List (Int × BS)) (S : BS) : lkS (wiL l S) = nbWi (lkS l) S := by
 funext i
 rw [nbWi]
 by_cases hi : i < 0
 ·have h0 : has S i = false := by
   cases h : has S i with
   | false => rfl
   | true =>
    have := h
    unfold has at this
    simp [fitsB_iff] at this
    omega
  rw [wiL, wiP, lkS_neg _ _ hi, h0]; rfl
 ·obtain ⟨n, rfl⟩ : ∃ n : Nat, i = n := ⟨i.toNat, by omega⟩
  rw [wiL, wiP, lkS_map (fun n => lkS l (n : Int) &&& S)]
  by_cases h : S.getLsbD n = true
  ·rw [if_pos (mem_elems.2 ⟨bit_lt h, h⟩), if_pos ((has_bit S n).2 h)]
  ·rw [if_neg fun hh => h (mem_elems.1 hh).2, if_neg fun hh => h ((has_bit S n).1 hh)]
structure WiJ (W : World) (N0 : Nat) (l : List (Int × BS)) (S0 S : BS) (mq : Value) (b2 b4 b5 bm : Nat) (c4 : Array Value) (s : List Nat) (w : World) : Prop where
 e : Ext W w
 t : Tab w
 hv : (Dv (mpE sKV N0) (GB W Go.Mono.G0) l).p mq w
 p2 : Blk w b2 (adC S0 mq) 80
 p4 : Blk w b4 c4 80
 p5 : Blk w b5 (adC S (.map (some bm))) 80
 m : MpR sKV w bm s.length (wiP l S s)
theorem WiJ.kp {W : World} {N0 : Nat} {l : List (Int × BS)} {S0 S : BS} {mq : Value} {b2 b4 b5 bm : Nat} {c4 : Array Value} {s : List Nat} {B : Nat} {w w' : World} (h : WiJ W N0 l S0 S mq b2 b4 b5 bm c4 s w) (k : Kp B w w') (hW : W.heap.size ≤ B) (h0 : 0 < B) (l2 : b2 < B) (l4 : b4 < B) (l5 : b5 < B) (lm : bm < B) : WiJ W N0 l S0 S mq b2 b4 b5 bm c4 s w' :=
 have no : ∀ {b}, b < B → ¬Hole B b := fun h hh => by have := hh.1; omega
 ⟨h.e.kp k hW, h.t.kp k h0, Dv.ch h.hv k.chg (fun b hb => .inr (by have := hb.1; omega)), h.p2.kp k (no l2), h.p4.kp k (no l4), h.p5.kp k (no l5), h.m.pres (k.same bm h.m.lt (no lm))⟩
theorem within_spec {G : Nat → Prop} {N0 : Nat} (l : List (Int × BS)) (S0 C : BS) (mq : Value) (W : World) (hT : Tab W) (h : (Dv (mpE sKV N0) G l).p mq W) :
  Calls Tryz.prog 36 #[.agg (adC S0 mq), setV C] W (Post (AdjA (wiL l (S0 &&& C)) (S0 &&& C) 1024) W) := by
 have HV : (Dv (mpE sKV N0) (GB W Go.Mono.G0) l).p mq W := Dv.toB (Dv.weak h fun b _ hb => hb.elim)
 clear h
 obtain ⟨S, hS⟩ : ∃ S, S = S0 &&& C := ⟨_, rfl⟩
 rw [← hS]
 have hT0 := hT.lt
 refine enterM (args := [.agg (adC S0 mq), setV C]) (As := [E (.agg (adC S0 mq)), E (setV C)]) Tryz.func36 rfl Tryz.ntmps36 (Nat.le_of_ble_eq_true rfl) ?_ (fun a hf => ?_) (Nat.le_of_ble_eq_true rfl)
 ·exact arg2 rfl rfl
 dsimp only [params, Nat.reduceAdd] at hf
 have e := Ext.rfl' W
 repeat refine seq ?_
 refine regn0 ?_
 refine tl_box hf rfl (by decide) fun a b2 w v2 hv2 e' hb2 hs2 B2 hf => ?_
 have hle2 := Nat.le_trans e.size (Nat.le_of_eq hb2.symm)
 replace hT := hT.ext e'
 replace HV := Dv.ex HV e'
 replace e := e.tr e'
 clear e'
 refine tl_box hf rfl (by decide) fun a b3 w v3 hv3 e' hb3 hs3 B3 hf => ?_
 have hle3 := Nat.le_trans e.size (Nat.le_of_eq hb3.symm)
 have lt3_B2 := B2.lt
 replace hT := hT.ext e'
 replace HV := Dv.ex HV e'
 replace e := e.tr e'
 replace B2 := B2.ext e'
 clear e'
 refine tl_alloc I80 hf (by decide) fun a b4 w e' hb4 hs4 B4 hf => ?_
 have hle4 := Nat.le_trans e.size (Nat.le_of_eq hb4.symm)
 have lt4_B2 := B2.lt
 have lt4_B3 := B3.lt
 replace hT := hT.ext e'
 replace HV := Dv.ex HV e'
 replace e := e.tr e'
 replace B2 := B2.ext e'
 replace B3 := B3.ext e'
 refine tl_nil ?_
 cases hv2
 cases hv3
 replace B2 : Blk w b2 (adC S0 mq) 80 := B2
 replace B3 : Blk w b3 (setC C) 39 := B3
 have n234 : b2 ≠ b3 ∧ b2 ≠ b4 ∧ b3 ≠ b4 ∧ W.heap.size ≤ b2 ∧ W.heap.size ≤ b3 ∧ W.heap.size ≤ b4 := by omega
 replace hf := hf.kp [2, 3, 4]
 repeat refine seq ?_
 refine regn 4 hf (by decide +kernel) ?_
 refine st (fldA Tryz.underlying80 rfl T39 (by decide) rfl) ?_
 refine st ((ldP T39 rfl B2 (by rw [adC_size]; decide)).eq (congrArg Value.agg (adC_set S0 mq))) ?_
 refine st ((ldW T39 rfl B3 rfl).eq ((rfl : _ = setV C))) ?_
 refine st (call2 (A := E (setV S)) (B := E (setV S0)) (C := E (setV C)) En51 rfl rfl (fun v u w he h h' => by cases h; cases h'; rw [hS]; exact inter_spec S0 C w)) ?_
 refine en fun a w e' hf => ?_
 replace hT := hT.ext e'
 replace HV := Dv.ex HV e'
 replace e := e.tr e'
 replace B2 := B2.ext e'
 replace B3 := B3.ext e'
 replace B4 := B4.ext e'
 clear e'
 clear hS
 refine tl_mkV sKV hf (by decide) fun a bm w e' hbm hsm HM hf => ?_
 have lb2 := B2.lt
 have lb4 := B4.lt
 have hle := e.size
 have nm : b2 < bm ∧ b4 < bm ∧ W.heap.size ≤ bm := by omega
 replace e := e.tr e'; replace hT := hT.ext e'; replace HV := Dv.ex HV e'; replace B2 := B2.ext e'; replace B4 := B4.ext e'
 clear e' B3 hle lb2 lb4
 have hNm : bm + 1 ≤ w.heap.size := HM.lt
 refine tl_op hf (by decide) (bldV [(0, _), (1, _)] rfl (bAd2 S bm)) fun a w e' hf => ?_
 replace hT := hT.ext e'
 replace HV := Dv.ex HV e'
 replace HM := HM.ext e'
 replace hNm := Nat.le_trans hNm e'.size
 replace e := e.tr e'
 replace B2 := B2.ext e'
 replace B4 := B4.ext e'
 clear e'
 refine tl_alloc I80 hf (by decide) fun a b5 w e' hb5 hs5 B5 hf => ?_
 have hle5 := Nat.le_trans e.size (Nat.le_of_eq hb5.symm)
 have lo5_hNm := Nat.le_trans hNm (Nat.le_of_eq hb5.symm)
 have lt5_B2 := B2.lt
 have lt5_B4 := B4.lt
 replace hT := hT.ext e'
 replace HV := Dv.ex HV e'
 replace HM := HM.ext e'
 replace hNm := Nat.le_trans hNm e'.size
 replace e := e.tr e'
 replace B2 := B2.ext e'
 replace B4 := B4.ext e'
 clear e'
 have n5 : b2 ≠ b5 ∧ b4 ≠ b5 ∧ b5 ≠ bm ∧ W.heap.size ≤ b5 := by have := B2.lt; have := B4.lt; omega
 refine tl_stW T80 hf rfl rfl (adC_one _ _) B5 rfl (adC_size _ _) fun w hg hsz B5 hf => ?_
 replace e := e.gr hg (by omega); replace hT := hT.gr hg (by omega); replace HV := Dv.gr HV hg (.inr (by omega)); replace B2 := B2.gr hg (by omega); replace B4 := B4.gr hg (by omega); replace HM := HM.gr hg (fun h => by cases h; omega); clear hg hNm
 refine tl_nil ?_
 replace hf := hf.kp [2, 4, 5]
 obtain ⟨Nz, hNz⟩ : ∃ Nz, Nz = w.heap.size := ⟨_, rfl⟩
 repeat refine seq ?_
 refine regn 3 hf (by decide +kernel) ?_
 refine st (fldA Tryz.underlying80 rfl T39 (by decide) rfl) ?_
 refine st ((ldP T39 rfl B5 (by rw [adC_size]; decide)).eq (congrArg Value.agg (adC_set S (.map (some bm))))) ?_
 refine st (call1 (A := SeqA Nz S) En25 rfl (fun v w' he h => by cases h; exact Calls.mono (all_spec _ w') (fun en w2 ⟨u, h1, h2, b', h3, h4, h5⟩ => ⟨u, h1, h2, b', by have := he.size; omega, h4, h5⟩))) ?_
 refine en fun a w e' hf => ?_
 replace hT := hT.ext e'
 replace HV := Dv.ex HV e'
 replace HM := HM.ext e'
 replace e := e.tr e'
 replace B2 := B2.ext e'
 replace B4 := B4.ext e'
 replace B5 := B5.ext e'
 refine tl_nil ?_
 obtain ⟨v15, ⟨b15, h15, rfl, BS⟩, hf⟩ := hf.fix 15 rfl
 replace hf := hf.kp [2, 4, 5, 15]
 obtain ⟨c4, hc4, hB4⟩ : ∃ c4 : Array Value, c4.size = 17 ∧ Blk w b4 c4 80 := ⟨_, by rfl, B4⟩
 clear B4
 have hBW : W.heap.size ≤ w.heap.size := e.size
 have h0w : 0 < w.heap.size := hT.lt
 have l2 := B2.lt
 have l4 := hB4.lt
 have l5 := B5.lt
 have lm := HM.lt
 repeat refine seq ?_
 refine blk ?_
 refine range_all3 (S := S) hf rfl BS (by decide) (fun s w1 => WiJ W N0 l S0 S mq b2 b4 b5 bm c4 s w1) (fun _ _ => False) (fun s w1 h => h.t)
  ⟨e, hT, HV, B2, hB4, B5, HM⟩ (fun s w1 w2 h hs k => h.kp k hBW h0w l2 l4 l5 lm) (fun _ _ _ h => h.elim) ?_ ?_ (fun _ _ _ _ _ _ h => h.elim)
 ·intro lp s x rest a1 w1 hs hJ hlw hf
  have hx1024 : x < 1024 := (mem_elems.1 (by rw [hs]; simp)).1
  have hxs : x ∉ s := by
   have hn : (elems S).Nodup := List.Nodup.sublist List.filter_sublist List.nodup_range
   rw [hs] at hn
   intro hx
   exact (List.nodup_append.1 hn).2.2 x hx x (by simp) rfl
  have hsl : s.length ≤ 1024 := by have := elems_len S; rw [hs] at this; simp at this; omega
  generalize hBz : w.heap.size = Bz at *
  refine regn0 ?_
  refine tl_as hf rfl (by decide) fun a hf => ?_
  refine tl_nil ?_
  simp only [Exit.then]
  refine ⟨Kh.rfl' _ _, fun w3 k3 hsz3 => ?_⟩
  have hJ3 := hJ.kp k3 hBW h0w l2 l4 l5 lm
  clear e hT HV B2 hB4 B5 HM BS hJ
  replace hf := hf.pure w3
  obtain ⟨e, hT, HV, B2, B4, B5, HM⟩ := hJ3
  have kh := Kh.rfl' Bz w3
  replace hf := hf.kp [2, 4, 5, 6]
  repeat refine seq ?_
  refine blk ?_
  have hwx : (Lit.int .i64 (x : Int)).wf = true := wf64 (by omega) (by omega)
  repeat refine seq ?_
  refine reg 10 Mix.mix hf (by decide +kernel) ?_
  refine st (fldA Tryz.underlying80 rfl T66 (by decide) rfl) ?_
  refine st (ld1 (v := .map (some bm)) T66 rfl B5 (adC_map _ _)) ?_
  refine st (mv rfl) ?_
  refine st (fldA Tryz.underlying80 rfl T66 (by decide) rfl) ?_
  refine st (ld1 (v := mq) T66 rfl B2 (adC_map _ _)) ?_
  refine st (mv rfl) ?_
  refine st (lkM (l := l) (i := (x : Int)) Tryz.underlying66 zero_set (isE rfl HV) rfl hwx) ?_
  refine st (fldA Tryz.underlying80 rfl T39 (by decide) rfl) ?_
  refine st ((ldP T39 rfl B5 (by rw [adC_size]; decide)).eq (congrArg Value.agg (adC_set S (.map (some bm))))) ?_
  refine st (call2 (A := E (setV (lkS l (x : Int) &&& S))) (B := E (setV (lkS l (x : Int)))) (C := E (setV S)) En51 rfl rfl (fun v u w he h h' => by cases h; cases h'; exact inter_spec _ S w)) ?_
  refine en fun a w e' hf => ?_
  replace hT := hT.ext e'
  replace HV := Dv.ex HV e'
  replace HM := HM.ext e'
  replace kh := kh.tr (Kh.ext e')
  replace e := e.tr e'
  replace B2 := B2.ext e'
  replace B4 := B4.ext e'
  replace B5 := B5.ext e'
  clear e'
  refine tl_mputV (V := sKV) (i := (x : Int)) (c := lkS l (x : Int) &&& S) Tryz.underlying66 hf rfl rfl rfl HM (by simp only [maxLen]; omega) hwx trivial fun w hg HM hf => ?_
  replace e := e.gr hg (by omega); replace hT := hT.gr hg (by omega); replace HV := Dv.gr HV hg (.inr (by omega)); replace B2 := B2.gr hg (by omega); replace B4 := B4.gr hg (by omega); replace B5 := B5.gr hg (by omega)
  replace kh := kh.tr (Kh.gr hg (fun hh => by have := hh.1; omega))
  clear hg
  refine tl_nil ?_
  simp only [Exit.inBlock]
  exact ⟨⟨e, hT, HV, B2, B4, B5, by rw [List.length_append]; exact HM.perm (wiP_put hxs)⟩, kh⟩
 ·intro a' w' hf' hJ hsz hDn
  simp only [Exit.inBlock, ↓reduceIte, Exit.then]
  have hD : Ds [w.heap.size] w' := (Ds.nil w').cons hDn (by simp)
  have hf : FrD 28 (marks [w.heap.size]) a' w' [(2, E (ptr b2)), (4, E (ptr b4)), (5, E (ptr b5))] := hf'.keep [2, 4, 5]
  have hDW : ∀ d ∈ [w.heap.size], W.heap.size ≤ d := fun d hd => by rw [List.mem_singleton] at hd; omega
  have hbD : ¬ bm ∈ [w.heap.size] := fun h => by rw [List.mem_singleton] at h; omega
  have hb4D : ¬ b4 ∈ [w.heap.size] := fun h => by rw [List.mem_singleton] at h; omega
  clear hf' e hT HV B2 hB4 B5 HM BS hDn
  obtain ⟨e, hT, HV, B2, B4, B5, HM⟩ := hJ
  generalize [w.heap.size] = D2 at *
  generalize w' = w at *
  repeat refine seq ?_
  refine regn 1 hf (by decide +kernel) ?_
  refine st (ldW T80 rfl B5 (adC_size _ _)) ?_
  refine en fun a w e' hf => ?_
  replace HM := HM.ext e'
  replace e := e.tr e'
  replace B4 := B4.ext e'
  replace B5 := B5.ext e'
  replace hD := hD.ext e'
  clear e'
  refine tl_stW T80 hf rfl rfl (adC_one _ _) B4 hc4 (adC_size _ _) fun w hg hsz B4 hf => ?_
  replace e := e.gr hg (by omega)
  replace hD := hD.gr hg hb4D
  replace HM := HM.gr hg (fun h => by cases h; omega)
  clear hg
  refine tl_nil ?_
  refine wret ?_
  try simp only [Exit.then, Exit.inBlock]
  refine retcM rfl T80 hf rfl B4 (adC_size _ _) hD ⟨_, rfl, e.shut hDW, .map (some bm), rfl, ?_⟩
  exact MpR.dvE (HM.pres (shut_heap D2 w bm hbD)) (elems_len S) fun h => h
end Go.Mono

namespace Go.Mono
open Go Go.Proofs Go.RowKit Go.Gr

theorem lkS_put (l : List (Int × BS)) (x : Int) (c : BS) (i : Int) : lkS (putP l x c) i = if i = x then c else lkS l i := by
 rw [lkS, putP, List.find?_cons]
 by_cases h : x = i
 ·subst h; simp
 ·have h1 : decide ((x, c).1 = i) = false := by simp [h]
  rw [h1, if_neg (Ne.symm h), lkS]
  dsimp only
  congr 2
  induction l with
  | nil => rfl
  | cons p l ih =>
   rw [List.filter_cons]
   by_cases hp : p.1 = x
   ·have h2 : decide (p.1 = i) = false := by rw [hp]; simp [h]
    rw [if_neg (by simp [hp]), List.find?_cons, h2]; exact ih
   ·rw [if_pos (by simp [hp]), List.find?_cons, List.find?_cons]
    cases decide (p.1 = i) <;> simp [ih]
theorem lk_wo (l : List (Int × BS)) {u v : Nat} (huv : u ≠ v) : lkS (putP (putP l (u : Int) (del (lkS l (u : Int)) (v : Int))) (v : Int) (del (lkS l (v : Int)) (u : Int))) = wo (lkS l) u v := by
 funext i
 rw [lkS_put, lkS_put, wo]
 by_cases h1 : i = (u : Int)
 ·rw [if_neg (by omega), if_pos h1, if_pos h1, h1]
 ·by_cases h2 : i = (v : Int)
  ·rw [if_pos h2, if_neg h1, if_pos h2, h2]
  ·rw [if_neg h2, if_neg h1, if_neg h1, if_neg h2]
def WoA (nb : Int → BS) (S : BS) (N : Nat) : VA := ⟨fun v w => ∃ l, lkS l = nb ∧ (AdjA l S N).p v w, fun v w w' e ⟨l, h1, h2⟩ => ⟨l, h1, (AdjA l S N).st v w w' e h2⟩⟩
theorem without07_spec {G : Nat → Prop} {N0 : Nat} (l : List (Int × BS)) (S0 : BS) (u v : Nat) (mq : Value) (W : World) (hT : Tab W) (h : (Dv (mpE sKV N0) G l).p mq W) (hN : N0 ≤ 100000) (hu : u < 1024) (hv : v < 1024) (huv : u ≠ v) (hmu : ((u : Int), lkS l (u : Int)) ∈ l) :
  Calls Tryz.prog 59 #[.agg (adC S0 mq), I (u : Nat), I (v : Nat)] W (Post (WoA (wo (lkS l) u v) S0 (N0 + 2)) W) := by
 obtain ⟨cs, ⟨b0, n0, rfl, hG0, hn0, HM0⟩, hmq⟩ := (Dv.toB (Dv.weak h fun b _ hb => hb.elim) : (Dv (mpE sKV N0) (GB W Go.Mono.G0) l).p mq W)
 replace hmq : mq = .map (some b0) := hmq
 subst hmq
 have hb0 : b0 < W.heap.size := Nat.lt_of_not_le fun h => hG0 (.inr h)
 have hll : l.length ≤ N0 := Nat.le_trans HM0.size_le hn0
 clear h hG0
 have hwu : (Lit.int .i64 (u : Int)).wf = true := wf64 (by omega) (by omega)
 have hwv : (Lit.int .i64 (v : Int)).wf = true := wf64 (by omega) (by omega)
 have hwo := lk_wo l huv
 obtain ⟨au, hau⟩ : ∃ au, au = del (lkS l (u : Int)) (v : Int) := ⟨_, rfl⟩
 obtain ⟨av, hav⟩ : ∃ av, av = del (lkS l (v : Int)) (u : Int) := ⟨_, rfl⟩
 rw [← hau, ← hav] at hwo
 have hT0 := hT.lt
 refine enter (args := [.agg (adC S0 (.map (some b0))), I (u : Nat), I (v : Nat)]) (As := [E (.agg (adC S0 (.map (some b0)))), E (I (u : Nat)), E (I (v : Nat))]) Tryz.func59 rfl Tryz.ntmps59 (Nat.le_of_ble_eq_true rfl) ?_ (fun a hf => ?_) (Nat.le_of_ble_eq_true rfl)
 rotate_left
 dsimp only [params, Nat.reduceAdd] at hf
 rotate_right
 ·exact arg3 rfl rfl rfl
 have e := Ext.rfl' W
 repeat refine seq ?_
 refine regn0 ?_
 refine tl_box hf rfl (by decide) fun a b3 w v3 hv3 e' hb3 hs3 B3 hf => ?_
 have hle3 := Nat.le_trans e.size (Nat.le_of_eq hb3.symm)
 replace hT := hT.ext e'
 replace HM0 := HM0.ext e'
 replace e := e.tr e'
 clear e'
 refine tl_alloc I80 hf (by decide) fun a b6 w e' hb6 hs6 B6 hf => ?_
 have hle6 := Nat.le_trans e.size (Nat.le_of_eq hb6.symm)
 have lt6_B3 := B3.lt
 replace hT := hT.ext e'
 replace HM0 := HM0.ext e'
 replace e := e.tr e'
 replace B3 := B3.ext e'
 refine tl_nil ?_
 cases hv3
 replace B3 : Blk w b3 (adC S0 (.map (some b0))) 80 := B3
 have n36 : b3 ≠ b6 ∧ W.heap.size ≤ b3 ∧ W.heap.size ≤ b6 := by omega
 replace hf := hf.kp [1, 2, 3, 6]
 repeat refine seq ?_
 refine regn 2 hf (by decide +kernel) ?_
 refine st (fldA Tryz.underlying80 rfl T39 (by decide) rfl) ?_
 refine st ((ldP T39 rfl B3 (by rw [adC_size]; decide)).eq (congrArg Value.agg (adC_set S0 (.map (some b0))))) ?_
 refine en fun a w e' hf => ?_
 replace hT := hT.ext e'
 replace HM0 := HM0.ext e'
 replace e := e.tr e'
 replace B3 := B3.ext e'
 replace B6 := B6.ext e'
 clear e'
 refine tl_mkV sKV hf (by decide) fun a bm w e' hbm hsm HM hf => ?_
 have lb3 := B3.lt
 have lb6 := B6.lt
 have hle := e.size
 have nm : b3 < bm ∧ b6 < bm ∧ W.heap.size ≤ bm := by omega
 replace e := e.tr e'; replace hT := hT.ext e'; replace HM0 := HM0.ext e'; replace B3 := B3.ext e'; replace B6 := B6.ext e'
 clear e' hle lb3 lb6
 have hNm : bm + 1 ≤ w.heap.size := HM.lt
 refine tl_op hf (by decide) (bldV [(0, _), (1, _)] rfl (bAd2 S0 bm)) fun a w e' hf => ?_
 replace hT := hT.ext e'
 replace HM0 := HM0.ext e'
 replace HM := HM.ext e'
 replace hNm := Nat.le_trans hNm e'.size
 replace e := e.tr e'
 replace B3 := B3.ext e'
 replace B6 := B6.ext e'
 clear e'
 refine tl_alloc I80 hf (by decide) fun a b7 w e' hb7 hs7 B7 hf => ?_
 have hle7 := Nat.le_trans e.size (Nat.le_of_eq hb7.symm)
 have lo7_hNm := Nat.le_trans hNm (Nat.le_of_eq hb7.symm)
 have lt7_B3 := B3.lt
 have lt7_B6 := B6.lt
 replace hT := hT.ext e'
 replace HM0 := HM0.ext e'
 replace HM := HM.ext e'
 replace hNm := Nat.le_trans hNm e'.size
 replace e := e.tr e'
 replace B3 := B3.ext e'
 replace B6 := B6.ext e'
 clear e'
 have n7 : b3 ≠ b7 ∧ b6 ≠ b7 ∧ b7 ≠ bm ∧ W.heap.size ≤ b7 ∧ bm < b7 := by have := B3.lt; have := B6.lt; omega
 refine tl_stW T80 hf rfl rfl (adC_one _ _) B7 rfl (adC_size _ _) fun w hg hsz B7 hf => ?_
 replace e := e.gr hg (by omega); replace hT := hT.gr hg (by omega); replace HM0 := HM0.gr hg (fun h => by cases h; omega); replace B3 := B3.gr hg (by omega); replace B6 := B6.gr hg (by omega); replace HM := HM.gr hg (fun h => by cases h; omega); clear hg hNm
 refine tl_nil ?_
 replace hf := hf.kp [1, 2, 3, 6, 7]
 repeat refine seq ?_
 refine regn 2 hf (by decide +kernel) ?_
 refine st (fldA Tryz.underlying80 rfl T66 (by decide) rfl) ?_
 refine st (ld1 (v := .map (some b0)) T66 rfl B3 (adC_map _ _)) ?_
 refine en fun a w e' hf => ?_
 replace hT := hT.ext e'
 replace HM0 := HM0.ext e'
 replace HM := HM.ext e'
 replace e := e.tr e'
 replace B3 := B3.ext e'
 replace B6 := B6.ext e'
 replace B7 := B7.ext e'
 clear e'
 replace hf := hf.kp [1, 2, 6, 7, 15]
 have l7w := B7.lt
 refine tl_range (V := sKV) Tryz.underlying66 hf (by decide) rfl HM0 fun a r w e' hr hsr HR hf => ?_
 have hr7 : b7 < r := by omega
 have hrW : W.heap.size ≤ r := by omega
 have hNr : r + 1 ≤ w.heap.size := by omega
 replace e := e.tr e'; replace hT := hT.ext e'; replace B6 := B6.ext e'; replace B7 := B7.ext e'; replace HM := HM.ext e'
 clear HM0 e' hr hsr B3 l7w
 refine tl_nil ?_
 replace hf := hf.kp [1, 2, 6, 7, 16]
 obtain ⟨c6, hc6, hB6⟩ : ∃ c6 : Array Value, c6.size = 17 ∧ Blk w b6 c6 80 := ⟨_, by rfl, B6⟩
 clear B6
 have B6 := hB6
 clear hB6
 repeat refine seq ?_
 refine cut (J := fun a w => Fr 47 a w [(1, E (I (u : Nat))), (2, E (I (v : Nat))), (6, E (ptr b6)), (7, E (ptr b7))] ∧ Ext W w ∧ Tab w ∧ Blk w b6 c6 80 ∧ Blk w b7 (adC S0 (.map (some bm))) 80 ∧ MpR sKV w bm l.length l) ?_ (fun a w hJ => ?_)
 ·refine blk (loopN (fun r0 a w => ∃ (old rest : List (Int × BS)), r0 = rest.length ∧ Fr 47 a w [(1, E (I (u : Nat))), (2, E (I (v : Nat))), (6, E (ptr b6)), (7, E (ptr b7)), (16, E (ptr r))] ∧ Ext W w ∧ Tab w ∧ Blk w b6 c6 80 ∧ Blk w b7 (adC S0 (.map (some bm))) 80 ∧ RgR sKV w b0 r n0 old rest ∧ MpR sKV w bm old.length old ∧ r + 1 ≤ w.heap.size ∧ (old ++ rest).Perm l) l.length ⟨[], l, rfl, hf, e, hT, B6, B7, HR, HM, hNr, List.Perm.refl _⟩ ?_)
  clear hf e hT B6 B7 HR HM hNr
  rintro r0 a w ⟨old, rest, rfl, hf, e, hT, B6, B7, HR, HM, hNr, hp⟩
  obtain ⟨hok, hpw⟩ := HR.okn
  repeat refine seq ?_
  refine regn0 ?_
  refine tl_next hf (by decide) rfl HR (fun a hrest hf => ?_) (fun a w' x c hm hg HR hen hf => ?_)
  ·refine tl_exE hf (by decide) rfl rfl fun a hf => ?_
   refine tl_nil ?_
   repeat refine seq ?_
   refine ifc hf rfl (fun h => by cases h) (fun _ => ?_)
   refine wexit ?_
   simp only [Exit.then, Exit.inBlock, ↓reduceIte]
   subst hrest
   rw [List.append_nil] at hp
   replace HM := (HM.perm hp).mono (Nat.le_of_eq hp.length_eq)
   replace hf := hf.kp [1, 2, 6, 7]
   exact ⟨trivial, hf, e, hT, B6, B7, HM⟩
  ·have hxc := hok (x, c) (List.mem_append_right _ hm)
   have hno := not_before hpw hm
   have hlen := len_rest hp hm
   have hmr := rest_less hm
   have hp' : (old ++ [(x, c)] ++ rest.filter fun p => !decide (p.1 = x)).Perm l := by
    rw [List.append_assoc]; exact (List.Perm.append_left old (filter_one_perm (List.pairwise_append.1 hpw).2.1 hm).symm).trans hp
   clear hp hm hok hpw
   replace e := e.gr hg hrW; replace hT := hT.gr hg (by omega); replace B6 := B6.gr hg (by omega); replace B7 := B7.gr hg (by omega); replace HM := HM.gr hg (fun h => by cases h; omega); replace hNr := Nat.le_trans hNr hg.size; clear hg
   refine tl_exE hf (by decide) rfl rfl fun a hf => ?_
   refine tl_nil ?_
   repeat refine seq ?_
   refine ifc hf rfl (fun _ => ?_) (fun h => by cases h)
   refine wskip ?_
   try simp only [Exit.then, Exit.inBlock, ↓reduceIte]
   repeat refine seq ?_
   refine blk ?_
   repeat refine seq ?_
   refine regn0 ?_
   refine tl_entry hf (by decide) rfl hen fun a hf => ?_
   clear hen
   replace hf := hf.kp [1, 2, 6, 7, 16, 19]
   refine tl_exE hf (by decide) rfl rfl fun a hf => ?_
   refine tl_exE hf (by decide) rfl rfl fun a hf => ?_
   refine tl_alloc I39 hf (by decide) fun a b9 w e' hb9 hs9 B9 hf => ?_
   have hle9 := Nat.le_trans e.size (Nat.le_of_eq hb9.symm)
   have lo9_hNr := Nat.le_trans hNr (Nat.le_of_eq hb9.symm)
   have lt9_B6 := B6.lt
   have lt9_B7 := B7.lt
   replace hT := hT.ext e'
   replace HM := HM.ext e'
   replace HR := HR.ext e'
   replace hNr := Nat.le_trans hNr e'.size
   replace e := e.tr e'
   replace B6 := B6.ext e'
   replace B7 := B7.ext e'
   refine tl_as hf rfl (by decide) fun a hf => ?_
   replace HR : RgR sKV w b0 r n0 (old ++ [(x, c)]) (rest.filter fun p => !decide (p.1 = x)) := HR
   have h9 : r < b9 := by omega
   refine tl_stW T39 hf rfl rfl (wordsC_one _) B9 rfl (setC_size _) fun w hg hsz B9 hf => ?_
   replace e := e.gr hg (by omega); replace hT := hT.gr hg (by omega); replace B6 := B6.gr hg (by omega); replace B7 := B7.gr hg (by omega); replace HR := HR.gr hg (fun h => by cases h; omega) (fun h => by cases h; omega); replace HM := HM.gr hg (fun h => by cases h; omega); replace hNr := Nat.le_trans hNr hg.size; clear hg
   refine tl_nil ?_
   replace hf := hf.kp [1, 2, 6, 7, 8, 9, 16]
   repeat refine seq ?_
   refine regn 4 hf (by decide +kernel) ?_
   refine st (fldA Tryz.underlying80 rfl T66 (by decide) rfl) ?_
   refine st (ld1 (v := .map (some bm)) T66 rfl B7 (adC_map _ _)) ?_
   refine st (mv rfl) ?_
   refine st ((ldW T39 rfl B9 rfl).eq ((rfl : _ = setV c))) ?_
   refine en fun a w e' hf => ?_
   replace hT := hT.ext e'
   replace HM := HM.ext e'
   replace HR := HR.ext e'
   replace hNr := Nat.le_trans hNr e'.size
   replace e := e.tr e'
   replace B6 := B6.ext e'
   replace B7 := B7.ext e'
   replace B9 := B9.ext e'
   clear e'
   refine tl_mputV (V := sKV) (i := x) (c := c) Tryz.underlying66 hf rfl rfl rfl HM (by simp only [maxLen]; omega) hxc.1 trivial fun w hg HM hf => ?_
   replace e := e.gr hg (by omega); replace hT := hT.gr hg (by omega); replace B6 := B6.gr hg (by omega); replace B7 := B7.gr hg (by omega); replace HR := HR.gr hg (fun h => by cases h; omega) (fun h => by cases h; omega); replace hNr := Nat.le_trans hNr hg.size; clear hg
   refine tl_nil ?_
   try simp only [Exit.then, Exit.inBlock, ↓reduceIte]
   replace hf := hf.kp [1, 2, 6, 7, 16]
   exact ⟨_, hmr, old ++ [(x, c)], _, rfl, hf, e, hT, B6, B7, HR, by rw [List.length_append]; exact HM.perm (putP_new hno), hNr, hp'⟩
 clear hf e hT B6 B7 HM
 obtain ⟨hf, e, hT, B6, B7, HM⟩ := hJ
 try simp only [Exit.then]
 clear HR hrW hNr hr7
 have hlm : l.length < maxLen := by simp only [maxLen]; omega
 have hlm1 : l.length + 1 < maxLen := by simp only [maxLen]; omega
 have hd := HM.dvE (N := l.length) (Nat.le_refl _) (G := Go.Mono.G0) (fun h => h)
 repeat refine seq ?_
 refine regJ 21 [0, 0, 0, 1, 1, 1, 0, 0, 0, 0, 0, 0, 0, 0, 0, 0, 0, 2, 0, 0] (Chg fun c => c = bm) (RelJ.one _) (fun w => MpR sKV w bm (l.length + 1) (putP l (u : Int) au)) (fun w w1 k h => h.ext k) Mix.mix hf (by decide +kernel) (by decide +kernel) ?_
 refine ja (fldA Tryz.underlying80 rfl T66 (by decide) rfl) ?_
 refine ja (ld1 (v := .map (some bm)) T66 rfl B7 (adC_map _ _)) ?_
 refine ja (mv rfl) ?_
 refine jf (fun w1 h1 => fldA Tryz.underlying80 rfl T66 (by decide) rfl) ?_
 refine jf (fun w1 h1 => ld1 (v := .map (some bm)) T66 rfl (B7.ch h1 (fun h => by omega)) (adC_map _ _)) ?_
 refine jf (fun w1 h1 => mv rfl) ?_
 refine ja (fldA Tryz.underlying80 rfl T66 (by decide) rfl) ?_
 refine ja (ld1 (v := .map (some bm)) T66 rfl B7 (adC_map _ _)) ?_
 refine ja (mv rfl) ?_
 refine ja (lkM (l := l) (i := (u : Int)) Tryz.underlying66 zero_set (isE rfl hd) rfl hwu) ?_
 refine ja (mv rfl) ?_
 refine ja (call2 (A := E (setV au)) (B := E (setV (lkS l (u : Int)))) (C := E (I (v : Nat))) En37 rfl rfl (fun v u w he h h' => by cases h; cases h'; rw [hau]; exact without_spec _ _ w)) ?_
 refine ja (fldA Tryz.underlying80 rfl T66 (by decide) rfl) ?_
 refine ja (ld1 (v := .map (some bm)) T66 rfl B7 (adC_map _ _)) ?_
 refine ja (mv rfl) ?_
 refine ja (lkM (l := l) (i := (v : Int)) Tryz.underlying66 zero_set (isE rfl hd) rfl hwv) ?_
 refine ja (mv rfl) ?_
 refine jk (call2 (A := E (setV av)) (B := E (setV (lkS l (v : Int)))) (C := E (I (u : Nat))) En37 rfl rfl (fun v u w he h h' => by cases h; cases h'; rw [hav]; exact without_spec _ _ w)) ?_
 refine ja (enS (V := sKV) (i := (u : Int)) (c := lkS l (u : Int)) Tryz.underlying66 rfl rfl HM hwu hmu) ?_
 refine ja (ext_ rfl rfl) ?_
 refine jx (esJ (V := sKV) (i := (u : Int)) (c := au) Tryz.underlying66 rfl rfl rfl HM hwu trivial hlm) ?_
 refine je ?_
 refine fun a w hc HF hf => ?_
 try dsimp only [push] at hf
 replace e := e.ch hc (fun b hb => by omega)
 replace B6 := B6.ch hc (fun h => by omega)
 replace B7 := B7.ch hc (fun h => by omega)
 clear hc HM hd hT
 have HM := HF
 clear HF
 refine tl_mputV (V := sKV) (i := (v : Int)) (c := av) Tryz.underlying66 hf rfl rfl rfl HM hlm1 hwv trivial fun w hg HM hf => ?_
 replace e := e.gr hg (by omega); replace B6 := B6.gr hg (by omega); replace B7 := B7.gr hg (by omega)
 clear hg
 refine tl_nil ?_
 replace hf := hf.kp [6, 7]
 repeat refine seq ?_
 refine regn 1 hf (by decide +kernel) ?_
 refine st (ldW T80 rfl B7 (adC_size _ _)) ?_
 refine en fun a w e' hf => ?_
 replace HM := HM.ext e'
 replace e := e.tr e'
 replace B6 := B6.ext e'
 replace B7 := B7.ext e'
 clear e'
 refine tl_stW T80 hf rfl rfl (adC_one _ _) B6 hc6 (adC_size _ _) fun w hg hsz B6 hf => ?_
 replace e := e.gr hg (by omega)
 replace HM := HM.gr hg (fun h => by cases h; omega)
 clear hg
 refine tl_nil ?_
 refine wret ?_
 try simp only [Exit.then, Exit.inBlock]
 refine retc rfl T80 hf rfl B6 (adC_size _ _) ?_
 exact ⟨_, rfl, e, _, hwo, .map (some bm), rfl, MpR.dvE HM (by omega) fun h => h⟩
end Go.Mono

namespace Go.Mono
open Go Go.Proofs Go.RowKit

theorem Vals.hi {xs : List RB} (V : Vals xs) : ∀ i, i < xs.length → up xs i < xs.length := fun i hi => (V.range i hi).2

end Go.Mono

namespace Go.Mono
open Go Go.Proofs Go.RowKit

end Go.Mono

namespace Go.Mono

theorem fstN_cases (p : Nat → Bool) (n : Nat) : (fstN p n = -1 ∧ ∀ i, i < n → p i = false) ∨ ∃ k : Nat, k < n ∧ fstN p n = (k : Int) ∧ p k = true ∧ ∀ i, i < k → p i = false := by
 by_cases h : ∃ k, k < n ∧ p k = true
 ·obtain ⟨k, ⟨h1, h2⟩, h3⟩ := least h
  have h4 : ∀ i, i < k → p i = false := fun i hi => by
   cases hp : p i
   ·rfl
   ·exact absurd ⟨by omega, hp⟩ (h3 i hi)
  exact .inr ⟨k, h1, fstN_hit h1 h4 h2, h2, h4⟩
 ·have h4 : ∀ i, i < n → p i = false := fun i hi => by
   cases hp : p i
   ·rfl
   ·exact absurd ⟨i, hi, hp⟩ h
  exact .inl ⟨fstN_none h4, h4⟩
end Go.Mono

namespace Go.Mono
open Go Go.Proofs Go.RowKit Go.Gr

def gs (l : List BS) (i : Nat) : BS := (l[i]?).getD 0
theorem gs_get {l : List BS} {i : Nat} (h : i < l.length) : l[i]? = some (gs l i) := by simp [gs, h]
def fstS (p : BS → Bool) (l : List BS) : Int := fstN (fun i => p (gs l i)) l.length
theorem far_fst (L : List BS) (b : Nat) : fstS (fun S => has S (b : Int)) L = farF L b := by
 rw [fstS, farF]
 rcases fstN_cases (fun i => has (gs L i) (b : Int)) L.length with ⟨h1, h2⟩ | ⟨k, hk, h1, h2, h3⟩
 ·have : L.findIdx? (fun S => S.getLsbD b) = none := List.findIdx?_eq_none_iff.2 fun S hS => by
   obtain ⟨i, hi, he⟩ := List.getElem_of_mem hS
   have h4 := h2 i hi
   have h5 : gs L i = S := by have := gs_get hi; rw [List.getElem?_eq_getElem hi, he] at this; exact (Option.some.inj this).symm
   rw [h5] at h4
   cases hb : S.getLsbD b with
   | false => rfl
   | true => rw [(has_bit S b).2 hb] at h4; cases h4
  rw [h1, this]
 ·have : L.findIdx? (fun S => S.getLsbD b) = some k := by
   rw [List.findIdx?_eq_some_iff_getElem]
   have hg : ∀ i (hi : i < L.length), L[i] = gs L i := fun i hi => by have := gs_get hi; rw [List.getElem?_eq_getElem hi] at this; exact Option.some.inj this
   refine ⟨hk, ?_, fun j hj => ?_⟩
   ·rw [hg k hk]; exact (has_bit _ b).1 h2
   ·rw [hg j (by omega)]
    intro hh
    have := h3 j hj
    rw [(has_bit _ b).2 hh] at this; cases this
  rw [h1, this]
theorem indexFuncS_spec {G : Nat → Prop} (l : List BS) (v : Value) (id : FuncId) (caps : Array Value) (p : BS → Bool) (W : World) (hen : Proofs.Enters Tryz.prog id) (h : (Dv (slE setE) G l).p v W)
  (hp : ∀ w S, Ext W w → Calls Tryz.prog id (#[setV S] ++ caps) w (Post (E (B (p S))) w)) (hl : l.length ≤ 4096) :
  Calls Tryz.prog 97 #[v, .func (.func id) #[] caps] W (Post (E (I (fstS p l))) W) := by
 refine enter (args := [v, .func (.func id) #[] caps]) (As := [Dv (slE setE) G l, E (.func (.func id) #[] caps)]) Tryz.func97 rfl Tryz.ntmps97 (Nat.le_of_ble_eq_true rfl) ?_ (fun a hf => ?_) (Nat.le_of_ble_eq_true rfl)
 rotate_left
 dsimp only [params, Nat.reduceAdd] at hf
 rotate_right
 ·exact arg2 h rfl
 have e := Ext.rfl' W
 repeat refine seq ?_
 refine regn0 ?_
 refine tl_as hf rfl (by decide) fun a hf => ?_
 refine tl_nil ?_
 repeat refine seq ?_
 refine regn 3 hf (by decide +kernel) ?_
 refine st (mv rfl) ?_
 refine st (lenD Tryz.underlying78 (isR rfl)) ?_
 refine st (mv rfl) ?_
 refine en fun a w e' hf => ?_
 replace e := e.tr e'
 refine tl_nil ?_
 replace hf := hf.kp [0, 1, 7, 8]
 repeat refine seq ?_
 refine blk (loopN (fun r0 a w => ∃ (k : Nat) , r0 = l.length - k ∧ k ≤ l.length ∧ Fr 19 a w [(0, Dv (slE setE) G l), (1, E (.func (.func id) #[] caps)), (7, E (I (l.length : Nat))), (8, E (I k))] ∧ Ext W w ∧ ∀ i, i < k → p (gs l i) = false) l.length ⟨0, rfl, by omega, hf, e, (fun i hi => by omega)⟩ ?_)
 clear hf e; try clear Ho
 rintro r0 a w ⟨k, rfl, hk, hf, e, Ho⟩
 repeat refine seq ?_
 refine regn 1 hf (by decide +kernel) ?_
 refine st (lss rfl rfl) ?_
 refine en fun a w e' hf => ?_
 replace e := e.tr e'
 refine tl_nil ?_
 repeat refine seq ?_
 refine ifc hf rfl (fun hc => wskip ?_) (fun hc => wexit ?_)
 rotate_left
 rotate_left
 ·have hlt : k < l.length := by have := of_decide_eq_true hc; (try dsimp only at this); omega
  clear hc
  replace hf := hf.kp [0, 1, 7, 8]
  repeat refine seq ?_
  refine blk ?_
  repeat refine seq ?_
  refine regn 1 hf (by decide +kernel) ?_
  refine st (mv rfl) ?_
  refine en fun a w e' hf => ?_
  replace e := e.tr e'
  refine tl_as hf rfl (by decide) fun a hf => ?_
  refine tl_nil ?_
  repeat refine seq ?_
  refine regn 6 hf (by decide +kernel) ?_
  refine st (mv rfl) ?_
  refine st (mv rfl) ?_
  refine st (mv rfl) ?_
  refine st (idxD Tryz.underlying78 S39 (isR rfl) rfl (by omega) (gs_get hlt)) ?_
  refine st (ldS T39 (isR rfl)) ?_
  refine st (callV1 hen rfl rfl (fun v w he h => by cases h; exact hp w _ (Ext.tr e he))) ?_
  refine en fun a w e' hf => ?_
  replace e := e.tr e'
  refine tl_nil ?_
  repeat refine seq ?_
  refine ifc hf rfl (fun hb => ?_) (fun hb => ?_)
  ·repeat refine seq ?_
   refine regn 1 hf (by decide +kernel) ?_
   refine st (mv rfl) ?_
   refine en fun a w e' hf => ?_
   replace e := e.tr e'
   refine tl_as hf rfl (by decide) fun a hf => ?_
   refine tl_nil ?_
   refine wret ?_
   try simp only [Exit.then, Exit.inBlock]
   refine ret1 rfl hf rfl ?_
   rintro _ rfl
   exact ⟨_, rfl, e, congrArg I (fstN_hit hlt Ho hb).symm⟩
  ·refine wskip ?_
   try simp only [Exit.then, Exit.inBlock, ↓reduceIte]
   try simp only [Exit.then, Exit.inBlock, ↓reduceIte]
   repeat refine seq ?_
   refine regn 1 hf (by decide +kernel) ?_
   refine st ((add rfl rfl (by omega)).eq (congrArg (Value.int .i64) (show (k : Int) + 1 = ((k + 1 : Nat) : Int) from rfl))) ?_
   refine en fun a w e' hf => ?_
   replace e := e.tr e'
   clear e'
   refine tl_op hf (by decide) (mv rfl) fun a w e' hf => ?_
   replace e := e.tr e'
   refine tl_nil ?_
   replace hf := hf.kp [0, 1, 7, 8]
   refine ⟨_, ?_, k + 1, rfl, by omega, hf, e, ?_⟩
   ·omega
   intro i hi
   by_cases hk : i = k
   ·subst hk; exact hb
   ·exact Ho i (by omega)
 ·obtain rfl : k = l.length := by have := of_decide_eq_false hc; (try dsimp only at this); omega
  clear hc
  simp only [Exit.then, Exit.inBlock, ↓reduceIte]
  repeat refine seq ?_
  refine regn0 ?_
  refine tl_as hf rfl (by decide) fun a hf => ?_
  refine tl_nil ?_
  refine wret ?_
  try simp only [Exit.then, Exit.inBlock]
  refine ret1 rfl hf rfl ?_
  rintro _ rfl
  exact ⟨_, rfl, e, congrArg I (fstN_none Ho).symm⟩
theorem far1_spec (S : BS) (b : Int) (c : Nat) (W : World) (hc : Blk W c #[I b] 3) : Calls Tryz.prog 98 #[setV S, ptr c] W (Post (E (B (has S b))) W) := by
 refine enter (args := [setV S, ptr c]) (As := [E (setV S), E (ptr c)]) Tryz.func98 rfl Tryz.ntmps98 (Nat.le_of_ble_eq_true rfl) ?_ (fun a hf => ?_) (Nat.le_of_ble_eq_true rfl)
 rotate_left
 dsimp only [params, Nat.reduceAdd] at hf
 rotate_right
 ·exact arg2 rfl rfl
 have e := Ext.rfl' W
 repeat refine seq ?_
 refine regn0 ?_
 refine tl_box hf rfl (by decide) fun a b2 w v2 hv2 e' hb2 hs2 B2 hf => ?_
 have hle2 := Nat.le_trans e.size (Nat.le_of_eq hb2.symm)
 replace e := e.tr e'
 replace hc := hc.ext e'
 refine tl_as hf rfl (by decide) fun a hf => ?_
 refine tl_nil ?_
 cases hv2
 replace B2 : Blk w b2 (setC S) 39 := B2
 repeat refine seq ?_
 refine regn 3 hf (by decide +kernel) ?_
 refine st ((ldW T39 rfl B2 rfl).eq ((rfl : _ = setV S))) ?_
 refine st (ld1 (v := I b) T3 rfl hc rfl) ?_
 refine st (call2 (A := E (B (has S b))) (B := E (setV S)) (C := E (I b)) En33 rfl rfl (fun v u w he h h' => by cases h; cases h'; exact has_spec _ _ w)) ?_
 refine en fun a w e' hf => ?_
 replace e := e.tr e'
 replace hc := hc.ext e'
 replace B2 := B2.ext e'
 refine tl_as hf rfl (by decide) fun a hf => ?_
 refine tl_nil ?_
 refine wret ?_
 try simp only [Exit.then, Exit.inBlock]
 refine ret1 rfl hf rfl ?_
 rintro _ rfl
 exact ⟨_, rfl, e, rfl⟩
theorem far_spec {G : Nat → Prop} (L : List BS) (b : Nat) (v : Value) (W : World) (h : (Dv (slE setE) G L).p v W) (hl : L.length ≤ 4096) : Calls Tryz.prog 58 #[v, I (b : Nat)] W (Post (E (I (farF L b))) W) := by
 have hv : (Dv (slE setE) Go.Mono.G0 L).p v W := Dv.weak h fun b _ hb => hb.elim
 refine enter (args := [v, I (b : Nat)]) (As := [E v, E (I (b : Nat))]) Tryz.func58 rfl Tryz.ntmps58 (Nat.le_of_ble_eq_true rfl) ?_ (fun a hf => ?_) (Nat.le_of_ble_eq_true rfl)
 rotate_left
 dsimp only [params, Nat.reduceAdd] at hf
 rotate_right
 ·exact arg2 rfl rfl
 have e := Ext.rfl' W
 repeat refine seq ?_
 refine regn0 ?_
 refine tl_box hf rfl (by decide) fun a b3 w v3 hv3 e' hb3 hs3 B3 hf => ?_
 have hle3 := Nat.le_trans e.size (Nat.le_of_eq hb3.symm)
 replace e := e.tr e'
 refine tl_as hf rfl (by decide) fun a hf => ?_
 refine tl_nil ?_
 cases hv3
 replace B3 : Blk w b3 #[I (b : Nat)] 3 := B3
 replace hf := hf.kp [0, 3]
 have e1 := e
 repeat refine seq ?_
 refine regn 3 hf (by decide +kernel) ?_
 refine st (mv rfl) ?_
 refine st (makeF1 rfl) ?_
 refine st (call2 (A := E (I (farF L b))) (B := E v) (C := E (.func (.func 98) #[] #[ptr b3])) En97 rfl rfl (fun u u' w he k1 k2 => by cases k1; cases k2; rw [← far_fst]; exact indexFuncS_spec L v _ _ (fun S => has S (b : Int)) w En98 (VA.st _ _ _ _ (Ext.tr e1 he) hv) (fun w' S he' => far1_spec S (b : Int) b3 w' (B3.ext (Ext.tr he he'))) hl)) ?_
 refine en fun a w e' hf => ?_
 replace e := e.tr e'
 replace B3 := B3.ext e'
 refine tl_as hf rfl (by decide) fun a hf => ?_
 refine tl_nil ?_
 refine wret ?_
 try simp only [Exit.then, Exit.inBlock]
 refine ret1 rfl hf rfl ?_
 rintro _ rfl
 exact ⟨_, rfl, e, rfl⟩
def edV (x : Int × Int) : Value := .agg #[.int .i64 x.1, .int .i64 x.2]
theorem Dv.pr2 {G : Nat → Prop} {w : World} {x : Int × Int} {v : Value} : (Dv edE G x).p v w ↔ v = edV x := by
 constructor
 ·rintro ⟨cs, ⟨c, d, h, h1, h2⟩, hv⟩
  cases h1; cases h2; subst h
  exact hv
 ·rintro rfl
  exact ⟨_, ⟨_, _, rfl, rfl, rfl⟩, rfl⟩
theorem isE2 {L : Env} {w0 : World} {x : Operand} {G : Nat → Prop} {n : Int × Int} (h : opd L x = some (E (edV n))) : Is L w0 x (Dv edE G n) := isE h (Dv.pr2.2 rfl)
theorem ldE2 {P : Program} {w0 : World} {L : Env} {dst : Option Tmp} {ty : TypeId} {pos : String} {aft : Array Edge} {g : Option (Nat × Bool)} {t : TypeId} {x : Operand} {G : Nat → Prop} {n : Int × Int} (ht : TI P t true 2) (hx : Is L w0 x (Dv (ptE edE) G (some n))) : OpC P w0 L ⟨dst, .load t x, ty, pos, aft, g⟩ (E (edV n)) := (ldD (e := edE) ht hx).conv fun v w => Dv.pr2.1
theorem bPr (x : Int × Int) : Tryz.prog.built 116 [(0, .int .i64 x.1), (1, .int .i64 x.2)] = some #[.int .i64 x.1, .int .i64 x.2] := by kernel_rfl
theorem ends_spec {G : Nat → Prop} {N : Nat} (g : GT) (v : Value) (W : World) (h : (Dv (ptE (grE N)) G (some g)).p v W) (hs : g.2.Pairwise fun x y => lt2 x.1 y.1 = true) (hl : g.2.length ≤ 100000) (hN : N ≤ 1000000) :
  Calls Tryz.prog 35 #[v] W (Post (OwA edE 116 W.heap.size Go.Mono.G0 (g.2.map (·.1))) W) := by
 have hgd : (Dv (ptE (grE N)) Go.Mono.G0 (some g)).p v W := Dv.weak h fun b _ hb => hb.elim
 clear h
 refine enter (args := [v]) (As := [E v]) Tryz.func35 rfl Tryz.ntmps35 (Nat.le_of_ble_eq_true rfl) ?_ (fun a hf => ?_) (Nat.le_of_ble_eq_true rfl)
 rotate_left
 dsimp only [params, Nat.reduceAdd] at hf
 rotate_right
 ·exact arg1 rfl
 have e := Ext.rfl' W
 repeat refine seq ?_
 refine regn0 ?_
 refine tl_as hf rfl (by decide) fun a hf => ?_
 refine tl_nil ?_
 repeat refine seq ?_
 refine regn0 ?_
 refine tl_as hf rfl (by decide) fun a hf => ?_
 refine tl_nil ?_
 have e0 := e
 obtain ⟨N1, hN1⟩ : ∃ N1, N1 = W.heap.size := ⟨_, rfl⟩
 have hN1s : N1 ≤ W.heap.size := Nat.le_of_eq hN1
 have hWN : W.heap.size ≤ N1 := Nat.le_of_eq hN1.symm
 clear hN1
 repeat refine seq ?_
 refine regn 4 hf (by decide +kernel) ?_
 refine st (mv rfl) ?_
 refine st (call1 (A := OwA etE 56 N1 Go.Mono.G0 g.2) En60 rfl (fun v w he k => by cases k; exact (edges_spec (G := Go.Mono.G0) g _ w (VA.st _ _ _ _ (Ext.tr e0 he) hgd) (fun b hb => hb.elim) hs hl hN).mono fun en w' ⟨u, k1, k2, k3⟩ => ⟨u, k1, k2, OwR.low k3 (Nat.le_trans hN1s he.size) fun b hb => hb.elim⟩)) ?_
 refine st (lenD Tryz.underlying53 ⟨_, rfl, fun v w _ h => OwR.sl h⟩) ?_
 refine st (mv rfl) ?_
 refine en fun a w e' hf => ?_
 replace e := e.tr e'
 refine tl_nil ?_
 obtain ⟨ev, HoE, hf⟩ := hf.opn 7 rfl
 replace HoE : OwR etE 56 N1 Go.Mono.G0 w g.2 ev := HoE
 clear e0 hN1s
 obtain ⟨N2, hN2⟩ : ∃ N2, N2 = w.heap.size := ⟨_, rfl⟩
 have lp : ∀ b, ev.ownBlock = some b → b < N2 := fun b hb => by rw [hN2]; exact (HoE.lt hb).2
 have Ho : OwR edE 116 N2 Go.Mono.G0 w [] (.slice none 0 0) := OwR.nil edE _ (Nat.le_of_eq hN2) fun b hb => hb.elim
 have hWN2 : W.heap.size ≤ N2 := by rw [hN2]; exact e.size
 clear hN2
 replace hf := hf.kp [3, 7, 8, 9]
 replace hf := hf.kp [3, 7, 8, 9]
 repeat refine seq ?_
 refine blk (loopN (fun r0 a w => ∃ (j : Nat) (u : Value), r0 = g.2.length - j ∧ j ≤ g.2.length ∧ Fr 23 a w [(3, E u), (7, E ev), (8, E (I (g.2.length : Nat))), (9, E (I j))] ∧ Ext W w ∧ OwR etE 56 N1 Go.Mono.G0 w g.2 ev ∧ OwR edE 116 N2 Go.Mono.G0 w ((g.2.take j).map (·.1)) u) g.2.length ⟨0, .slice none 0 0, rfl, by omega, hf, e, ⟨HoE, Ho⟩⟩ ?_)
 clear hf e; try clear HoE; try clear Ho
 rintro r0 a w ⟨j, u, rfl, hj, hf, e, HoE, Ho⟩
 repeat refine seq ?_
 refine regn 1 hf (by decide +kernel) ?_
 refine st (lss rfl rfl) ?_
 refine en fun a w e' hf => ?_
 replace HoE := HoE.ext e'
 replace Ho := Ho.ext e'
 replace e := e.tr e'
 refine tl_nil ?_
 repeat refine seq ?_
 refine ifc hf rfl (fun hc => wskip ?_) (fun hc => wexit ?_)
 rotate_left
 rotate_left
 ·have hltj : j < g.2.length := by have := of_decide_eq_true hc; (try dsimp only at this); omega
  clear hc
  replace hf := hf.kp [3, 7, 8, 9]
  repeat refine seq ?_
  refine blk ?_
  have hy := List.getElem?_eq_getElem hltj
  generalize g.2[j] = x at hy
  have hsc : (g.2.take (j + 1)).map (·.1) = (g.2.take j).map (·.1) ++ [x.1] := by rw [take_succ_get hy, List.map_append]; rfl
  have hlo : ((g.2.take j).map (·.1)).length ≤ 100000 := by rw [List.length_map]; exact Nat.le_trans (List.length_take_le' _ _) hl
  generalize (g.2.take j).map (·.1) = out at hsc hlo Ho
  repeat refine seq ?_
  refine regn0 ?_
  refine tl_op hf (by decide) (idxD Tryz.underlying53 S56 (isE rfl (HoE.slN (N := Go.Mono.G0) fun b hb hh => hh)) rfl (by omega) (hy)) fun a w e' hf => ?_
  replace e := e.tr e'
  replace HoE := HoE.ext e'
  replace Ho := Ho.ext e'
  clear e'
  refine tl_op hf (by decide) (ldEt T56 (isR rfl)) fun a w e' hf => ?_
  replace e := e.tr e'
  replace HoE := HoE.ext e'
  replace Ho := Ho.ext e'
  clear e'
  refine tl_alloc I56 hf (by decide) fun a b5 w e' hb5 hs5 B5 hf => ?_
  have hle5 := Nat.le_trans e.size (Nat.le_of_eq hb5.symm)
  have ne5_HoE := HoE.ne_new hb5
  have ne5_Ho := Ho.ne_new hb5
  replace e := e.tr e'
  replace HoE := HoE.ext e'
  replace Ho := Ho.ext e'
  clear e'
  have hr5 := ne5_HoE
  have hu5 := ne5_Ho
  have hW5 : W.heap.size ≤ b5 := hle5
  replace hf := hf.kp [3, 5, 7, 8, 9, 12]
  refine tl_stW T56 hf rfl rfl (etV_one x) B5 rfl rfl fun w hg hsz B5 hf => ?_
  replace e := e.gr hg (by omega); replace HoE := HoE.grE hg hr5; replace Ho := Ho.grE hg hu5; clear hg
  refine tl_nil ?_
  replace hf := hf.kp [3, 5, 7, 8, 9]
  repeat refine seq ?_
  refine regn 7 hf (by decide +kernel) ?_
  refine st (mv rfl) ?_
  refine st (fldA Tryz.underlying56 rfl T3 (by decide) rfl) ?_
  refine st (ld1 T3 rfl B5 rfl) ?_
  refine st (fldA Tryz.underlying56 rfl T3 (by decide) rfl) ?_
  refine st (ld1 T3 rfl B5 rfl) ?_
  refine st (bldV [(0, _), (1, _)] rfl (bPr x.1)) ?_
  refine st (bsl1 Tryz.underlying94 I116 rfl (by decide) rfl Ho.avs (isE2 rfl)) ?_
  refine en fun a w e' hf => ?_
  replace HoE := HoE.ext e'
  replace B5 := B5.ext e'
  replace Ho := Ho.ext e'
  replace e := e.tr e'
  clear e'
  haveI hin : ∀ G0, InR (GB W G0) _ := OwR.inGB (W := W) Ho (by omega)
  refine tl_app Tryz.underlying94 I116 rfl rfl hf (by decide) rfl Ho (isR rfl) (by simp only [List.length_singleton]; omega) (by simp only [List.length_singleton, maxLen]; omega) fun a v w hg hat Hn hf => ?_
  replace e := e.gro hg (Ho.row (W := W) (by omega))
  have hrow := Ho.row (W := W) (by omega)
  replace HoE := HoE.groE hg (fun b hb hh => by have h1 := hrow b hh; have h2 := lp b hb; have h3 := (Ho.lt hh).1; omega)
  replace B5 := B5.gro hg hu5
  replace Ho := Hn
  clear hrow
  replace Ho := Hn; clear Hn hg hat hin
  refine tl_as hf rfl (by decide) fun a hf => ?_
  refine tl_nil ?_
  rw [← hsc] at Ho
  replace hf := hf.kp [3, 7, 8, 9]
  try simp only [Exit.then, Exit.inBlock, ↓reduceIte]
  repeat refine seq ?_
  refine regn 1 hf (by decide +kernel) ?_
  refine st ((add rfl rfl (by omega)).eq (congrArg (Value.int .i64) (show (j : Int) + 1 = ((j + 1 : Nat) : Int) from rfl))) ?_
  refine en fun a w e' hf => ?_
  replace HoE := HoE.ext e'
  replace Ho := Ho.ext e'
  replace e := e.tr e'
  clear e'
  refine tl_op hf (by decide) (mv rfl) fun a w e' hf => ?_
  replace HoE := HoE.ext e'
  replace Ho := Ho.ext e'
  replace e := e.tr e'
  refine tl_nil ?_
  replace hf := hf.kp [3, 7, 8, 9]
  refine ⟨_, ?_, j + 1, _, rfl, by omega, hf, e, ?_⟩
  ·omega
  exact ⟨HoE, Ho⟩
 ·obtain rfl : j = g.2.length := by have := of_decide_eq_false hc; (try dsimp only at this); omega
  clear hc
  simp only [Exit.then, Exit.inBlock, ↓reduceIte]
  rw [List.take_length] at Ho
  replace hf := hf.kp [3]
  repeat refine seq ?_
  refine regn 1 hf (by decide +kernel) ?_
  refine st (mv rfl) ?_
  refine en fun a w e' hf => ?_
  replace Ho := Ho.ext e'
  replace e := e.tr e'
  refine tl_as hf rfl (by decide) fun a hf => ?_
  refine tl_nil ?_
  refine wret ?_
  try simp only [Exit.then, Exit.inBlock]
  refine ret1 rfl hf rfl ?_
  rintro _ rfl
  exact ⟨_, rfl, e, Ho.low hWN2 fun b hb => hb.elim⟩
end Go.Mono

namespace Go.Mono
open Go Go.Proofs Go.RowKit Go.Gr
def toI (e : Nat × Nat) : Int × Int := ((e.1 : Int), (e.2 : Int))
theorem farF_hi (L : List BS) (b : Nat) : farF L b ≤ L.length := by
 rw [← far_fst, fstS]
 rcases fstN_cases (fun i => has (gs L i) (b : Int)) L.length with ⟨h1, _⟩ | ⟨k, hk, h1, _⟩ <;> omega
def gst (nb : Int → BS) (best : Int) (e : Nat × Nat) : Int := if farF (lvB (wo nb e.1 e.2) e.1) e.2 ≠ -1 ∧ (best = 0 ∨ farF (lvB (wo nb e.1 e.2) e.1) e.2 + 1 < best) then farF (lvB (wo nb e.1 e.2) e.1) e.2 + 1 else best
theorem girF_app (nb : Int → BS) (es : List (Nat × Nat)) (e : Nat × Nat) : girF nb (es ++ [e]) = gst nb (girF nb es) e := by
 rw [girF, List.foldl_append, List.foldl_cons, List.foldl_nil, girF, gst]
theorem girth_spec {G G2 : Nat → Prop} {N0 : Nat} (l : List (Int × BS)) (S0 : BS) (es : List (Nat × Nat)) (mq ev : Value) (W : World) (hT : Tab W) (h : (Dv (mpE sKV N0) G l).p mq W) (hN : N0 ≤ 100000) (hel : es.length ≤ 100000) (h' : (Dv (slE edE) G2 (es.map toI)).p ev W)
  (hes : ∀ e ∈ es, e.1 < 1024 ∧ e.2 < 1024 ∧ e.1 ≠ e.2 ∧ ((e.1 : Int), lkS l (e.1 : Int)) ∈ l) :
  Calls Tryz.prog 34 #[.agg (adC S0 mq), ev] W (Post (E (I (girF (lkS l) es))) W) := by
 have HV : (Dv (mpE sKV N0) Go.Mono.G0 l).p mq W := Dv.weak h fun b _ hb => hb.elim
 have HE : (Dv (slE edE) Go.Mono.G0 (es.map toI)).p ev W := Dv.weak h' fun b _ hb => hb.elim
 clear h h'
 have hT0 := hT.lt
 obtain ⟨nb, hnb⟩ : ∃ nb, nb = lkS l := ⟨_, rfl⟩
 rw [← hnb]
 refine enter (args := [.agg (adC S0 mq), ev]) (As := [E (.agg (adC S0 mq)), E ev]) Tryz.func34 rfl Tryz.ntmps34 (Nat.le_of_ble_eq_true rfl) ?_ (fun a hf => ?_) (Nat.le_of_ble_eq_true rfl)
 rotate_left
 dsimp only [params, Nat.reduceAdd] at hf
 rotate_right
 ·exact arg2 rfl rfl
 have e := Ext.rfl' W
 repeat refine seq ?_
 refine regn0 ?_
 refine tl_box hf rfl (by decide) fun a b2 w v2 hv2 e' hb2 hs2 B2 hf => ?_
 have hle2 := Nat.le_trans e.size (Nat.le_of_eq hb2.symm)
 replace hT := hT.ext e'
 replace e := e.tr e'
 refine tl_as hf rfl (by decide) fun a hf => ?_
 refine tl_nil ?_
 cases hv2
 replace B2 : Blk w b2 (adC S0 mq) 80 := B2
 have n2 : W.heap.size ≤ b2 := by omega
 repeat refine seq ?_
 refine regn0 ?_
 refine tl_as hf rfl (by decide) fun a hf => ?_
 refine tl_nil ?_
 replace hf := hf.kp [1, 2, 5]
 obtain ⟨Ls, hLs⟩ : ∃ Ls, Ls = es.map toI := ⟨_, rfl⟩
 have hLl : Ls.length = es.length := by rw [hLs, List.length_map]
 rw [← hLs] at HE
 repeat refine seq ?_
 refine regn 3 hf (by decide +kernel) ?_
 refine st (mv rfl) ?_
 refine st (lenD Tryz.underlying94 (isE rfl (VA.st _ _ _ _ e HE))) ?_
 refine st (mv rfl) ?_
 refine en fun a w e' hf => ?_
 replace hT := hT.ext e'
 replace e := e.tr e'
 replace B2 := B2.ext e'
 refine tl_nil ?_
 replace hf := hf.kp [2, 5, 9, 10, 11]
 repeat refine seq ?_
 refine blk (loopN (fun r0 a w => ∃ (j : Nat) , r0 = Ls.length - j ∧ j ≤ Ls.length ∧ Fr 43 a w [(2, E (ptr b2)), (5, E (I (girF nb (es.take j)))), (9, E ev), (10, E (I (Ls.length : Nat))), (11, E (I j))] ∧ Ext W w ∧ Tab w ∧ Blk w b2 (adC S0 mq) 80) Ls.length ⟨0, rfl, by omega, hf, e, ⟨hT, B2⟩⟩ ?_)
 clear hf e; try clear hT; try clear B2
 rintro r0 a w ⟨j, rfl, hj, hf, e, hT, B2⟩
 repeat refine seq ?_
 refine regn 1 hf (by decide +kernel) ?_
 refine st (lss rfl rfl) ?_
 refine en fun a w e' hf => ?_
 replace hT := hT.ext e'
 replace e := e.tr e'
 replace B2 := B2.ext e'
 refine tl_nil ?_
 repeat refine seq ?_
 refine ifc hf rfl (fun hc => wskip ?_) (fun hc => wexit ?_)
 rotate_left
 rotate_left
 ·have hltj : j < Ls.length := by have := of_decide_eq_true hc; (try dsimp only at this); omega
  clear hc
  replace hf := hf.kp [2, 5, 9, 10, 11]
  repeat refine seq ?_
  refine blk ?_
  have hjp : j < es.length := by omega
  have hy := List.getElem?_eq_getElem hjp
  generalize es[j] = x at hy
  have hy' : Ls[j]? = some (toI x) := by rw [hLs, List.getElem?_map, hy]; rfl
  have hsc : girF nb (es.take (j + 1)) = gst nb (girF nb (es.take j)) x := by rw [take_succ_get hy, girF_app]
  generalize girF nb (es.take j) = best at hsc hf
  obtain ⟨x1, x2, x3, x4⟩ := hes x (List.mem_of_getElem? hy)
  obtain ⟨u, v⟩ := x
  replace x1 : u < 1024 := x1
  replace x2 : v < 1024 := x2
  replace x3 : u ≠ v := x3
  replace x4 : ((u : Int), lkS l (u : Int)) ∈ l := x4
  replace hy' : Ls[j]? = some ((u : Int), (v : Int)) := hy'
  rw [gst] at hsc
  dsimp only at hsc
  obtain ⟨d, hd⟩ : ∃ d, d = farF (lvB (wo nb u v) u) v := ⟨_, rfl⟩
  rw [← hd] at hsc
  have hd1 : -1 ≤ d := by rw [hd]; exact farF_lo _ _
  have hd2 : d ≤ 1025 := by rw [hd]; have h1 := farF_hi (lvB (wo nb u v) u) v; have h2 := lvB_len (wo nb u v) u; omega
  repeat refine seq ?_
  refine regn0 ?_
  refine tl_op hf (by decide) (idxD Tryz.underlying94 S116 (isE rfl (VA.st _ _ _ _ e HE)) rfl (by omega) (hy')) fun a w e' hf => ?_
  replace hT := hT.ext e'
  replace e := e.tr e'
  replace B2 := B2.ext e'
  clear e'
  refine tl_op hf (by decide) (ldE2 T116 (isR rfl)) fun a w e' hf => ?_
  replace hT := hT.ext e'
  replace e := e.tr e'
  replace B2 := B2.ext e'
  clear e'
  refine tl_alloc I116 hf (by decide) fun a b7 w e' hb7 hs7 B7 hf => ?_
  have hle7 := Nat.le_trans e.size (Nat.le_of_eq hb7.symm)
  have lt7_B2 := B2.lt
  replace hT := hT.ext e'
  replace e := e.tr e'
  replace B2 := B2.ext e'
  clear e'
  have n7 : b2 ≠ b7 ∧ W.heap.size ≤ b7 := by have := B2.lt; omega
  replace hf := hf.kp [2, 5, 7, 9, 10, 11, 14]
  refine tl_stW T116 hf rfl rfl (one2 rfl rfl) B7 rfl rfl fun w hg hsz B7 hf => ?_
  replace e := e.gr hg (by omega); replace hT := hT.gr hg (by omega); replace B2 := B2.gr hg (by omega); clear hg
  refine tl_nil ?_
  replace B7 : Blk w b7 #[I (u : Nat), I (v : Nat)] 116 := B7
  replace hf := hf.kp [2, 5, 7, 9, 10, 11]
  have e5 := e
  repeat refine seq ?_
  refine reg 12 Mix.mix hf (by decide +kernel) ?_
  refine st (ldW T80 rfl B2 (adC_size _ _)) ?_
  refine st (idxA Tryz.underlying116 ⟨_, T3⟩ rfl rfl (by omega)) ?_
  refine st (ld1 T3 rfl B7 rfl) ?_
  refine st (idxA Tryz.underlying116 ⟨_, T3⟩ rfl rfl (by omega)) ?_
  refine st (ld1 T3 rfl B7 rfl) ?_
  refine st (call3 (A := WoA (wo nb u v) S0 (N0 + 2)) (B := E (.agg (adC S0 mq))) (C := E (I (u : Nat))) (D := E (I (v : Nat))) En59 rfl rfl rfl (fun a b c w he k1 k2 k3 => by cases k1; cases k2; cases k3; rw [hnb]; exact without07_spec l S0 u v mq w (hT.ext he) (VA.st _ _ _ _ (Ext.tr e5 he) HV) hN x1 x2 x3 x4)) ?_
  refine st (idxA Tryz.underlying116 ⟨_, T3⟩ rfl rfl (by omega)) ?_
  refine st (ld1 T3 rfl B7 rfl) ?_
  refine st (call2 (A := Dv (slE setE) Go.Mono.G0 (lvB (wo nb u v) u)) (B := WoA (wo nb u v) S0 (N0 + 2)) (C := E (I (u : Nat))) En56 rfl rfl (fun a b w he ⟨l2, k1, mq2, k2, k3⟩ k4 => by subst k2; cases k4; rw [← k1]; exact (levels_spec l2 S0 mq2 u w (hT.ext he) k3 x1).mono fun en w' ⟨z, q1, q2, q3⟩ => ⟨z, q1, q2, OwR.sl q3⟩)) ?_
  refine st (idxA Tryz.underlying116 ⟨_, T3⟩ rfl rfl (by omega)) ?_
  refine st (ld1 T3 rfl B7 rfl) ?_
  refine st (call2 (A := E (I d)) (B := Dv (slE setE) Go.Mono.G0 (lvB (wo nb u v) u)) (C := E (I (v : Nat))) En58 rfl rfl (fun a b w he k1 k2 => by cases k2; rw [hd]; exact far_spec _ v a w k1 (Nat.le_trans (lvB_len _ _) (by decide)))) ?_
  refine en fun a w e' hf => ?_
  replace hT := hT.ext e'
  replace e := e.tr e'
  replace B2 := B2.ext e'
  replace B7 := B7.ext e'
  refine tl_as hf rfl (by decide) fun a hf => ?_
  refine tl_nil ?_
  clear hd
  replace hf := hf.kp [2, 5, 8, 9, 10, 11]
  by_cases c1 : d = -1
  ·rw [if_neg (fun h => h.1 c1)] at hsc
   repeat refine seq ?_
   refine regn 12 hf (by decide +kernel) ?_
   refine st (mv rfl) ?_
   refine st ((neq rfl rfl).eq (congrArg Value.bool (show (d != -1) = false by simp [c1]))) ?_
   refine st (mv rfl) ?_
   refine sn rfl rfl rfl ?_
   refine sn rfl rfl rfl ?_
   refine sn rfl rfl rfl ?_
   refine su rfl rfl ?_
   refine su rfl rfl ?_
   refine su rfl rfl ?_
   refine su rfl rfl ?_
   refine sn rfl rfl rfl ?_
   refine st (pkF rfl rfl) ?_
   refine en fun a w e' hf => ?_
   replace hT := hT.ext e'
   replace e := e.tr e'
   replace B2 := B2.ext e'
   refine tl_nil ?_
   repeat refine seq ?_
   refine ifc hf rfl (fun h => by cases h) (fun _ => ?_)
   refine wskip ?_
   try simp only [Exit.then, Exit.inBlock, ↓reduceIte]
   rw [← hsc] at hf
   try simp only [Exit.then, Exit.inBlock, ↓reduceIte]
   repeat refine seq ?_
   refine regn 1 hf (by decide +kernel) ?_
   refine st ((add rfl rfl (by omega)).eq (congrArg (Value.int .i64) (show (j : Int) + 1 = ((j + 1 : Nat) : Int) from rfl))) ?_
   refine en fun a w e' hf => ?_
   replace hT := hT.ext e'
   replace e := e.tr e'
   replace B2 := B2.ext e'
   clear e'
   refine tl_op hf (by decide) (mv rfl) fun a w e' hf => ?_
   replace hT := hT.ext e'
   replace e := e.tr e'
   replace B2 := B2.ext e'
   refine tl_nil ?_
   replace hf := hf.kp [2, 5, 9, 10, 11]
   refine ⟨_, ?_, j + 1, rfl, by omega, hf, e, ?_⟩
   ·omega
   exact ⟨hT, B2⟩
  ·have c1' : (d != -1) = true := by simp [c1]
   by_cases c2 : best = 0
   ·rw [if_pos ⟨c1, .inl c2⟩] at hsc
    repeat refine seq ?_
    refine regn 12 hf (by decide +kernel) ?_
    refine st (mv rfl) ?_
    refine st ((neq rfl rfl).eq (congrArg Value.bool (c1'))) ?_
    refine st (mv rfl) ?_
    refine sy rfl rfl (mv rfl) ?_
    refine sy rfl rfl ((eql rfl rfl).eq (congrArg Value.bool (show (best == 0) = true by simp [c2]))) ?_
    refine sy rfl rfl (mv rfl) ?_
    refine sn rfl rfl rfl ?_
    refine sn rfl rfl rfl ?_
    refine sn rfl rfl rfl ?_
    refine sn rfl rfl rfl ?_
    refine sy rfl rfl (pkT rfl rfl) ?_
    refine st (pkT rfl rfl) ?_
    refine en fun a w e' hf => ?_
    replace hT := hT.ext e'
    replace e := e.tr e'
    replace B2 := B2.ext e'
    refine tl_nil ?_
    repeat refine seq ?_
    refine ifc hf rfl (fun _ => ?_) (fun h => by cases h)
    repeat refine seq ?_
    refine regn 2 hf (by decide +kernel) ?_
    refine st (mv rfl) ?_
    refine st (add rfl rfl (by omega)) ?_
    refine en fun a w e' hf => ?_
    replace hT := hT.ext e'
    replace e := e.tr e'
    replace B2 := B2.ext e'
    refine tl_as hf rfl (by decide) fun a hf => ?_
    refine tl_nil ?_
    rw [← hsc] at hf
    try simp only [Exit.then, Exit.inBlock, ↓reduceIte]
    repeat refine seq ?_
    refine regn 1 hf (by decide +kernel) ?_
    refine st ((add rfl rfl (by omega)).eq (congrArg (Value.int .i64) (show (j : Int) + 1 = ((j + 1 : Nat) : Int) from rfl))) ?_
    refine en fun a w e' hf => ?_
    replace hT := hT.ext e'
    replace e := e.tr e'
    replace B2 := B2.ext e'
    clear e'
    refine tl_op hf (by decide) (mv rfl) fun a w e' hf => ?_
    replace hT := hT.ext e'
    replace e := e.tr e'
    replace B2 := B2.ext e'
    refine tl_nil ?_
    replace hf := hf.kp [2, 5, 9, 10, 11]
    refine ⟨_, ?_, j + 1, rfl, by omega, hf, e, ?_⟩
    ·omega
    exact ⟨hT, B2⟩
   ·have c2' : (best == 0) = false := by simp [c2]
    by_cases c3 : d + 1 < best
    ·rw [if_pos ⟨c1, .inr c3⟩] at hsc
     repeat refine seq ?_
     refine regn 12 hf (by decide +kernel) ?_
     refine st (mv rfl) ?_
     refine st ((neq rfl rfl).eq (congrArg Value.bool (c1'))) ?_
     refine st (mv rfl) ?_
     refine sy rfl rfl (mv rfl) ?_
     refine sy rfl rfl ((eql rfl rfl).eq (congrArg Value.bool (c2'))) ?_
     refine sy rfl rfl (mv rfl) ?_
     refine sy rfl rfl (mv rfl) ?_
     refine sy rfl rfl (add rfl rfl (by omega)) ?_
     refine sy rfl rfl (mv rfl) ?_
     refine sy rfl rfl ((lss rfl rfl).eq (congrArg Value.bool (decide_eq_true c3))) ?_
     refine sy rfl rfl (pkF rfl rfl) ?_
     refine st (pkT rfl rfl) ?_
     refine en fun a w e' hf => ?_
     replace hT := hT.ext e'
     replace e := e.tr e'
     replace B2 := B2.ext e'
     refine tl_nil ?_
     repeat refine seq ?_
     refine ifc hf rfl (fun _ => ?_) (fun h => by cases h)
     repeat refine seq ?_
     refine regn 2 hf (by decide +kernel) ?_
     refine st (mv rfl) ?_
     refine st (add rfl rfl (by omega)) ?_
     refine en fun a w e' hf => ?_
     replace hT := hT.ext e'
     replace e := e.tr e'
     replace B2 := B2.ext e'
     refine tl_as hf rfl (by decide) fun a hf => ?_
     refine tl_nil ?_
     rw [← hsc] at hf
     try simp only [Exit.then, Exit.inBlock, ↓reduceIte]
     repeat refine seq ?_
     refine regn 1 hf (by decide +kernel) ?_
     refine st ((add rfl rfl (by omega)).eq (congrArg (Value.int .i64) (show (j : Int) + 1 = ((j + 1 : Nat) : Int) from rfl))) ?_
     refine en fun a w e' hf => ?_
     replace hT := hT.ext e'
     replace e := e.tr e'
     replace B2 := B2.ext e'
     clear e'
     refine tl_op hf (by decide) (mv rfl) fun a w e' hf => ?_
     replace hT := hT.ext e'
     replace e := e.tr e'
     replace B2 := B2.ext e'
     refine tl_nil ?_
     replace hf := hf.kp [2, 5, 9, 10, 11]
     refine ⟨_, ?_, j + 1, rfl, by omega, hf, e, ?_⟩
     ·omega
     exact ⟨hT, B2⟩
    ·rw [if_neg (fun h => h.2.elim c2 c3)] at hsc
     repeat refine seq ?_
     refine regn 12 hf (by decide +kernel) ?_
     refine st (mv rfl) ?_
     refine st ((neq rfl rfl).eq (congrArg Value.bool (c1'))) ?_
     refine st (mv rfl) ?_
     refine sy rfl rfl (mv rfl) ?_
     refine sy rfl rfl ((eql rfl rfl).eq (congrArg Value.bool (c2'))) ?_
     refine sy rfl rfl (mv rfl) ?_
     refine sy rfl rfl (mv rfl) ?_
     refine sy rfl rfl (add rfl rfl (by omega)) ?_
     refine sy rfl rfl (mv rfl) ?_
     refine sy rfl rfl ((lss rfl rfl).eq (congrArg Value.bool (decide_eq_false c3))) ?_
     refine sy rfl rfl (pkF rfl rfl) ?_
     refine st (pkT rfl rfl) ?_
     refine en fun a w e' hf => ?_
     replace hT := hT.ext e'
     replace e := e.tr e'
     replace B2 := B2.ext e'
     refine tl_nil ?_
     repeat refine seq ?_
     refine ifc hf rfl (fun h => by cases h) (fun _ => ?_)
     refine wskip ?_
     try simp only [Exit.then, Exit.inBlock, ↓reduceIte]
     rw [← hsc] at hf
     try simp only [Exit.then, Exit.inBlock, ↓reduceIte]
     repeat refine seq ?_
     refine regn 1 hf (by decide +kernel) ?_
     refine st ((add rfl rfl (by omega)).eq (congrArg (Value.int .i64) (show (j : Int) + 1 = ((j + 1 : Nat) : Int) from rfl))) ?_
     refine en fun a w e' hf => ?_
     replace hT := hT.ext e'
     replace e := e.tr e'
     replace B2 := B2.ext e'
     clear e'
     refine tl_op hf (by decide) (mv rfl) fun a w e' hf => ?_
     replace hT := hT.ext e'
     replace e := e.tr e'
     replace B2 := B2.ext e'
     refine tl_nil ?_
     replace hf := hf.kp [2, 5, 9, 10, 11]
     refine ⟨_, ?_, j + 1, rfl, by omega, hf, e, ?_⟩
     ·omega
     exact ⟨hT, B2⟩
 ·obtain rfl : j = Ls.length := by have := of_decide_eq_false hc; (try dsimp only at this); omega
  clear hc
  simp only [Exit.then, Exit.inBlock, ↓reduceIte]
  rw [hLl, List.take_length] at hf
  replace hf := hf.kp [5]
  repeat refine seq ?_
  refine regn 1 hf (by decide +kernel) ?_
  refine st (mv rfl) ?_
  refine en fun a w e' hf => ?_
  replace hT := hT.ext e'
  replace e := e.tr e'
  replace B2 := B2.ext e'
  refine tl_as hf rfl (by decide) fun a hf => ?_
  refine tl_nil ?_
  refine wret ?_
  try simp only [Exit.then, Exit.inBlock]
  refine ret1 rfl hf rfl ?_
  rintro _ rfl
  exact ⟨_, rfl, e, rfl⟩
end Go.Mono

namespace Go.Mono
open Go Go.Proofs Go.RowKit Go.Gr
theorem neqNil {P : Program} {w0 : World} {L : Env} {dst : Option Tmp} {ty : TypeId} {pos : String} {aft : Array Edge} {g : Option (Nat × Bool)} {x : Operand} {t yt te : TypeId} {ao : Option Addr} {n c : Nat} (ht : P.underlying t = some (.slice te)) (hx : opd L x = some (E (.slice ao n c))) :
  OpC P w0 L ⟨dst, .binOp .neq t x (.const (.slice none 0 0)) yt, ty, pos, aft, g⟩ (E (.bool !ao.isNone)) :=
 opc_neq hx rfl (fun _ => rfl) rfl fun w _ => run_equal_slice_nil w t te ao n c ht
theorem slSome {α : Type} {e : Enc α} {G : Nat → Prop} {xs : List α} {v : Value} {w : World} (h : (Dv (slE e) G xs).p v w) (hx : xs ≠ []) : ∃ ad n c, v = .slice (some ad) n c := by
 rcases Dv.sl.1 h with ⟨_, h0⟩ | ⟨ad, cap, cs, h1, _⟩
 ·exact absurd h0 hx
 ·exact ⟨ad, _, cap, h1⟩
def ixI (l : List Int) (x : Int) : Int := fstN (fun i => x == gi l i) l.length
theorem ixI_mem (l : List Int) (x : Int) : decide (0 ≤ ixI l x) = decide (x ∈ l) := by
 rw [ixI]
 rcases fstN_cases (fun i => x == gi l i) l.length with ⟨h1, h2⟩ | ⟨k, hk, h1, h2, _⟩
 ·rw [h1, decide_eq_false (by omega), decide_eq_false]
  intro hm
  obtain ⟨i, hi, he⟩ := List.getElem_of_mem hm
  have := h2 i hi
  have hg := gi_get hi
  rw [List.getElem?_eq_getElem hi, he] at hg
  rw [← Option.some.inj hg] at this
  simp at this
 ·rw [h1, decide_eq_true (by omega), decide_eq_true]
  have h3 : x = gi l k := by simpa using h2
  rw [h3]
  exact List.mem_of_getElem? (gi_get hk)
theorem sindex_spec {G : Nat → Prop} (l : List Int) (x : Int) (v : Value) (W : World) (h : (Dv (slE intE) G l).p v W) (hl : l.length ≤ 100000) : Calls Tryz.prog 102 #[v, I x] W (Post (E (I (ixI l x))) W) := by
 refine enter (args := [v, I x]) (As := [Dv (slE intE) G l, E (I x)]) Tryz.func102 rfl Tryz.ntmps102 (Nat.le_of_ble_eq_true rfl) ?_ (fun a hf => ?_) (Nat.le_of_ble_eq_true rfl)
 rotate_left
 dsimp only [params, Nat.reduceAdd] at hf
 rotate_right
 ·exact arg2 h rfl
 have e := Ext.rfl' W
 repeat refine seq ?_
 refine regn0 ?_
 refine tl_as hf rfl (by decide) fun a hf => ?_
 refine tl_nil ?_
 repeat refine seq ?_
 refine regn 3 hf (by decide +kernel) ?_
 refine st (mv rfl) ?_
 refine st (lenD Tryz.underlying26 (isR rfl)) ?_
 refine st (mv rfl) ?_
 refine en fun a w e' hf => ?_
 replace e := e.tr e'
 refine tl_nil ?_
 replace hf := hf.kp [0, 1, 7, 8]
 repeat refine seq ?_
 refine blk (loopN (fun r0 a w => ∃ (k : Nat) , r0 = l.length - k ∧ k ≤ l.length ∧ Fr 19 a w [(0, Dv (slE intE) G l), (1, E (I x)), (7, E (I (l.length : Nat))), (8, E (I k))] ∧ Ext W w ∧ ∀ i, i < k → (x == gi l i) = false) l.length ⟨0, rfl, by omega, hf, e, (fun i hi => by omega)⟩ ?_)
 clear hf e; try clear Ho
 rintro r0 a w ⟨k, rfl, hk, hf, e, Ho⟩
 repeat refine seq ?_
 refine regn 1 hf (by decide +kernel) ?_
 refine st (lss rfl rfl) ?_
 refine en fun a w e' hf => ?_
 replace e := e.tr e'
 refine tl_nil ?_
 repeat refine seq ?_
 refine ifc hf rfl (fun hc => wskip ?_) (fun hc => wexit ?_)
 rotate_left
 rotate_left
 ·have hlt : k < l.length := by have := of_decide_eq_true hc; (try dsimp only at this); omega
  clear hc
  replace hf := hf.kp [0, 1, 7, 8]
  repeat refine seq ?_
  refine blk ?_
  repeat refine seq ?_
  refine regn 1 hf (by decide +kernel) ?_
  refine st (mv rfl) ?_
  refine en fun a w e' hf => ?_
  replace e := e.tr e'
  refine tl_as hf rfl (by decide) fun a hf => ?_
  refine tl_nil ?_
  repeat refine seq ?_
  refine regn 6 hf (by decide +kernel) ?_
  refine st (mv rfl) ?_
  refine st (mv rfl) ?_
  refine st (mv rfl) ?_
  refine st (idxD Tryz.underlying26 S3 (isR rfl) rfl (by omega) (gi_get hlt)) ?_
  refine st (ldI T3 (isR rfl)) ?_
  refine st (eql rfl rfl) ?_
  refine en fun a w e' hf => ?_
  replace e := e.tr e'
  refine tl_nil ?_
  repeat refine seq ?_
  refine ifc hf rfl (fun hb => ?_) (fun hb => ?_)
  ·repeat refine seq ?_
   refine regn 1 hf (by decide +kernel) ?_
   refine st (mv rfl) ?_
   refine en fun a w e' hf => ?_
   replace e := e.tr e'
   refine tl_as hf rfl (by decide) fun a hf => ?_
   refine tl_nil ?_
   refine wret ?_
   try simp only [Exit.then, Exit.inBlock]
   refine ret1 rfl hf rfl ?_
   rintro _ rfl
   exact ⟨_, rfl, e, congrArg I (fstN_hit hlt Ho hb).symm⟩
  ·refine wskip ?_
   try simp only [Exit.then, Exit.inBlock, ↓reduceIte]
   try simp only [Exit.then, Exit.inBlock, ↓reduceIte]
   repeat refine seq ?_
   refine regn 1 hf (by decide +kernel) ?_
   refine st ((add rfl rfl (by omega)).eq (congrArg (Value.int .i64) (show (k : Int) + 1 = ((k + 1 : Nat) : Int) from rfl))) ?_
   refine en fun a w e' hf => ?_
   replace e := e.tr e'
   clear e'
   refine tl_op hf (by decide) (mv rfl) fun a w e' hf => ?_
   replace e := e.tr e'
   refine tl_nil ?_
   replace hf := hf.kp [0, 1, 7, 8]
   refine ⟨_, ?_, k + 1, rfl, by omega, hf, e, ?_⟩
   ·omega
   intro i hi
   by_cases hk : i = k
   ·subst hk; exact hb
   ·exact Ho i (by omega)
 ·obtain rfl : k = l.length := by have := of_decide_eq_false hc; (try dsimp only at this); omega
  clear hc
  simp only [Exit.then, Exit.inBlock, ↓reduceIte]
  repeat refine seq ?_
  refine regn0 ?_
  refine tl_as hf rfl (by decide) fun a hf => ?_
  refine tl_nil ?_
  refine wret ?_
  try simp only [Exit.then, Exit.inBlock]
  refine ret1 rfl hf rfl ?_
  rintro _ rfl
  exact ⟨_, rfl, e, congrArg I (fstN_none Ho).symm⟩
theorem scontains_spec {G : Nat → Prop} (l : List Int) (x : Int) (v : Value) (W : World) (h : (Dv (slE intE) G l).p v W) (hl : l.length ≤ 100000) : Calls Tryz.prog 62 #[v, I x] W (Post (E (B (decide (x ∈ l)))) W) := by
 have hv : (Dv (slE intE) Go.Mono.G0 l).p v W := Dv.weak h fun b _ hb => hb.elim
 refine enter (args := [v, I x]) (As := [E v, E (I x)]) Tryz.func62 rfl Tryz.ntmps62 (Nat.le_of_ble_eq_true rfl) ?_ (fun a hf => ?_) (Nat.le_of_ble_eq_true rfl)
 rotate_left
 dsimp only [params, Nat.reduceAdd] at hf
 rotate_right
 ·exact arg2 rfl rfl
 have e := Ext.rfl' W
 repeat refine seq ?_
 refine regn0 ?_
 refine tl_as hf rfl (by decide) fun a hf => ?_
 refine tl_nil ?_
 repeat refine seq ?_
 refine regn 4 hf (by decide +kernel) ?_
 refine st (mv rfl) ?_
 refine st (mv rfl) ?_
 refine st (call2 (A := E (I (ixI l x))) (B := E v) (C := E (I x)) En102 rfl rfl (fun u u' w he k1 k2 => by cases k1; cases k2; exact sindex_spec l x v w (VA.st _ _ _ _ he hv) hl)) ?_
 refine st ((geq rfl rfl).eq (congrArg Value.bool (ixI_mem l x))) ?_
 refine en fun a w e' hf => ?_
 replace e := e.tr e'
 refine tl_as hf rfl (by decide) fun a hf => ?_
 refine tl_nil ?_
 refine wret ?_
 try simp only [Exit.then, Exit.inBlock]
 refine ret1 rfl hf rfl ?_
 rintro _ rfl
 exact ⟨_, rfl, e, rfl⟩
theorem sclone_spec {G : Nat → Prop} (l : List Int) (v : Value) (W : World) (h : (Dv (slE intE) G l).p v W) (hl : l.length ≤ 100000) (hne : l ≠ []) : Calls Tryz.prog 63 #[v] W (Post (OwA intE 3 W.heap.size Go.Mono.G0 l) W) := by
 have HL : (Dv (slE intE) (GB W Go.Mono.G0) l).p v W := Dv.toB (Dv.weak h fun b _ hb => hb.elim)
 obtain ⟨ad, n, c, rfl⟩ := slSome h hne
 clear h
 have hG : ∀ b, Go.Mono.G0 b → b < W.heap.size := fun b hb => hb.elim
 refine enter (args := [.slice (some ad) n c]) (As := [E (.slice (some ad) n c)]) Tryz.func63 rfl Tryz.ntmps63 (Nat.le_of_ble_eq_true rfl) ?_ (fun a hf => ?_) (Nat.le_of_ble_eq_true rfl)
 rotate_left
 dsimp only [params, Nat.reduceAdd] at hf
 rotate_right
 ·exact arg1 rfl
 have e := Ext.rfl' W
 repeat refine seq ?_
 refine regn0 ?_
 refine tl_as hf rfl (by decide) fun a hf => ?_
 refine tl_nil ?_
 repeat refine seq ?_
 refine regn 2 hf (by decide +kernel) ?_
 refine st (mv rfl) ?_
 refine st (eqlNil Tryz.underlying26 rfl) ?_
 refine en fun a w e' hf => ?_
 replace HL := Dv.ex HL e'
 replace e := e.tr e'
 refine tl_nil ?_
 repeat refine seq ?_
 refine ifc hf rfl (fun h => by cases h) (fun _ => ?_)
 refine wskip ?_
 try simp only [Exit.then, Exit.inBlock, ↓reduceIte]
 replace hf := hf.kp [0]
 repeat refine seq ?_
 refine regn0 ?_
 refine tl_bsl0 W.heap.size Go.Mono.G0 intE Tryz.underlying26 S3 hf (by decide) e.size hG fun a v w e' hov Ho hf => ?_
 replace HL := Dv.ex HL e'
 replace e := e.tr e'
 clear e'
 refine tl_op hf (by decide) (mv rfl) fun a w e' hf => ?_
 replace HL := Dv.ex HL e'
 replace e := e.tr e'
 replace Ho := Ho.ext e'
 clear e'
 haveI hin : ∀ G0, InR (GB W G0) _ := OwR.inGB (W := W) Ho (Nat.le_refl _)
 refine tl_app Tryz.underlying26 I3 rfl rfl hf (by decide) rfl Ho (isE rfl (Dv.weak HL fun b hb hh => hh.elim (fun h => h.elim) fun h => .inr (Ho.lt h).1)) (by simp only [List.length_nil]; omega) (by simp only [List.length_nil, maxLen]; omega) fun a v w hg hat Hn hf => ?_
 replace e := e.gro hg (Ho.row (W := W) (Nat.le_refl _))
 have hrow := Ho.row (W := W) (Nat.le_refl _)
 replace HL := Dv.gro HL hg (fun b hb => .inr (Ho.lt hb).1)
 clear hrow
 replace Ho := Hn; clear Hn hg hat hin
 refine tl_as hf rfl (by decide) fun a hf => ?_
 refine tl_nil ?_
 refine wret ?_
 try simp only [Exit.then, Exit.inBlock]
 refine ret1 rfl hf rfl ?_
 rintro _ rfl
 exact ⟨_, rfl, e, Ho⟩
def CyA (G : Nat → Prop) (o : Option (List Nat)) : VA := ⟨fun v w => match o with
 | none => v = .slice none 0 0
 | some out => out ≠ [] ∧ (Dv (slE intE) G (natE out)).p v w, fun v w w' e h => by
  cases o with
  | none => exact h
  | some out => exact ⟨h.1, VA.st _ _ _ _ e h.2⟩⟩
def cyF (bn bl ba bv be : Nat) : Value := .func (.func 61) #[] #[ptr bn, ptr bl, ptr ba, ptr bv, ptr be]
structure CyE (G : Nat → Prop) (n a : Nat) (l : List (Int × BS)) (S0 : BS) (mq lv : Value) (N0 bn bl ba bv be : Nat) (w : World) : Prop where
 t : Tab w
 hv : (Dv (mpE sKV N0) G l).p mq w
 hl : (Dv (slE setE) G (lvB (lkS l) a)).p lv w
 pn : Blk w bn #[I (n : Nat)] 3
 pl : Blk w bl (adC S0 mq) 80
 pa : Blk w ba #[I (a : Nat)] 3
 pv : Blk w bv #[lv] 78
 pe : Blk w be #[cyF bn bl ba bv be] 120
section
variable {G : Nat → Prop} {n a : Nat} {l : List (Int × BS)} {S0 : BS} {mq lv : Value} {N0 bn bl ba bv be : Nat} {w w' : World}
theorem CyE.ext (h : CyE G n a l S0 mq lv N0 bn bl ba bv be w) (e : Ext w w') : CyE G n a l S0 mq lv N0 bn bl ba bv be w' :=
 ⟨h.t.ext e, Dv.ex h.hv e, Dv.ex h.hl e, h.pn.ext e, h.pl.ext e, h.pa.ext e, h.pv.ext e, h.pe.ext e⟩
theorem CyE.ch {S : Nat → Prop} (h : CyE G n a l S0 mq lv N0 bn bl ba bv be w) (c : Chg S w w') (hS : ∀ b, S b → G b) (h0 : ¬S 0) (h1 : ¬S bn) (h2 : ¬S bl) (h3 : ¬S ba) (h4 : ¬S bv) (h5 : ¬S be) : CyE G n a l S0 mq lv N0 bn bl ba bv be w' :=
 ⟨h.t.ch c h0, Dv.ch h.hv c hS, Dv.ch h.hl c hS, h.pn.ch c h1, h.pl.ch c h2, h.pa.ch c h3, h.pv.ch c h4, h.pe.ch c h5⟩
theorem CyE.weak {G' : Nat → Prop} (h : CyE G n a l S0 mq lv N0 bn bl ba bv be w) (hG : ∀ b, b < w.heap.size → G' b → G b) : CyE G' n a l S0 mq lv N0 bn bl ba bv be w :=
 ⟨h.t, Dv.weak h.hv hG, Dv.weak h.hl hG, h.pn, h.pl, h.pa, h.pv, h.pe⟩
theorem CyE.low (h : CyE G n a l S0 mq lv N0 bn bl ba bv be w) : bn < w.heap.size ∧ bl < w.heap.size ∧ ba < w.heap.size ∧ bv < w.heap.size ∧ be < w.heap.size ∧ 0 < w.heap.size := ⟨h.pn.lt, h.pl.lt, h.pa.lt, h.pv.lt, h.pe.lt, h.t.lt⟩
end
def exS (nb : Int → BS) (a n f : Nat) (way : List Nat) (next : Nat) : Option (List Nat) := if way.contains next = true ∨ (n : Int) - way.length < farF (lvB nb a) next then none else extF nb a n f (way ++ [next])
theorem extF_go {nb : Int → BS} {a n f : Nat} {way : List Nat} (h : way.length ≠ n) : extF nb a n (f + 1) way = (elems (nb (way.getLastD 0 : Nat))).findSome? (exS nb a n f way) := by
 rw [extF, if_neg h]; rfl
theorem extF_at {nb : Int → BS} {a n f : Nat} {way : List Nat} (h : way.length = n) : extF nb a n (f + 1) way = if (nb (way.getLastD 0 : Nat)).getLsbD a = true then some way else none := by
 rw [extF, if_pos h]
theorem natE_last {way : List Nat} (h : way ≠ []) : (natE way)[way.length - 1]? = some ((way.getLastD 0 : Nat) : Int) := by
 have h1 : way[way.length - 1]? = some (way.getLastD 0) := by
  rw [← List.getLast?_eq_getElem?, List.getLastD_eq_getLast?]
  cases h2 : way.getLast? with
  | none => rw [List.getLast?_eq_none_iff] at h2; exact absurd h2 h
  | some x => rfl
 rw [natE, List.getElem?_map, h1]; rfl
theorem natE_len (l : List Nat) : (natE l).length = l.length := by rw [natE, List.length_map]
theorem natE_mem {x : Nat} {l : List Nat} : ((x : Int) ∈ natE l) ↔ x ∈ l := by
 rw [natE, List.mem_map]
 constructor
 ·rintro ⟨y, hy, h⟩
  have : y = x := by omega
  rwa [← this]
 ·intro h; exact ⟨x, h, rfl⟩
theorem natE_app (l : List Nat) (x : Nat) : natE (l ++ [x]) = natE l ++ [(x : Int)] := by rw [natE, natE, List.map_append]; rfl
structure CyJ (W : World) (G : Nat → Prop) (n a : Nat) (l : List (Int × BS)) (S0 : BS) (mq lv v : Value) (N0 bn bl ba bv be b6 b7 : Nat) (way : List Nat) (r : Value) (w : World) : Prop where
 e : Ext W w
 c : CyE (GB W Go.Mono.G0) n a l S0 mq lv N0 bn bl ba bv be w
 hw : (Dv (slE intE) (GB W G) (natE way)).p v w
 p6 : Blk w b6 #[v] 26
 p7 : Blk w b7 #[r] 26
theorem CyJ.kp {W : World} {G : Nat → Prop} {n a : Nat} {l : List (Int × BS)} {S0 : BS} {mq lv v : Value} {N0 bn bl ba bv be b6 b7 : Nat} {way : List Nat} {r : Value} {B : Nat} {w w' : World} (h : CyJ W G n a l S0 mq lv v N0 bn bl ba bv be b6 b7 way r w) (k : Kp B w w') (hW : W.heap.size ≤ B) (h0 : 0 < B) (hl : bn < B ∧ bl < B ∧ ba < B ∧ bv < B ∧ be < B) (l6 : b6 < B) (l7 : b7 < B) :
  CyJ W G n a l S0 mq lv v N0 bn bl ba bv be b6 b7 way r w' :=
 have no : ∀ {b}, b < B → ¬Hole B b := fun h hh => by have := hh.1; omega
 have hH : ∀ b, Hole B b → GB W Go.Mono.G0 b := fun b hb => .inr (by have := hb.1; omega)
 ⟨h.e.kp k hW, h.c.ch k.chg hH (no h0) (no hl.1) (no hl.2.1) (no hl.2.2.1) (no hl.2.2.2.1) (no hl.2.2.2.2), Dv.ch h.hw k.chg (fun b hb => .inr (by have := hb.1; omega)), h.p6.kp k (no l6), h.p7.kp k (no l7)⟩
theorem has_far {nb : Int → BS} {a : Nat} (b : Nat) : farF (lvB nb a) b ≤ 1025 := by have h1 := farF_hi (lvB nb a) b; have h2 := lvB_len nb a; omega
theorem cyc1_spec {n vo : Nat} {l : List (Int × BS)} {S0 : BS} {mq lv : Value} {N0 bn bl ba bv be : Nat} (hn : n ≤ 1500) : ∀ (f : Nat) (way : List Nat) (v : Value) (G : Nat → Prop) (W : World), (∀ b, G b → b < W.heap.size) → CyE Go.Mono.G0 n vo l S0 mq lv N0 bn bl ba bv be W → (Dv (slE intE) G (natE way)).p v W → way ≠ [] → way.length ≤ n → n < f + way.length → (∀ x ∈ way, x < 1024) →
  Calls Tryz.prog 61 #[v, ptr bn, ptr bl, ptr ba, ptr bv, ptr be] W (Post (CyA G (extF (lkS l) vo n f way)) W) := by
 intro f
 induction f with
 | zero => intro way v G W hG hC hw hne hle hlt; omega
 | succ f ih =>
  intro way v G W hG hC0 hw0 hne hle hlt hx
  have C : CyE (GB W Go.Mono.G0) n vo l S0 mq lv N0 bn bl ba bv be W := hC0.weak fun b hb hh => hh.elim id fun h => absurd hb (Nat.not_lt.2 h)
  have HW : (Dv (slE intE) (GB W G) (natE way)).p v W := Dv.toB hw0
  have h1c := one_cells (Dv.slOne hw0)
  have hlo := hC0.low
  clear hC0 hw0
  have hwl : 1 ≤ way.length := by
   cases way with
   | nil => exact absurd rfl hne
   | cons x r => rw [List.length_cons]; omega
  have hwn := natE_len way
  obtain ⟨last, hlast⟩ : ∃ last, last = way.getLastD 0 := ⟨_, rfl⟩
  have hgl := natE_last hne
  rw [← hlast] at hgl
  have hl1024 : last < 1024 := hx last (by rw [hlast]; have h := List.mem_of_getElem? hgl; rw [hlast] at h; exact natE_mem.1 h)
  have hwlast : (Lit.int .i64 (last : Int)).wf = true := wf64 (by omega) (by omega)
  refine enterM (args := [v, ptr bn, ptr bl, ptr ba, ptr bv, ptr be]) (As := [E v, E (ptr bn), E (ptr bl), E (ptr ba), E (ptr bv), E (ptr be)]) Tryz.func61 rfl Tryz.ntmps61 (Nat.le_of_ble_eq_true rfl) ?_ (fun a hf => ?_) (Nat.le_of_ble_eq_true rfl)
  ·exact argC rfl (argC rfl (argC rfl (argC rfl (argC rfl (argC rfl argZ)))))
  dsimp only [params, Nat.reduceAdd] at hf
  have e := Ext.rfl' W
  repeat refine seq ?_
  refine regn0 ?_
  refine tl_box hf rfl (by decide) fun a b6 w v6 hv6 e' hb6 hs6 B6 hf => ?_
  have hle6 := Nat.le_trans e.size (Nat.le_of_eq hb6.symm)
  replace C := C.ext e'
  replace HW := Dv.ex HW e'
  replace e := e.tr e'
  clear e'
  refine tl_alloc I26 hf (by decide) fun a b7 w e' hb7 hs7 B7 hf => ?_
  have hle7 := Nat.le_trans e.size (Nat.le_of_eq hb7.symm)
  have lt7_B6 := B6.lt
  replace C := C.ext e'
  replace HW := Dv.ex HW e'
  replace e := e.tr e'
  replace B6 := B6.ext e'
  refine tl_nil ?_
  cases hv6
  rw [h1c] at B6
  replace B7 : Blk w b7 #[.slice none 0 0] 26 := B7
  have n67 : b6 ≠ b7 ∧ W.heap.size ≤ b6 ∧ W.heap.size ≤ b7 := by omega
  replace hf := hf.kp [1, 2, 3, 4, 5, 6, 7]
  repeat refine seq ?_
  refine regn 6 hf (by decide +kernel) ?_
  refine st (ld1 (v := v) T26 rfl B6 rfl) ?_
  refine st (ld1 (v := v) T26 rfl B6 rfl) ?_
  refine st (lenD Tryz.underlying26 (isE rfl HW)) ?_
  refine st (sub rfl rfl (by omega)) ?_
  refine st (idxD Tryz.underlying26 S3 (isE rfl HW) rfl (by omega) (hgl)) ?_
  refine st (ldI T3 (isR rfl)) ?_
  refine en fun a w e' hf => ?_
  replace C := C.ext e'
  replace HW := Dv.ex HW e'
  replace e := e.tr e'
  replace B6 := B6.ext e'
  replace B7 := B7.ext e'
  refine tl_as hf rfl (by decide) fun a hf => ?_
  refine tl_nil ?_
  replace hf := hf.kp [1, 2, 3, 4, 5, 6, 7, 8]
  have hov : v.oneCell' = true := Dv.slOne HW
  obtain ⟨Nb, hNb⟩ : ∃ Nb, Nb = lkS l (last : Int) := ⟨_, rfl⟩
  have hasb : ∀ b : Nat, has Nb (b : Int) = Nb.getLsbD b := fun b => by rw [Bool.eq_iff_iff]; exact has_bit Nb b
  by_cases hln : way.length = n
  ·have hb3 : (((natE way).length : Nat) : Int) == ((n : Nat) : Int) := by rw [hwn, hln]; exact beq_self_eq_true _
   rw [extF_at hln, ← hlast, ← hNb]
   repeat refine seq ?_
   refine regn 4 hf (by decide +kernel) ?_
   refine st (ld1 (v := v) T26 rfl B6 rfl) ?_
   refine st (lenD Tryz.underlying26 (isE rfl HW)) ?_
   refine st (ld1 (v := I (n : Nat)) T3 rfl C.pn rfl) ?_
   refine st ((eql rfl rfl).eq (congrArg Value.bool (hb3))) ?_
   refine en fun a w e' hf => ?_
   replace C := C.ext e'
   replace HW := Dv.ex HW e'
   replace e := e.tr e'
   replace B6 := B6.ext e'
   replace B7 := B7.ext e'
   refine tl_nil ?_
   repeat refine seq ?_
   refine ifc hf rfl (fun _ => ?_) (fun h => by cases h)
   replace hf := hf.kp [1, 2, 3, 4, 5, 6, 7, 8]
   repeat refine seq ?_
   refine regn 6 hf (by decide +kernel) ?_
   refine st (fldA Tryz.underlying80 rfl T66 (by decide) rfl) ?_
   refine st (ld1 (v := mq) T66 rfl C.pl (adC_map _ _)) ?_
   refine st (mv rfl) ?_
   refine st (lkM (l := l) (i := (last : Int)) Tryz.underlying66 zero_set (isE rfl C.hv) rfl hwlast) ?_
   refine st (ld1 (v := I (vo : Nat)) T3 rfl C.pa rfl) ?_
   refine st (call2 (A := E (B (Nb.getLsbD vo))) (B := E (setV (lkS l (last : Int)))) (C := E (I (vo : Nat))) En33 rfl rfl (fun v u w he h h' => by cases h; cases h'; rw [← hNb, ← hasb]; exact has_spec _ _ w)) ?_
   refine en fun a w e' hf => ?_
   replace C := C.ext e'
   replace HW := Dv.ex HW e'
   replace e := e.tr e'
   replace B6 := B6.ext e'
   replace B7 := B7.ext e'
   refine tl_nil ?_
   replace hf := hf.kp [6, 7, 27]
   repeat refine seq ?_
   refine ifc hf rfl (fun hb => ?_) (fun hb => ?_)
   ·rw [if_pos hb]
    repeat refine seq ?_
    refine regn 1 hf (by decide +kernel) ?_
    refine st (ld1 (v := v) T26 rfl B6 rfl) ?_
    refine en fun a w e' hf => ?_
    replace HW := Dv.ex HW e'
    replace e := e.tr e'
    replace B6 := B6.ext e'
    replace B7 := B7.ext e'
    clear e'
    refine tl_st1 T26 hf rfl rfl hov B7 Nat.zero_lt_one fun w hg hsz B7 hf => ?_
    replace e := e.gr hg (by omega); replace HW := Dv.gr HW hg (.inr (by omega)); clear hg
    refine tl_nil ?_
    refine wret ?_
    try simp only [Exit.then, Exit.inBlock]
    exact retc1M (D := []) rfl T26 hf rfl B7 (Ds.nil _) ⟨_, rfl, e, hne, Dv.weak HW fun b _ hb => .inl hb⟩
   ·rw [if_neg (by rw [hb]; decide)]
    refine wskip ?_
    try simp only [Exit.then, Exit.inBlock, ↓reduceIte]
    replace hf := hf.kp [6, 7]
    repeat refine seq ?_
    refine regn0 ?_
    refine tl_st1 T26 hf rfl rfl rfl B7 Nat.zero_lt_one fun w hg hsz B7 hf => ?_
    replace e := e.gr hg (by omega); clear hg
    refine tl_nil ?_
    refine wret ?_
    try simp only [Exit.then, Exit.inBlock]
    exact retc1M (D := []) rfl T26 hf rfl B7 (Ds.nil _) ⟨_, rfl, e, rfl⟩
  ·have hb3 : ((((natE way).length : Nat) : Int) == ((n : Nat) : Int)) = false := by rw [hwn]; exact beq_eq_false_iff_ne.2 (by omega)
   rw [extF_go hln, ← hlast, ← hNb]
   repeat refine seq ?_
   refine regn 4 hf (by decide +kernel) ?_
   refine st (ld1 (v := v) T26 rfl B6 rfl) ?_
   refine st (lenD Tryz.underlying26 (isE rfl HW)) ?_
   refine st (ld1 (v := I (n : Nat)) T3 rfl C.pn rfl) ?_
   refine st ((eql rfl rfl).eq (congrArg Value.bool (hb3))) ?_
   refine en fun a w e' hf => ?_
   replace C := C.ext e'
   replace HW := Dv.ex HW e'
   replace e := e.tr e'
   replace B6 := B6.ext e'
   replace B7 := B7.ext e'
   refine tl_nil ?_
   repeat refine seq ?_
   refine ifc hf rfl (fun h => by cases h) (fun _ => ?_)
   refine wskip ?_
   try simp only [Exit.then, Exit.inBlock, ↓reduceIte]
   replace hf := hf.kp [1, 2, 3, 4, 5, 6, 7, 8]
   obtain ⟨Nz, hNz⟩ : ∃ Nz, Nz = w.heap.size := ⟨_, rfl⟩
   have hTw := C.t
   repeat refine seq ?_
   refine regn 5 hf (by decide +kernel) ?_
   refine st (fldA Tryz.underlying80 rfl T66 (by decide) rfl) ?_
   refine st (ld1 (v := mq) T66 rfl C.pl (adC_map _ _)) ?_
   refine st (mv rfl) ?_
   refine st (lkM (l := l) (i := (last : Int)) Tryz.underlying66 zero_set (isE rfl C.hv) rfl hwlast) ?_
   refine st (call1 (A := SeqA Nz Nb) (B := E (setV (lkS l (last : Int)))) En25 rfl (fun v w' he h => by cases h; rw [hNb]; exact Calls.mono (all_spec _ w') (fun en w2 ⟨u, h1, h2, b', h3, h4, h5⟩ => ⟨u, h1, h2, b', by have := he.size; omega, h4, h5⟩))) ?_
   refine en fun a w e' hf => ?_
   replace C := C.ext e'
   replace HW := Dv.ex HW e'
   replace e := e.tr e'
   replace B6 := B6.ext e'
   replace B7 := B7.ext e'
   refine tl_nil ?_
   obtain ⟨vv, ⟨b33, h33, rfl, BS⟩, hf⟩ := hf.fix 33 rfl
   replace hf := hf.kp [1, 2, 3, 4, 5, 6, 7, 33]
   obtain ⟨nb, hnb⟩ : ∃ nb, nb = lkS l := ⟨_, rfl⟩
   rw [← hnb]
   have hlo2 : bn < w.heap.size ∧ bl < w.heap.size ∧ ba < w.heap.size ∧ bv < w.heap.size ∧ be < w.heap.size := by have := e.size; omega
   have hBW : W.heap.size ≤ w.heap.size := e.size
   have h0w : 0 < w.heap.size := C.t.lt
   have l6 := B6.lt
   have l7 := B7.lt
   clear hNz hTw
   repeat refine seq ?_
   refine blk ?_
   refine range_all3 (S := Nb) hf rfl BS (by decide) (fun s w1 => CyJ W G n vo l S0 mq lv v N0 bn bl ba bv be b6 b7 way (.slice none 0 0) w1 ∧ ∀ y ∈ s, exS nb vo n f way y = none)
    (fun ex w1 => ex = .ret ∧ ∃ r out, CyJ W G n vo l S0 mq lv v N0 bn bl ba bv be b6 b7 way r w1 ∧ (elems Nb).findSome? (exS nb vo n f way) = some out ∧ out ≠ [] ∧ (Dv (slE intE) (fun b => b < w.heap.size + 3) (natE out)).p r w1) (fun s w1 h => h.1.c.t)
    ⟨⟨e, C, HW, B6, B7⟩, fun y hy => by cases hy⟩ (fun s w1 w2 h hs k => ⟨h.1.kp k hBW h0w hlo2 l6 l7, h.2⟩)
    (fun ex w1 w2 ⟨q1, r, out, q2, q3, q4, q5⟩ hs k => ⟨q1, r, out, q2.kp k hBW h0w hlo2 l6 l7, q3, q4, Dv.ch q5 k.chg fun b hb => hb.2⟩) ?_ ?_ ?_
   ·intro lp s x rest a1 w1 hs hJ hlw hf
    have hxN : Nb.getLsbD x = true := (mem_elems.1 (by rw [hs]; simp)).2
    have hx1024 : x < 1024 := bit_lt hxN
    generalize hBz : w.heap.size = Bz at *
    refine regn0 ?_
    refine tl_as hf rfl (by decide) fun a hf => ?_
    refine tl_nil ?_
    simp only [Exit.then]
    refine ⟨Kh.rfl' _ _, fun w3 k3 hsz3 => ?_⟩
    have hJ3 := hJ.1.kp k3 hBW h0w hlo2 l6 l7
    have hJs := hJ.2
    have hw3 : Bz + 3 ≤ w3.heap.size := by omega
    clear e C HW B6 B7 BS hJ
    replace hf := hf.pure w3
    obtain ⟨e, C, HW, B6, B7⟩ := hJ3
    have kh := Kh.rfl' Bz w3
    replace hf := hf.kp [1, 2, 3, 4, 5, 6, 7, 9]
    repeat refine seq ?_
    refine blk ?_
    have hd2 : farF (lvB nb vo) x ≤ 1025 := has_far x
    have hd1 : -1 ≤ farF (lvB nb vo) x := farF_lo _ _
    obtain ⟨d, hd⟩ : ∃ d, d = farF (lvB nb vo) x := ⟨_, rfl⟩
    have hex : exS nb vo n f way x = if way.contains x = true ∨ (n : Int) - way.length < d then none else extF nb vo n f (way ++ [x]) := by rw [exS, hd]
    rw [← hd] at hd1 hd2
    repeat refine seq ?_
    refine regn 3 hf (by decide +kernel) ?_
    refine st (ld1 (v := lv) T78 rfl C.pv rfl) ?_
    refine st (mv rfl) ?_
    refine st (call2 (A := E (I d)) (B := E lv) (C := E (I (x : Nat))) En58 rfl rfl (fun a b w he k1 k2 => by cases k1; cases k2; rw [hd, hnb]; exact far_spec _ x lv w (Dv.ex C.hl he) (Nat.le_trans (lvB_len _ _) (by decide)))) ?_
    refine en fun a w e' hf => ?_
    replace C := C.ext e'
    replace HW := Dv.ex HW e'
    replace kh := kh.tr (Kh.ext e')
    replace hw3 := Nat.le_trans hw3 e'.size
    replace e := e.tr e'
    replace B6 := B6.ext e'
    replace B7 := B7.ext e'
    refine tl_as hf rfl (by decide) fun a hf => ?_
    refine tl_nil ?_
    clear hd
    replace hf := hf.kp [1, 2, 3, 4, 5, 6, 7, 9, 10]
    have fin : ∀ {w2 : World}, exS nb vo n f way x = none → Ext W w2 → CyE (GB W Go.Mono.G0) n vo l S0 mq lv N0 bn bl ba bv be w2 → (Dv (slE intE) (GB W G) (natE way)).p v w2 → Blk w2 b6 #[v] 26 → Blk w2 b7 #[.slice none 0 0] 26 → Kh Bz w3 w2 →
      (CyJ W G n vo l S0 mq lv v N0 bn bl ba bv be b6 b7 way (.slice none 0 0) w2 ∧ ∀ y ∈ s ++ [x], exS nb vo n f way y = none) ∧ Kh Bz w3 w2 := fun {w2} h0 h1 h2 h3 h4 h5 h6 => ⟨⟨⟨h1, h2, h3, h4, h5⟩, fun y hy => by
     rcases List.mem_append.1 hy with hy | hy
     ·exact hJs y hy
     ·rw [List.mem_singleton.1 hy]; exact h0⟩, h6⟩
    by_cases hcon : x ∈ way
    ·rw [if_pos (.inl (List.contains_iff_mem.2 hcon))] at hex
     repeat refine seq ?_
     refine regn 11 hf (by decide +kernel) ?_
     refine st (ld1 (v := v) T26 rfl B6 rfl) ?_
     refine st (mv rfl) ?_
     refine st (call2 (A := E (B true)) (B := E v) (C := E (I (x : Nat))) En62 rfl rfl (fun a b w he k1 k2 => by cases k1; cases k2; have h := scontains_spec (natE way) (x : Int) v w (Dv.ex HW he) (by omega); rwa [decide_eq_true (natE_mem.2 hcon)] at h)) ?_
     refine st (mv rfl) ?_
     refine sn rfl rfl rfl ?_
     refine sn rfl rfl rfl ?_
     refine sn rfl rfl rfl ?_
     refine sn rfl rfl rfl ?_
     refine sn rfl rfl rfl ?_
     refine sn rfl rfl rfl ?_
     refine st (pkT rfl rfl) ?_
     refine en fun a w e' hf => ?_
     replace C := C.ext e'
     replace HW := Dv.ex HW e'
     replace kh := kh.tr (Kh.ext e')
     replace hw3 := Nat.le_trans hw3 e'.size
     replace e := e.tr e'
     replace B6 := B6.ext e'
     replace B7 := B7.ext e'
     refine tl_nil ?_
     repeat refine seq ?_
     refine ifc hf rfl (fun _ => ?_) (fun h => by cases h)
     refine wexit ?_
     simp only [Exit.then, Exit.inBlock, ↓reduceIte]
     exact fin hex e C HW B6 B7 kh
    ·by_cases hfar : (n : Int) - way.length < d
     ·rw [if_pos (.inr hfar)] at hex
      repeat refine seq ?_
      refine regn 11 hf (by decide +kernel) ?_
      refine st (ld1 (v := v) T26 rfl B6 rfl) ?_
      refine st (mv rfl) ?_
      refine st (call2 (A := E (B false)) (B := E v) (C := E (I (x : Nat))) En62 rfl rfl (fun a b w he k1 k2 => by cases k1; cases k2; have h := scontains_spec (natE way) (x : Int) v w (Dv.ex HW he) (by omega); rwa [decide_eq_false (fun h => hcon (natE_mem.1 h))] at h)) ?_
      refine st (mv rfl) ?_
      refine sy rfl rfl (mv rfl) ?_
      refine sy rfl rfl (ld1 (v := I (n : Nat)) T3 rfl C.pn rfl) ?_
      refine sy rfl rfl (ld1 (v := v) T26 rfl B6 rfl) ?_
      refine sy rfl rfl (lenD Tryz.underlying26 (isE rfl HW)) ?_
      refine sy rfl rfl (sub rfl rfl (by omega)) ?_
      refine sy rfl rfl ((gtr rfl rfl).eq (congrArg Value.bool (decide_eq_true (show (n : Int) - ((natE way).length : Nat) < d by rw [hwn]; exact hfar)))) ?_
      refine st (pkF rfl rfl) ?_
      refine en fun a w e' hf => ?_
      replace C := C.ext e'
      replace HW := Dv.ex HW e'
      replace kh := kh.tr (Kh.ext e')
      replace hw3 := Nat.le_trans hw3 e'.size
      replace e := e.tr e'
      replace B6 := B6.ext e'
      replace B7 := B7.ext e'
      refine tl_nil ?_
      repeat refine seq ?_
      refine ifc hf rfl (fun _ => ?_) (fun h => by cases h)
      refine wexit ?_
      simp only [Exit.then, Exit.inBlock, ↓reduceIte]
      exact fin hex e C HW B6 B7 kh
     ·rw [if_neg (fun h => h.elim (fun h => hcon (List.contains_iff_mem.1 h)) hfar)] at hex
      repeat refine seq ?_
      refine regn 11 hf (by decide +kernel) ?_
      refine st (ld1 (v := v) T26 rfl B6 rfl) ?_
      refine st (mv rfl) ?_
      refine st (call2 (A := E (B false)) (B := E v) (C := E (I (x : Nat))) En62 rfl rfl (fun a b w he k1 k2 => by cases k1; cases k2; have h := scontains_spec (natE way) (x : Int) v w (Dv.ex HW he) (by omega); rwa [decide_eq_false (fun h => hcon (natE_mem.1 h))] at h)) ?_
      refine st (mv rfl) ?_
      refine sy rfl rfl (mv rfl) ?_
      refine sy rfl rfl (ld1 (v := I (n : Nat)) T3 rfl C.pn rfl) ?_
      refine sy rfl rfl (ld1 (v := v) T26 rfl B6 rfl) ?_
      refine sy rfl rfl (lenD Tryz.underlying26 (isE rfl HW)) ?_
      refine sy rfl rfl (sub rfl rfl (by omega)) ?_
      refine sy rfl rfl ((gtr rfl rfl).eq (congrArg Value.bool (decide_eq_false (show ¬(n : Int) - ((natE way).length : Nat) < d by rw [hwn]; exact hfar)))) ?_
      refine st (pkF rfl rfl) ?_
      refine en fun a w e' hf => ?_
      replace C := C.ext e'
      replace HW := Dv.ex HW e'
      replace kh := kh.tr (Kh.ext e')
      replace hw3 := Nat.le_trans hw3 e'.size
      replace e := e.tr e'
      replace B6 := B6.ext e'
      replace B7 := B7.ext e'
      refine tl_nil ?_
      repeat refine seq ?_
      refine ifc hf rfl (fun h => by cases h) (fun _ => ?_)
      refine wskip ?_
      try simp only [Exit.then, Exit.inBlock, ↓reduceIte]
      replace hf := hf.kp [1, 2, 3, 4, 5, 6, 7, 9]
      obtain ⟨N1, hN1⟩ : ∃ N1, N1 = w.heap.size := ⟨_, rfl⟩
      have hN1s : N1 ≤ w.heap.size := Nat.le_of_eq hN1
      have hN1b : Bz + 3 ≤ N1 := by rw [hN1]; exact hw3
      have hsub : ∀ b, N1 ≤ b → GB W Go.Mono.G0 b := fun b hb => .inr (by omega)
      have hwn1 : (natE way).length + 1 ≤ 2000 := by omega
      have hne1 : natE way ≠ [] := fun h => by rw [h] at hwn; simp at hwn; omega
      repeat refine seq ?_
      refine regQ 7 [1, 0, 0, 0, 0] (fun b => N1 ≤ b) (fun w => True) (fun w w1 k h => trivial) Mix.mix hf (by decide +kernel) (by decide +kernel) ?_
      refine qf (fun w1 h1 => ld1 (v := cyF bn bl ba bv be) T120 rfl (C.pe.ch h1 (by omega)) rfl) ?_
      refine qa (ld1 (v := v) T26 rfl B6 rfl) ?_
      refine qa (call1 (A := OwA intE 3 N1 Go.Mono.G0 (natE way)) (B := E v) En63 rfl (fun u w he k => by cases k; exact (sclone_spec (natE way) v w (Dv.ex HW he) (by omega) hne1).mono fun en w' ⟨u, k1, k2, k3⟩ => ⟨u, k1, k2, OwR.low k3 (Nat.le_trans hN1s he.size) fun b hb => hb.elim⟩)) ?_
      refine qa (mv rfl) ?_
      refine qa (bsl1 (e := intE) (G := Go.Mono.G0) Tryz.underlying26 I3 rfl (by decide) rfl (fun b hb => hb.elim) (isI rfl)) ?_
      refine qx (xappF (G' := Go.Mono.G0) Tryz.underlying26 I3 rfl rfl rfl (isR rfl) (by simp only [List.length_singleton]; omega) (by simp only [List.length_singleton, maxLen]; omega) (fun _ _ _ _ => trivial) (fun _ _ => trivial)) ?_
      refine qp (fun w1 h1 HF1 => callV1 (A := CyA (fun b => b < N1) (extF nb vo n f (way ++ [x]))) (B := OwA intE 3 N1 Go.Mono.G0 (natE way ++ [(x : Int)])) En61 rfl rfl (fun u w he k => by rw [hnb]; exact ih (way ++ [x]) u (fun b => b < N1) w (fun b hb => by have := h1.size; have := he.size; omega) (((C.ch h1 hsub (by omega) (by omega) (by omega) (by omega) (by omega) (by omega)).ext he).weak fun b _ hb => hb.elim) (by rw [natE_app]; exact OwR.slN k fun b hb hh => by have := (OwR.lt k hb).1; omega) (by simp) (by rw [List.length_append, List.length_singleton]; omega) (by rw [List.length_append, List.length_singleton]; omega) (fun y hy => (List.mem_append.1 hy).elim (hx y) fun h => by rw [List.mem_singleton.1 h]; exact hx1024))) ?_
      refine qe ?_
      refine fun a w hc HF hf => ?_
      try dsimp only [push] at hf
      have e' : Ext _ w := ⟨hc.os, hc.tape, hc.output, hc.size, fun b hb => hc.block b hb (by omega)⟩
      replace e := e.tr e'; replace C := C.ext e'; replace HW := Dv.ex HW e'; replace B6 := B6.ext e'; replace B7 := B7.ext e'; replace kh := kh.tr (Kh.ext e'); replace hw3 := Nat.le_trans hw3 e'.size
      clear hc HF e' hN1 hN1s hsub
      refine tl_as hf rfl (by decide) fun a hf => ?_
      refine tl_nil ?_
      obtain ⟨r, hr, hf⟩ := hf.opn 11 rfl
      replace hf := hf.kp [1, 2, 3, 4, 5, 6, 7, 9, 11]
      obtain ⟨o, ho⟩ : ∃ o, o = extF nb vo n f (way ++ [x]) := ⟨_, rfl⟩
      rw [← ho] at hr hex
      cases o with
      | none =>
       obtain rfl : r = .slice none 0 0 := hr
       repeat refine seq ?_
       refine regn 2 hf (by decide +kernel) ?_
       refine st (mv rfl) ?_
       refine st (neqNil Tryz.underlying26 rfl) ?_
       refine en fun a w e' hf => ?_
       replace C := C.ext e'
       replace HW := Dv.ex HW e'
       replace kh := kh.tr (Kh.ext e')
       replace e := e.tr e'
       replace B6 := B6.ext e'
       replace B7 := B7.ext e'
       refine tl_nil ?_
       repeat refine seq ?_
       refine ifc hf rfl (fun h => by cases h) (fun _ => ?_)
       refine wskip ?_
       try simp only [Exit.then, Exit.inBlock, ↓reduceIte]
       exact fin hex e C HW B6 B7 kh
      | some out =>
       obtain ⟨hr1, hr2⟩ := hr
       have hro : r.oneCell' = true := Dv.slOne hr2
       have hne2 : natE out ≠ [] := fun h => hr1 (by rw [natE] at h; exact List.map_eq_nil_iff.1 h)
       obtain ⟨ad, n', c', hre⟩ := slSome hr2 hne2
       have HR : (Dv (slE intE) (fun b => b < Bz + 3) (natE out)).p r w := Dv.weak hr2 fun b _ hb => by omega
       clear hr2
       subst hre
       repeat refine seq ?_
       refine regn 2 hf (by decide +kernel) ?_
       refine st (mv rfl) ?_
       refine st (neqNil Tryz.underlying26 rfl) ?_
       refine en fun a w e' hf => ?_
       replace C := C.ext e'
       replace HW := Dv.ex HW e'
       replace kh := kh.tr (Kh.ext e')
       replace HR := Dv.ex HR e'
       replace e := e.tr e'
       replace B6 := B6.ext e'
       replace B7 := B7.ext e'
       refine tl_nil ?_
       repeat refine seq ?_
       refine ifc hf rfl (fun _ => ?_) (fun h => by cases h)
       repeat refine seq ?_
       refine regn 1 hf (by decide +kernel) ?_
       refine st (mv rfl) ?_
       refine en fun a w e' hf => ?_
       replace C := C.ext e'
       replace HW := Dv.ex HW e'
       replace kh := kh.tr (Kh.ext e')
       replace HR := Dv.ex HR e'
       replace e := e.tr e'
       replace B6 := B6.ext e'
       replace B7 := B7.ext e'
       clear e'
       refine tl_st1 T26 hf rfl rfl hro B7 Nat.zero_lt_one fun w hg hsz B7 hf => ?_
       have hch := (Chg.rfl' (fun b => b = b7) _).gr hg (.inl rfl)
       replace e := e.gr hg (by omega)
       replace C := C.ch hch (fun b hb => .inr (by omega)) (by omega) (by omega) (by omega) (by omega) (by omega) (by omega)
       replace HW := Dv.gr HW hg (.inr (by omega)); replace HR := Dv.gr HR hg (by omega); replace B6 := B6.gr hg (by omega)
       replace kh := kh.tr (Kh.gr hg (fun hh => by have := hh.1; omega))
       clear hg hch
       refine tl_nil ?_
       refine wret ?_
       simp only [Exit.then, Exit.inBlock]
       have hfs : (elems Nb).findSome? (exS nb vo n f way) = some out := by
        rw [hs, List.findSome?_append, List.findSome?_eq_none_iff.2 hJs, List.findSome?_cons, hex]; rfl
       exact ⟨⟨rfl, _, out, ⟨e, C, HW, B6, B7⟩, hfs, hr1, HR⟩, kh⟩
   ·intro a' w' hf' hJ hsz hDn
    simp only [Exit.inBlock, ↓reduceIte, Exit.then]
    have hfs : (elems Nb).findSome? (exS nb vo n f way) = none := List.findSome?_eq_none_iff.2 hJ.2
    rw [hfs]
    have hD : Ds [w.heap.size] w' := (Ds.nil w').cons hDn (by simp)
    have hf : FrD 59 (marks [w.heap.size]) a' w' [(7, E (ptr b7))] := hf'.keep [7]
    have hDW : ∀ d ∈ [w.heap.size], W.heap.size ≤ d := fun d hd => by rw [List.mem_singleton] at hd; omega
    clear hf' e C HW B6 B7 BS hDn
    obtain ⟨e, C, HW, B6, B7⟩ := hJ.1
    have hb7 := hD.ne B7
    generalize [w.heap.size] = D2 at *
    generalize w' = w at *
    repeat refine seq ?_
    refine regn0 ?_
    refine tl_st1 T26 hf rfl rfl rfl B7 Nat.zero_lt_one fun w hg hsz B7 hf => ?_
    replace e := e.gr hg (by omega)
    replace hD := hD.gr hg hb7
    clear hg
    refine tl_nil ?_
    refine wret ?_
    try simp only [Exit.then, Exit.inBlock]
    exact retc1M rfl T26 hf rfl B7 hD ⟨_, rfl, e.shut hDW, rfl⟩
   ·intro ex c a' w' hcd hf' hX hsz hDn
    obtain ⟨rfl, r, out, hJ, hfs, hr1, HR⟩ := hX
    simp only [Exit.inBlock, ↓reduceIte, Exit.then]
    rw [hfs]
    have hD : Ds [w.heap.size] w' := (Ds.nil w').cons hDn (by simp)
    have hf : FrD 59 (marks [w.heap.size]) a' w' [(7, E (ptr b7))] := hf'.keep [7]
    have hDW : ∀ d ∈ [w.heap.size], W.heap.size ≤ d := fun d hd => by rw [List.mem_singleton] at hd; omega
    refine retc1M rfl T26 hf rfl hJ.p7 hD ⟨_, rfl, hJ.e.shut hDW, hr1, ?_⟩
    exact Dv.weak (Dv.ch HR (chg_shut _ _) fun b hb => by rw [List.mem_singleton] at hb; show b < _; omega) fun b _ hb => by have := hG b hb; show b < _; omega
end Go.Mono

namespace Go.Mono
open Go Go.Proofs Go.RowKit Go.Gr
theorem cycle_spec {G : Nat → Prop} {N0 : Nat} (l : List (Int × BS)) (S0 : BS) (mq : Value) (vo n : Nat) (W : World) (hT : Tab W) (h : (Dv (mpE sKV N0) G l).p mq W) (hvo : vo < 1024) (hn1 : 1 ≤ n) (hn : n ≤ 1500) :
  Calls Tryz.prog 38 #[.agg (adC S0 mq), I (vo : Nat), I (n : Nat)] W (Post (CyA (fun b => b < W.heap.size) (extF (lkS l) vo n n [vo])) W) := by
 have HV : (Dv (mpE sKV N0) (GB W Go.Mono.G0) l).p mq W := Dv.toB (Dv.weak h fun b _ hb => hb.elim)
 clear h
 have hT0 := hT.lt
 refine enter (args := [.agg (adC S0 mq), I (vo : Nat), I (n : Nat)]) (As := [E (.agg (adC S0 mq)), E (I (vo : Nat)), E (I (n : Nat))]) Tryz.func38 rfl Tryz.ntmps38 (Nat.le_of_ble_eq_true rfl) ?_ (fun a hf => ?_) (Nat.le_of_ble_eq_true rfl)
 rotate_left
 dsimp only [params, Nat.reduceAdd] at hf
 rotate_right
 ·exact arg3 rfl rfl rfl
 have e := Ext.rfl' W
 repeat refine seq ?_
 refine regn0 ?_
 refine tl_box hf rfl (by decide) fun a b3 w v3 hv3 e' hb3 hs3 B3 hf => ?_
 have hle3 := Nat.le_trans e.size (Nat.le_of_eq hb3.symm)
 replace hT := hT.ext e'
 replace HV := Dv.ex HV e'
 replace e := e.tr e'
 clear e'
 refine tl_box hf rfl (by decide) fun a b4 w v4 hv4 e' hb4 hs4 B4 hf => ?_
 have hle4 := Nat.le_trans e.size (Nat.le_of_eq hb4.symm)
 have lt4_B3 := B3.lt
 replace hT := hT.ext e'
 replace HV := Dv.ex HV e'
 replace e := e.tr e'
 replace B3 := B3.ext e'
 clear e'
 refine tl_box hf rfl (by decide) fun a b5 w v5 hv5 e' hb5 hs5 B5 hf => ?_
 have hle5 := Nat.le_trans e.size (Nat.le_of_eq hb5.symm)
 have lt5_B3 := B3.lt
 have lt5_B4 := B4.lt
 replace hT := hT.ext e'
 replace HV := Dv.ex HV e'
 replace e := e.tr e'
 replace B3 := B3.ext e'
 replace B4 := B4.ext e'
 refine tl_as hf rfl (by decide) fun a hf => ?_
 refine tl_nil ?_
 cases hv3
 cases hv4
 cases hv5
 replace B3 : Blk w b3 (adC S0 mq) 80 := B3
 replace B4 : Blk w b4 #[I (vo : Nat)] 3 := B4
 replace B5 : Blk w b5 #[I (n : Nat)] 3 := B5
 have n5 : b3 ≠ b4 ∧ b3 ≠ b5 ∧ b4 ≠ b5 ∧ W.heap.size ≤ b3 ∧ W.heap.size ≤ b4 ∧ W.heap.size ≤ b5 := by omega
 replace hf := hf.kp [3, 4, 5]
 obtain ⟨lv0, hlv0⟩ : ∃ lv0, lv0 = lvB (lkS l) vo := ⟨_, rfl⟩
 obtain ⟨N1, hN1⟩ : ∃ N1, N1 = w.heap.size := ⟨_, rfl⟩
 have hN1s : N1 ≤ w.heap.size := Nat.le_of_eq hN1
 have hl5 : b3 < N1 ∧ b4 < N1 ∧ b5 < N1 := by have := B3.lt; have := B4.lt; have := B5.lt; omega
 repeat refine seq ?_
 refine regn 3 hf (by decide +kernel) ?_
 refine st (ldW T80 rfl B3 (adC_size _ _)) ?_
 refine st (ld1 (v := I (vo : Nat)) T3 rfl B4 rfl) ?_
 refine st (call2 (A := OwA setE 39 N1 Go.Mono.G0 lv0) (B := E (.agg (adC S0 mq))) (C := E (I (vo : Nat))) En56 rfl rfl (fun v u w he k1 k2 => by cases k1; cases k2; exact (levels_spec l S0 mq vo w (hT.ext he) (Dv.ex HV he) hvo).mono fun en w' ⟨u, k1, k2, k3⟩ => ⟨u, k1, k2, by rw [hlv0]; exact OwR.low k3 (Nat.le_trans hN1s he.size) fun b hb => hb.elim⟩)) ?_
 refine en fun a w e' hf => ?_
 replace hT := hT.ext e'
 replace HV := Dv.ex HV e'
 replace e := e.tr e'
 replace B3 := B3.ext e'
 replace B4 := B4.ext e'
 replace B5 := B5.ext e'
 clear e'
 obtain ⟨lv, Hr, hf⟩ := hf.opn 11 rfl
 replace Hr : OwR setE 39 N1 Go.Mono.G0 w lv0 lv := Hr
 obtain ⟨N2, hN2⟩ : ∃ N2, N2 = w.heap.size := ⟨_, rfl⟩
 have hN2s : N2 ≤ w.heap.size := Nat.le_of_eq hN2
 have hl5' : b3 < N2 ∧ b4 < N2 ∧ b5 < N2 := by have := B3.lt; have := B4.lt; have := B5.lt; omega
 have HL : (Dv (slE setE) (fun b => N2 ≤ b) lv0).p lv w := Hr.slN fun b hb hh => by have := (Hr.lt hb).2; omega
 have hlo : lv.oneCell' = true := Hr.one
 have hWN2 : W.heap.size ≤ N2 := by rw [hN2]; exact e.size
 clear Hr hN1 hN1s hN2 hl5
 replace hf := hf.kp [3, 4, 5, 11]
 refine tl_alloc I78 hf (by decide) fun a b7 w e' hb7 hs7 B7 hf => ?_
 have hle7 := Nat.le_trans e.size (Nat.le_of_eq hb7.symm)
 have lo7_hN2s := Nat.le_trans hN2s (Nat.le_of_eq hb7.symm)
 have lt7_B3 := B3.lt
 have lt7_B4 := B4.lt
 have lt7_B5 := B5.lt
 replace hT := hT.ext e'
 replace HV := Dv.ex HV e'
 replace HL := Dv.ex HL e'
 replace hN2s := Nat.le_trans hN2s e'.size
 replace e := e.tr e'
 replace B3 := B3.ext e'
 replace B4 := B4.ext e'
 replace B5 := B5.ext e'
 clear e'
 have n7 : N2 ≤ b7 := lo7_hN2s
 refine tl_st1 T78 hf rfl rfl hlo B7 Nat.zero_lt_one fun w hg hsz B7 hf => ?_
 replace e := e.gr hg (by omega); replace hT := hT.gr hg (by omega); replace HV := Dv.gr HV hg (.inr (by omega)); replace HL := Dv.gr HL hg n7; replace B3 := B3.gr hg (by omega); replace B4 := B4.gr hg (by omega); replace B5 := B5.gr hg (by omega); replace hN2s := Nat.le_trans hN2s hg.size; clear hg
 refine tl_nil ?_
 replace B7 : Blk w b7 #[lv] 78 := B7
 replace hf := hf.kp [3, 4, 5, 7]
 repeat refine seq ?_
 refine regn0 ?_
 refine tl_alloc I120 hf (by decide) fun a b8 w e' hb8 hs8 B8 hf => ?_
 have hle8 := Nat.le_trans e.size (Nat.le_of_eq hb8.symm)
 have lo8_hN2s := Nat.le_trans hN2s (Nat.le_of_eq hb8.symm)
 have lt8_B3 := B3.lt
 have lt8_B4 := B4.lt
 have lt8_B5 := B5.lt
 have lt8_B7 := B7.lt
 replace hT := hT.ext e'
 replace HV := Dv.ex HV e'
 replace HL := Dv.ex HL e'
 replace hN2s := Nat.le_trans hN2s e'.size
 replace e := e.tr e'
 replace B3 := B3.ext e'
 replace B4 := B4.ext e'
 replace B5 := B5.ext e'
 replace B7 := B7.ext e'
 refine tl_nil ?_
 have n8 : N2 ≤ b8 ∧ b7 ≠ b8 := ⟨lo8_hN2s, by omega⟩
 replace hf := hf.kp [3, 4, 5, 7, 8]
 repeat refine seq ?_
 refine regn 1 hf (by decide +kernel) ?_
 refine st (makeF5 rfl rfl rfl rfl rfl) ?_
 refine en fun a w e' hf => ?_
 replace hT := hT.ext e'
 replace HV := Dv.ex HV e'
 replace HL := Dv.ex HL e'
 replace hN2s := Nat.le_trans hN2s e'.size
 replace e := e.tr e'
 replace B3 := B3.ext e'
 replace B4 := B4.ext e'
 replace B5 := B5.ext e'
 replace B7 := B7.ext e'
 replace B8 := B8.ext e'
 clear e'
 refine tl_st1 T120 hf rfl rfl rfl B8 Nat.zero_lt_one fun w hg hsz B8 hf => ?_
 replace e := e.gr hg (by omega); replace hT := hT.gr hg (by omega); replace HV := Dv.gr HV hg (.inr (by omega)); replace HL := Dv.gr HL hg n8.1; replace B3 := B3.gr hg (by omega); replace B4 := B4.gr hg (by omega); replace B5 := B5.gr hg (by omega); replace B7 := B7.gr hg (by omega); clear hg
 refine tl_nil ?_
 replace B8 : Blk w b8 #[cyF b5 b3 b4 b7 b8] 120 := B8
 have C : CyE Go.Mono.G0 n vo l S0 mq lv N0 b5 b3 b4 b7 b8 w := ⟨hT, Dv.weak HV fun b _ hb => hb.elim, by rw [← hlv0]; exact Dv.weak HL fun b _ hb => hb.elim, B5, B3, B4, B7, B8⟩
 clear hT HV HL B3 B5 B7 hN2s
 replace hf := hf.kp [3, 4, 5, 7, 8]
 have e4 := e
 repeat refine seq ?_
 refine regn 4 hf (by decide +kernel) ?_
 refine st (ld1 (v := cyF b5 b3 b4 b7 b8) T120 rfl B8 rfl) ?_
 refine st (ld1 (v := I (vo : Nat)) T3 rfl B4 rfl) ?_
 refine st (bsl1 (e := intE) (G := fun b => b < W.heap.size) Tryz.underlying26 I3 rfl (by decide) rfl (fun b hb => Nat.lt_of_lt_of_le hb e4.size) (isI rfl)) ?_
 refine st (callV1 (A := CyA (fun b => b < W.heap.size) (extF (lkS l) vo n n [vo])) (B := Dv (slE intE) (fun b => b < W.heap.size) [(vo : Int)]) En61 rfl rfl (fun u w he k => cyc1_spec hn n [vo] u (fun b => b < W.heap.size) w (fun b hb => Nat.lt_of_lt_of_le hb (Ext.tr e4 he).size) (C.ext he) k (by simp) (by simp; omega) (by simp) (fun y hy => by rw [List.mem_singleton.1 hy]; exact hvo))) ?_
 refine en fun a w e' hf => ?_
 replace C := C.ext e'
 replace e := e.tr e'
 replace B4 := B4.ext e'
 replace B8 := B8.ext e'
 refine tl_as hf rfl (by decide) fun a hf => ?_
 refine tl_nil ?_
 refine wret ?_
 try simp only [Exit.then, Exit.inBlock]
 refine ret1 rfl hf rfl ?_
 intro v hv
 exact ⟨_, rfl, e, hv⟩
def scL (nb : Int → BS) (V : BS) (n : Nat) : List Nat → BS → Option (List Nat)
 | [], _ => none
 | x :: r, left => match extF (nbWi nb (V &&& left)) x n n [x] with
  | some o => some o
  | none => scL nb V n r (del left (x : Int))
def delL (S : BS) (s : List Nat) : BS := s.foldl (fun (S : BS) (x : Nat) => del S (x : Int)) S
theorem delL_app (S : BS) (s : List Nat) (x : Nat) : delL S (s ++ [x]) = del (delL S s) (x : Int) := by rw [delL, List.foldl_append, List.foldl_cons, List.foldl_nil, delL]
def shcF (nb : Int → BS) (V : BS) (es : List (Nat × Nat)) : Option (List Nat) := if girF nb es = 0 then none else scL nb V (girF nb es).toNat (elems V) V
structure ScJ (W : World) (nm bm : Nat) (l : List (Int × BS)) (V : BS) (b2 b3 b4 b5 n : Nat) (r : Value) (left : BS) (w : World) : Prop where
 e : Ext W w
 t : Tab w
 m : MpR sKV w bm nm l
 p2 : Blk w b2 #[r] 26
 p3 : Blk w b3 (adC V (.map (some bm))) 80
 p4 : Blk w b4 #[I (n : Nat)] 3
 p5 : Blk w b5 (setC left) 39
theorem ScJ.kp {W : World} {nm bm : Nat} {l : List (Int × BS)} {V : BS} {b2 b3 b4 b5 n : Nat} {r : Value} {left : BS} {B : Nat} {w w' : World} (h : ScJ W nm bm l V b2 b3 b4 b5 n r left w) (k : Kp B w w') (hW : W.heap.size ≤ B) (h0 : 0 < B) (l2 : b2 < B) (l3 : b3 < B) (l4 : b4 < B) (l5 : b5 < B) (lm : bm < B) :
  ScJ W nm bm l V b2 b3 b4 b5 n r left w' :=
 have no : ∀ {b}, b < B → ¬Hole B b := fun h hh => by have := hh.1; omega
 ⟨h.e.kp k hW, h.t.kp k h0, h.m.pres (k.same bm h.m.lt (no lm)), h.p2.kp k (no l2), h.p3.kp k (no l3), h.p4.kp k (no l4), h.p5.kp k (no l5)⟩
def esN (g : GT) : List (Nat × Nat) := g.2.map fun x => (x.1.1.toNat, x.1.2.toNat)
theorem ed_nat {g : GT} (ok : Gr.Ok g) : ∀ x ∈ g.2, ∃ u v : Nat, x.1 = ((u : Int), (v : Int)) ∧ u < v ∧ (vset g.1).getLsbD u = true ∧ (vset g.1).getLsbD v = true := fun x hx => by
 obtain ⟨q1, q2, q3, _⟩ := ok.re x hx
 have h2 := q2
 have h3 := q3
 rw [inV, List.any_eq_true] at h2 h3
 obtain ⟨y, hy, e1⟩ := h2
 obtain ⟨z, hz, e2⟩ := h3
 have r1 := idOk_r (ok.rv y hy).1
 have r2 := idOk_r (ok.rv z hz).1
 rw [of_decide_eq_true e1] at r1
 rw [of_decide_eq_true e2] at r2
 obtain ⟨⟨p, q⟩, c⟩ := x
 dsimp only at q1 q2 q3 r1 r2 ⊢
 obtain ⟨u, rfl⟩ : ∃ u : Nat, p = u := ⟨p.toNat, by omega⟩
 obtain ⟨v, rfl⟩ : ∃ v : Nat, q = v := ⟨q.toNat, by omega⟩
 exact ⟨u, v, rfl, by omega, (inV_vset ok).2 q2, (inV_vset ok).2 q3⟩
theorem es_toI {g : GT} (ok : Gr.Ok g) : g.2.map (·.1) = (esN g).map toI := by
 rw [esN, List.map_map]
 refine List.map_congr_left fun x hx => ?_
 obtain ⟨u, v, he, _⟩ := ed_nat ok x hx
 rw [he, Function.comp, he]; rfl
theorem es_in {g : GT} (ok : Gr.Ok g) : ∀ e ∈ esN g, e.1 < e.2 ∧ (vset g.1).getLsbD e.1 = true ∧ (vset g.1).getLsbD e.2 = true := fun e he => by
 obtain ⟨x, hx, rfl⟩ := List.mem_map.1 he
 obtain ⟨u, v, he, h1, h2, h3⟩ := ed_nat ok x hx
 rw [he]; exact ⟨h1, h2, h3⟩
theorem es_adj {g : GT} (ok : Gr.Ok g) (i j : Nat) : Adj g i j ↔ (i, j) ∈ esN g ∨ (j, i) ∈ esN g := by
 constructor
 ·rintro ⟨x, hx, h | h⟩
  ·exact .inl (List.mem_map.2 ⟨x, hx, by rw [h]; rfl⟩)
  ·exact .inr (List.mem_map.2 ⟨x, hx, by rw [h]; rfl⟩)
 ·rintro (h | h)
  ·obtain ⟨x, hx, he⟩ := List.mem_map.1 h
   obtain ⟨u, v, h1, _⟩ := ed_nat ok x hx
   rw [h1] at he
   have : u = i ∧ v = j := by simpa using he
   exact ⟨x, hx, .inl (by rw [h1, this.1, this.2])⟩
  ·obtain ⟨x, hx, he⟩ := List.mem_map.1 h
   obtain ⟨u, v, h1, _⟩ := ed_nat ok x hx
   rw [h1] at he
   have : u = j ∧ v = i := by simpa using he
   exact ⟨x, hx, .inr (by rw [h1, this.1, this.2])⟩
theorem gst_hi (nb : Int → BS) (b : Int) (e : Nat × Nat) (h : 0 ≤ b) (h' : b ≤ 1026) : 0 ≤ gst nb b e ∧ gst nb b e ≤ 1026 := by
 have h1 := farF_lo (lvB (wo nb e.1 e.2) e.1) e.2
 have h2 := has_far (nb := wo nb e.1 e.2) (a := e.1) e.2
 rw [gst]
 split <;> omega
theorem girF_hi (nb : Int → BS) (es : List (Nat × Nat)) : 0 ≤ girF nb es ∧ girF nb es ≤ 1026 := by
 have key : ∀ k, k ≤ es.length → 0 ≤ girF nb (es.take k) ∧ girF nb (es.take k) ≤ 1026 := by
  intro k
  induction k with
  | zero => intro _; rw [List.take_zero, girF, List.foldl_nil]; decide
  | succ k ih =>
   intro hk
   have h1 := ih (by omega)
   have h2 : es.take (k + 1) = es.take k ++ [es[k]] := take_succ_get (List.getElem?_eq_getElem (by omega))
   rw [h2, girF_app]
   exact gst_hi nb _ _ h1.1 h1.2
 have := key es.length (Nat.le_refl _)
 rwa [List.take_length] at this
end Go.Mono

namespace Go.Mono
open Go Go.Proofs Go.RowKit Go.Gr
theorem CyA_weak {G G' : Nat → Prop} {o : Option (List Nat)} {v : Value} {w : World} (hG : ∀ b, G' b → G b) (h : (CyA G o).p v w) : (CyA G' o).p v w := by
 cases o with
 | none => exact h
 | some out => exact ⟨h.1, Dv.weak h.2 fun b _ hb => hG b hb⟩
theorem scyc_spec {G : Nat → Prop} {N : Nat} (g : GT) (ok : Gr.Ok g) (v : Value) (W : World) (hT : Tab W) (h : (Dv (ptE (grE N)) G (some g)).p v W) (hl1 : g.1.length ≤ 100000) (hl2 : g.2.length ≤ 100000) (hN : N ≤ 1000000) :
  Calls Tryz.prog 11 #[v] W (Post (CyA Go.Mono.G0 (shcF (nbA g) (vset g.1) (esN g))) W) := by
 have hgd : (Dv (ptE (grE N)) Go.Mono.G0 (some g)).p v W := Dv.weak h fun b _ hb => hb.elim
 clear h
 have gs1 := ok.sv
 have gs2 := ok.se
 obtain ⟨l, hl⟩ : ∃ l, l = nbL g (elems (vset g.1)) := ⟨_, rfl⟩
 obtain ⟨V, hV⟩ : ∃ V, V = vset g.1 := ⟨_, rfl⟩
 obtain ⟨es, hes⟩ : ∃ es, es = esN g := ⟨_, rfl⟩
 have hnb : nbA g = lkS l := by rw [hl, nbA]
 have hti := es_toI ok
 have hin := es_in ok
 rw [hnb, ← hV, ← hes]
 rw [← hes] at hti hin
 rw [← hV] at hin
 have hel : es.length ≤ 100000 := by rw [hes, esN, List.length_map]; exact hl2
 have hmem : ∀ e ∈ es, e.1 < 1024 ∧ e.2 < 1024 ∧ e.1 ≠ e.2 ∧ ((e.1 : Int), lkS l (e.1 : Int)) ∈ l := fun e he => by
  obtain ⟨h1, h2, h3⟩ := hin e he
  refine ⟨bit_lt h2, bit_lt h3, by omega, ?_⟩
  have h4 : ((e.1 : Int), nbG g.2 (e.1 : Int)) ∈ l := by
   rw [hl, nbL]
   exact List.mem_map.2 ⟨e.1, mem_elems.2 ⟨bit_lt h2, by rw [← hV]; exact h2⟩, rfl⟩
  have h5 : lkS l (e.1 : Int) = nbG g.2 (e.1 : Int) := by
   rw [hl, nbL, lkS_map (fun n => nbG g.2 (n : Int)), if_pos (mem_elems.2 ⟨bit_lt h2, by rw [← hV]; exact h2⟩)]
  rw [h5]; exact h4
 have hgi := girF_hi (lkS l) es
 have hT0 := hT.lt
 refine enterM (args := [v]) (As := [E v]) Tryz.func11 rfl Tryz.ntmps11 (Nat.le_of_ble_eq_true rfl) ?_ (fun a hf => ?_) (Nat.le_of_ble_eq_true rfl)
 ·exact arg1 rfl
 dsimp only [params, Nat.reduceAdd] at hf
 have e := Ext.rfl' W
 repeat refine seq ?_
 refine regn0 ?_
 refine tl_alloc I26 hf (by decide) fun a b2 w e' hb2 hs2 B2 hf => ?_
 have hle2 := Nat.le_trans e.size (Nat.le_of_eq hb2.symm)
 replace hT := hT.ext e'
 replace e := e.tr e'
 refine tl_nil ?_
 replace B2 : Blk w b2 #[.slice none 0 0] 26 := B2
 have n2 : W.heap.size ≤ b2 := hle2
 repeat refine seq ?_
 refine regn 2 hf (by decide +kernel) ?_
 refine st (mv rfl) ?_
 refine st (eqlP Tryz.underlying27 (isE rfl (VA.st _ _ _ _ e hgd))) ?_
 refine en fun a w e' hf => ?_
 replace hT := hT.ext e'
 replace e := e.tr e'
 replace B2 := B2.ext e'
 refine tl_nil ?_
 repeat refine seq ?_
 refine ifc hf rfl (fun h => by cases h) (fun _ => ?_)
 refine wskip ?_
 try simp only [Exit.then, Exit.inBlock, ↓reduceIte]
 replace hf := hf.kp [0, 2]
 have e0 := e
 repeat refine seq ?_
 refine regn 2 hf (by decide +kernel) ?_
 refine st (mv rfl) ?_
 refine st (call1 (A := AdjA l V 1024) En29 rfl (fun v w he k => by cases k; rw [hl, hV]; exact (of07_spec g _ w (hT.ext he) (VA.st _ _ _ _ (Ext.tr e0 he) hgd) gs1 gs2 hl1 hl2 hN).mono fun en w' ⟨k1, mq, k2, k3⟩ => ⟨_, k2, k1, mq, rfl, k3⟩)) ?_
 refine en fun a w e' hf => ?_
 replace hT := hT.ext e'
 replace e := e.tr e'
 replace B2 := B2.ext e'
 clear e'
 obtain ⟨av, ⟨mq, rfl, HV0⟩, hf⟩ := hf.opn 12 rfl
 obtain ⟨cs, ⟨bm0, nm0, rfl, _, hnm0, HM0⟩, hmq⟩ := HV0
 replace hmq : mq = .map (some bm0) := hmq
 subst hmq
 obtain ⟨N1, hN1⟩ : ∃ N1, N1 = w.heap.size := ⟨_, rfl⟩
 have hN1s : N1 ≤ w.heap.size := Nat.le_of_eq hN1
 have hbm0 : bm0 < N1 := by rw [hN1]; exact HM0.lt
 have hb2N : b2 < N1 := by rw [hN1]; exact B2.lt
 have hWN1 : W.heap.size ≤ N1 := by rw [hN1]; exact e.size
 clear hN1 e0
 replace hf := hf.kp [0, 2, 12]
 have nm2 : bm0 ≠ b2 := HM0.neB B2
 refine tl_alloc I80 hf (by decide) fun a b3 w e' hb3 hs3 B3 hf => ?_
 have hle3 := Nat.le_trans e.size (Nat.le_of_eq hb3.symm)
 have lo3_hN1s := Nat.le_trans hN1s (Nat.le_of_eq hb3.symm)
 have lt3_B2 := B2.lt
 replace hT := hT.ext e'
 replace HM0 := HM0.ext e'
 replace hN1s := Nat.le_trans hN1s e'.size
 replace e := e.tr e'
 replace B2 := B2.ext e'
 clear e'
 have n3 : N1 ≤ b3 := lo3_hN1s
 refine tl_stW T80 hf rfl rfl (adC_one _ _) B3 rfl (adC_size _ _) fun w hg hsz B3 hf => ?_
 replace e := e.gr hg (by omega); replace hT := hT.gr hg (by omega); replace HM0 := HM0.gr hg (fun h => by cases h; omega); replace B2 := B2.gr hg (by omega); replace hN1s := Nat.le_trans hN1s hg.size; clear hg
 refine tl_nil ?_
 replace hf := hf.kp [0, 2, 3]
 have e4 := e
 have hN4 := hN1s
 have l3' := B3.lt
 have l2' := B2.lt
 have hdv := HM0.dvE hnm0 (G := Go.Mono.G0) (fun h => h)
 obtain ⟨n, hn⟩ : ∃ n : Nat, girF (lkS l) es = (n : Int) := ⟨(girF (lkS l) es).toNat, by omega⟩
 have hn2 : n ≤ 1026 := by omega
 repeat refine seq ?_
 refine reg 5 Mix.mix hf (by decide +kernel) ?_
 refine st (ldW T80 rfl B3 (adC_size _ _)) ?_
 refine st (mv rfl) ?_
 refine st (call1 (A := Dv (slE edE) Go.Mono.G0 (es.map toI)) (B := E v) En35 rfl (fun u w he k => by cases k; rw [← hti]; exact (ends_spec g v w (VA.st _ _ _ _ (Ext.tr e4 he) hgd) gs2 hl2 hN).mono fun en w' ⟨u, k1, k2, k3⟩ => ⟨u, k1, k2, OwR.sl k3⟩)) ?_
 refine st (call2 (A := E (I (n : Nat))) (B := E (.agg (adC V (.map (some bm0))))) (C := Dv (slE edE) Go.Mono.G0 (es.map toI)) En34 rfl rfl (fun a b w he k1 k2 => by cases k1; rw [← hn]; exact girth_spec l V es (.map (some bm0)) b w (hT.ext he) (Dv.ex hdv he) (by omega) hel k2 hmem)) ?_
 refine st (alD I3) ?_
 refine en fun a w e' hf => ?_
 replace hT := hT.ext e'
 replace HM0 := HM0.ext e'
 replace hN1s := Nat.le_trans hN1s e'.size
 replace e := e.tr e'
 replace B2 := B2.ext e'
 replace B3 := B3.ext e'
 clear e'
 clear hdv e4
 obtain ⟨v4, ⟨b4, h4, rfl, B4⟩, hf⟩ := hf.fix 4 rfl
 have n4 : N1 ≤ b4 ∧ b3 ≠ b4 ∧ b2 ≠ b4 := ⟨Nat.le_trans hN4 h4, by omega, by omega⟩
 clear h4
 replace hf := hf.kp [2, 3, 4, 16]
 refine tl_st1 T3 hf rfl rfl rfl B4 Nat.zero_lt_one fun w hg hsz B4 hf => ?_
 replace e := e.gr hg (by omega); replace hT := hT.gr hg (by omega); replace HM0 := HM0.gr hg (fun h => by cases h; omega); replace B2 := B2.gr hg (by omega); replace B3 := B3.gr hg (by omega); replace hN1s := Nat.le_trans hN1s hg.size; clear hg
 refine tl_nil ?_
 replace B4 : Blk w b4 #[I (n : Nat)] 3 := B4
 replace hf := hf.kp [2, 3, 4]
 by_cases hn0 : n = 0
 ·rw [shcF, if_pos (show girF (lkS l) es = 0 by rw [hn, hn0]; rfl)]
  repeat refine seq ?_
  refine regn 2 hf (by decide +kernel) ?_
  refine st (ld1 (v := I (n : Nat)) T3 rfl B4 rfl) ?_
  refine st ((eql rfl rfl).eq (congrArg Value.bool (show ((n : Int) == 0) = true by rw [hn0]; rfl))) ?_
  refine en fun a w e' hf => ?_
  replace hT := hT.ext e'
  replace HM0 := HM0.ext e'
  replace hN1s := Nat.le_trans hN1s e'.size
  replace e := e.tr e'
  replace B2 := B2.ext e'
  replace B3 := B3.ext e'
  replace B4 := B4.ext e'
  refine tl_nil ?_
  repeat refine seq ?_
  refine ifc hf rfl (fun _ => ?_) (fun h => by cases h)
  replace hf := hf.kp [2]
  repeat refine seq ?_
  refine regn0 ?_
  refine tl_st1 T26 hf rfl rfl rfl B2 Nat.zero_lt_one fun w hg hsz B2 hf => ?_
  replace e := e.gr hg (by omega); clear hg
  refine tl_nil ?_
  refine wret ?_
  try simp only [Exit.then, Exit.inBlock]
  exact retc1M (D := []) rfl T26 hf rfl B2 (Ds.nil _) ⟨_, rfl, e, rfl⟩
 have hnz : ((n : Int) == 0) = false := beq_eq_false_iff_ne.2 (by omega)
 have hgz : ¬girF (lkS l) es = 0 := by omega
 rw [shcF, if_neg hgz, hn, Int.toNat_natCast]
 repeat refine seq ?_
 refine regn 2 hf (by decide +kernel) ?_
 refine st (ld1 (v := I (n : Nat)) T3 rfl B4 rfl) ?_
 refine st ((eql rfl rfl).eq (congrArg Value.bool (hnz))) ?_
 refine en fun a w e' hf => ?_
 replace hT := hT.ext e'
 replace HM0 := HM0.ext e'
 replace hN1s := Nat.le_trans hN1s e'.size
 replace e := e.tr e'
 replace B2 := B2.ext e'
 replace B3 := B3.ext e'
 replace B4 := B4.ext e'
 refine tl_nil ?_
 repeat refine seq ?_
 refine ifc hf rfl (fun h => by cases h) (fun _ => ?_)
 refine wskip ?_
 try simp only [Exit.then, Exit.inBlock, ↓reduceIte]
 replace hf := hf.kp [2, 3, 4]
 repeat refine seq ?_
 refine regn0 ?_
 refine tl_op hf (by decide) (fldA Tryz.underlying80 rfl T39 (by decide) rfl) fun a w e' hf => ?_
 replace hT := hT.ext e'
 replace HM0 := HM0.ext e'
 replace hN1s := Nat.le_trans hN1s e'.size
 replace e := e.tr e'
 replace B2 := B2.ext e'
 replace B3 := B3.ext e'
 replace B4 := B4.ext e'
 clear e'
 refine tl_op hf (by decide) ((ldP T39 rfl B3 (by rw [adC_size]; decide)).eq (congrArg Value.agg (adC_set V (.map (some bm0))))) fun a w e' hf => ?_
 replace hT := hT.ext e'
 replace HM0 := HM0.ext e'
 replace hN1s := Nat.le_trans hN1s e'.size
 replace e := e.tr e'
 replace B2 := B2.ext e'
 replace B3 := B3.ext e'
 replace B4 := B4.ext e'
 clear e'
 refine tl_alloc I39 hf (by decide) fun a b5 w e' hb5 hs5 B5 hf => ?_
 have hle5 := Nat.le_trans e.size (Nat.le_of_eq hb5.symm)
 have lo5_hN1s := Nat.le_trans hN1s (Nat.le_of_eq hb5.symm)
 have lt5_B2 := B2.lt
 have lt5_B3 := B3.lt
 have lt5_B4 := B4.lt
 replace hT := hT.ext e'
 replace HM0 := HM0.ext e'
 replace hN1s := Nat.le_trans hN1s e'.size
 replace e := e.tr e'
 replace B2 := B2.ext e'
 replace B3 := B3.ext e'
 replace B4 := B4.ext e'
 clear e'
 have n5 : N1 ≤ b5 ∧ b3 ≠ b5 ∧ b4 ≠ b5 := ⟨lo5_hN1s, by omega⟩
 refine tl_stW T39 hf rfl rfl (wordsC_one _) B5 rfl (setC_size _) fun w hg hsz B5 hf => ?_
 replace e := e.gr hg (by omega); replace hT := hT.gr hg (by omega); replace HM0 := HM0.gr hg (fun h => by cases h; omega); replace B2 := B2.gr hg (by omega); replace B3 := B3.gr hg (by omega); replace B4 := B4.gr hg (by omega); replace hN1s := Nat.le_trans hN1s hg.size; clear hg
 refine tl_nil ?_
 replace hf := hf.kp [2, 3, 4, 5]
 obtain ⟨Nz, hNz⟩ : ∃ Nz, Nz = w.heap.size := ⟨_, rfl⟩
 repeat refine seq ?_
 refine regn 3 hf (by decide +kernel) ?_
 refine st (fldA Tryz.underlying80 rfl T39 (by decide) rfl) ?_
 refine st ((ldP T39 rfl B3 (by rw [adC_size]; decide)).eq (congrArg Value.agg (adC_set V (.map (some bm0))))) ?_
 refine st (call1 (A := SeqA Nz V) En25 rfl (fun v w' he h => by cases h; exact Calls.mono (all_spec _ w') (fun en w2 ⟨u, h1, h2, b', h3, h4, h5⟩ => ⟨u, h1, h2, b', by have := he.size; omega, h4, h5⟩))) ?_
 refine en fun a w e' hf => ?_
 replace hT := hT.ext e'
 replace HM0 := HM0.ext e'
 replace hN1s := Nat.le_trans hN1s e'.size
 replace e := e.tr e'
 replace B2 := B2.ext e'
 replace B3 := B3.ext e'
 replace B4 := B4.ext e'
 replace B5 := B5.ext e'
 refine tl_nil ?_
 obtain ⟨vv, ⟨b23, h23, rfl, BS⟩, hf⟩ := hf.fix 23 rfl
 replace hf := hf.kp [2, 3, 4, 5, 23]
 obtain ⟨nb, hnb'⟩ : ∃ nb, nb = lkS l := ⟨_, rfl⟩
 rw [← hnb']
 have hBW : W.heap.size ≤ w.heap.size := e.size
 have h0w : 0 < w.heap.size := hT.lt
 have l2 := B2.lt
 have l3 := B3.lt
 have l4 := B4.lt
 have l5 := B5.lt
 have lm := HM0.lt
 clear hNz
 repeat refine seq ?_
 refine blk ?_
 refine range_all3 (S := V) hf rfl BS (by decide) (fun s w1 => ScJ W nm0 bm0 l V b2 b3 b4 b5 n (.slice none 0 0) (delL V s) w1 ∧ (∀ rest, elems V = s ++ rest → scL nb V n (elems V) V = scL nb V n rest (delL V s)))
  (fun ex w1 => ex = .ret ∧ ∃ r out left, ScJ W nm0 bm0 l V b2 b3 b4 b5 n r left w1 ∧ scL nb V n (elems V) V = some out ∧ out ≠ [] ∧ (Dv (slE intE) (fun b => b < w.heap.size + 3) (natE out)).p r w1) (fun s w1 h => h.1.t)
  ⟨⟨e, hT, HM0, B2, B3, B4, B5⟩, fun rest hr => by rw [List.nil_append] at hr; rw [← hr]; rfl⟩ (fun s w1 w2 h hs k => ⟨h.1.kp k hBW h0w l2 l3 l4 l5 lm, h.2⟩)
  (fun ex w1 w2 ⟨q1, r, out, left, q2, q3, q4, q5⟩ hs k => ⟨q1, r, out, left, q2.kp k hBW h0w l2 l3 l4 l5 lm, q3, q4, Dv.ch q5 k.chg fun b hb => hb.2⟩) ?_ ?_ ?_
 ·intro lp s x rest a1 w1 hs hJ hlw hf
  have hxV : V.getLsbD x = true := (mem_elems.1 (by rw [hs]; simp)).2
  have hx1024 : x < 1024 := bit_lt hxV
  generalize hBz : w.heap.size = Bz at *
  refine regn0 ?_
  refine tl_as hf rfl (by decide) fun a hf => ?_
  refine tl_nil ?_
  simp only [Exit.then]
  refine ⟨Kh.rfl' _ _, fun w3 k3 hsz3 => ?_⟩
  have hJ3 := hJ.1.kp k3 hBW h0w l2 l3 l4 l5 lm
  have hJs := hJ.2
  have hw3 : Bz + 3 ≤ w3.heap.size := by omega
  clear e hT HM0 B2 B3 B4 B5 BS hJ hN1s
  replace hf := hf.pure w3
  obtain ⟨e, hT, HM0, B2, B3, B4, B5⟩ := hJ3
  have kh := Kh.rfl' Bz w3
  obtain ⟨left, hleft⟩ : ∃ left, left = delL V s := ⟨_, rfl⟩
  have hdl : delL V (s ++ [x]) = del left (x : Int) := by rw [delL_app, hleft]
  have hsc := hJs (x :: rest) hs
  rw [← hleft] at B5 hsc
  rw [scL] at hsc
  obtain ⟨o, ho⟩ : ∃ o, o = extF (nbWi nb (V &&& left)) x n n [x] := ⟨_, rfl⟩
  rw [← ho] at hsc
  have hwi := lk_wi l (V &&& left)
  rw [← hnb'] at hwi
  have hdv := HM0.dvE hnm0 (G := Go.Mono.G0) (fun h => h)
  replace hf := hf.kp [2, 3, 4, 5, 6]
  repeat refine seq ?_
  refine blk ?_
  have e10 := e
  repeat refine seq ?_
  refine regn 3 hf (by decide +kernel) ?_
  refine st (ldW T80 rfl B3 (adC_size _ _)) ?_
  refine st ((ldW T39 rfl B5 rfl).eq ((rfl : _ = setV left))) ?_
  refine st (call2 (A := AdjA (wiL l (V &&& left)) (V &&& left) 1024) (B := E (.agg (adC V (.map (some bm0))))) (C := E (setV left)) En36 rfl rfl (fun a b w he k1 k2 => by cases k1; cases k2; exact within_spec l V left (.map (some bm0)) w (hT.ext he) (Dv.ex hdv he))) ?_
  refine en fun a w e' hf => ?_
  replace hT := hT.ext e'
  replace HM0 := HM0.ext e'
  replace kh := kh.tr (Kh.ext e')
  replace hw3 := Nat.le_trans hw3 e'.size
  replace e := e.tr e'
  replace B2 := B2.ext e'
  replace B3 := B3.ext e'
  replace B4 := B4.ext e'
  replace B5 := B5.ext e'
  clear e'
  clear hdv
  obtain ⟨av, ⟨mq7, rfl, HV7⟩, hf⟩ := hf.opn 27 rfl
  obtain ⟨cs7, ⟨bm7, nm7, rfl, _, hnm7, HM7⟩, hmq7⟩ := HV7
  replace hmq7 : mq7 = .map (some bm7) := hmq7
  subst hmq7
  have hbn7 : bm7 ≠ b5 := HM7.neB B5
  replace hf := hf.kp [2, 3, 4, 5, 6, 27]
  obtain ⟨N7, hN7⟩ : ∃ N7, N7 = w.heap.size := ⟨_, rfl⟩
  have hN7s : N7 ≤ w.heap.size := Nat.le_of_eq hN7
  have hl7 : b2 < N7 ∧ b3 < N7 ∧ b4 < N7 ∧ b5 < N7 ∧ bm0 < N7 ∧ bm7 < N7 ∧ Bz + 3 ≤ N7 := by have := HM7.lt; omega
  clear hN7
  refine tl_alloc I80 hf (by decide) fun a b7 w e' hb7 hs7 B7 hf => ?_
  have hle7 := Nat.le_trans e.size (Nat.le_of_eq hb7.symm)
  have lo7_hN7s := Nat.le_trans hN7s (Nat.le_of_eq hb7.symm)
  have lt7_B2 := B2.lt
  have lt7_B3 := B3.lt
  have lt7_B4 := B4.lt
  have lt7_B5 := B5.lt
  replace hT := hT.ext e'
  replace HM0 := HM0.ext e'
  replace HM7 := HM7.ext e'
  replace kh := kh.tr (Kh.ext e')
  replace hN7s := Nat.le_trans hN7s e'.size
  replace e := e.tr e'
  replace B2 := B2.ext e'
  replace B3 := B3.ext e'
  replace B4 := B4.ext e'
  replace B5 := B5.ext e'
  clear e'
  have n7 : N7 ≤ b7 := lo7_hN7s
  refine tl_stW T80 hf rfl rfl (adC_one _ _) B7 rfl (adC_size _ _) fun w hg hsz B7 hf => ?_
  replace e := e.gr hg (by omega); replace hT := hT.gr hg (by omega); replace HM0 := HM0.gr hg (fun h => by cases h; omega); replace HM7 := HM7.gr hg (fun h => by cases h; omega); replace B2 := B2.gr hg (by omega); replace B3 := B3.gr hg (by omega); replace B4 := B4.gr hg (by omega); replace B5 := B5.gr hg (by omega); replace kh := kh.tr (Kh.gr hg (fun hh => by have := hh.2; omega)); clear hg hN7s
  refine tl_nil ?_
  replace hf := hf.kp [2, 3, 4, 5, 6, 7]
  repeat refine seq ?_
  refine regn 3 hf (by decide +kernel) ?_
  refine st ((ldW T39 rfl B5 rfl).eq ((rfl : _ = setV left))) ?_
  refine st (mv rfl) ?_
  refine st (call2 (A := E (setV (del left (x : Int)))) (B := E (setV left)) (C := E (I (x : Nat))) En37 rfl rfl (fun v u w he h h' => by cases h; cases h'; exact without_spec _ _ w)) ?_
  refine en fun a w e' hf => ?_
  replace hT := hT.ext e'
  replace HM0 := HM0.ext e'
  replace HM7 := HM7.ext e'
  replace kh := kh.tr (Kh.ext e')
  replace e := e.tr e'
  replace B2 := B2.ext e'
  replace B3 := B3.ext e'
  replace B4 := B4.ext e'
  replace B5 := B5.ext e'
  replace B7 := B7.ext e'
  clear e'
  refine tl_stW T39 hf rfl rfl (wordsC_one _) B5 (setC_size _) (setC_size _) fun w hg hsz B5 hf => ?_
  replace e := e.gr hg (by omega); replace hT := hT.gr hg (by omega); replace HM0 := HM0.gr hg (fun h => by cases h; omega); replace HM7 := HM7.gr hg (fun h => by cases h; omega); replace B2 := B2.gr hg (by omega); replace B3 := B3.gr hg (by omega); replace B4 := B4.gr hg (by omega); replace B7 := B7.gr hg (by omega); replace kh := kh.tr (Kh.gr hg (fun hh => by have := hh.1; omega)); clear hg
  refine tl_nil ?_
  replace hf := hf.kp [2, 3, 4, 5, 6, 7]
  obtain ⟨S7, hS7⟩ : ∃ S7, S7 = V &&& left := ⟨_, rfl⟩
  rw [← hS7] at B7 HM7 hwi ho
  obtain ⟨N8, hN8⟩ : ∃ N8, N8 = w.heap.size := ⟨_, rfl⟩
  have hN8s : N8 ≤ w.heap.size := Nat.le_of_eq hN8
  have hN8b : Bz + 3 ≤ N8 := by have := kh.size; omega
  have hdv7 := HM7.dvE hnm7 (G := Go.Mono.G0) (fun h => h)
  repeat refine seq ?_
  refine regn 4 hf (by decide +kernel) ?_
  refine st (ldW T80 rfl B7 (adC_size _ _)) ?_
  refine st (mv rfl) ?_
  refine st (ld1 (v := I (n : Nat)) T3 rfl B4 rfl) ?_
  refine st (call3 (A := CyA (fun b => b < N8) o) (B := E (.agg (adC S7 (.map (some bm7))))) (C := E (I (x : Nat))) (D := E (I (n : Nat))) En38 rfl rfl rfl (fun a b c w he k1 k2 k3 => by cases k1; cases k2; cases k3; rw [ho, ← hwi]; exact (cycle_spec (wiL l S7) S7 (.map (some bm7)) x n w (hT.ext he) (Dv.ex hdv7 he) hx1024 (by omega) (by omega)).mono fun en w' ⟨z, q1, q2, q3⟩ => ⟨z, q1, q2, CyA_weak (fun b hb => Nat.lt_of_lt_of_le hb (Nat.le_trans hN8s he.size)) q3⟩)) ?_
  refine en fun a w e' hf => ?_
  replace hT := hT.ext e'
  replace HM0 := HM0.ext e'
  replace kh := kh.tr (Kh.ext e')
  replace e := e.tr e'
  replace B2 := B2.ext e'
  replace B3 := B3.ext e'
  replace B4 := B4.ext e'
  replace B5 := B5.ext e'
  refine tl_as hf rfl (by decide) fun a hf => ?_
  refine tl_nil ?_
  clear hdv7 HM7 B7
  obtain ⟨r, hr, hf⟩ := hf.opn 8 rfl
  replace hf := hf.kp [2, 3, 4, 5, 6, 8]
  cases o with
  | none =>
   obtain rfl : r = .slice none 0 0 := hr
   repeat refine seq ?_
   refine regn 2 hf (by decide +kernel) ?_
   refine st (mv rfl) ?_
   refine st (neqNil Tryz.underlying26 rfl) ?_
   refine en fun a w e' hf => ?_
   replace hT := hT.ext e'
   replace HM0 := HM0.ext e'
   replace kh := kh.tr (Kh.ext e')
   replace e := e.tr e'
   replace B2 := B2.ext e'
   replace B3 := B3.ext e'
   replace B4 := B4.ext e'
   replace B5 := B5.ext e'
   refine tl_nil ?_
   repeat refine seq ?_
   refine ifc hf rfl (fun h => by cases h) (fun _ => ?_)
   refine wskip ?_
   try simp only [Exit.then, Exit.inBlock, ↓reduceIte]
   exact ⟨⟨⟨e, hT, HM0, B2, B3, B4, by rw [hdl]; exact B5⟩, fun rest' hr' => by
    have : rest' = rest := by rw [hs, List.append_assoc] at hr'; simpa using hr'.symm
    rw [this, hdl]; exact hsc⟩, kh⟩
  | some out =>
   obtain ⟨hr1, hr2⟩ := hr
   have hro : r.oneCell' = true := Dv.slOne hr2
   have hne2 : natE out ≠ [] := fun h => hr1 (by rw [natE] at h; exact List.map_eq_nil_iff.1 h)
   obtain ⟨ad, n', c', hre⟩ := slSome hr2 hne2
   have HR : (Dv (slE intE) (fun b => b < Bz + 3) (natE out)).p r w := Dv.weak hr2 fun b _ hb => by omega
   clear hr2
   subst hre
   repeat refine seq ?_
   refine regn 2 hf (by decide +kernel) ?_
   refine st (mv rfl) ?_
   refine st (neqNil Tryz.underlying26 rfl) ?_
   refine en fun a w e' hf => ?_
   replace hT := hT.ext e'
   replace HM0 := HM0.ext e'
   replace kh := kh.tr (Kh.ext e')
   replace HR := Dv.ex HR e'
   replace e := e.tr e'
   replace B2 := B2.ext e'
   replace B3 := B3.ext e'
   replace B4 := B4.ext e'
   replace B5 := B5.ext e'
   refine tl_nil ?_
   repeat refine seq ?_
   refine ifc hf rfl (fun _ => ?_) (fun h => by cases h)
   repeat refine seq ?_
   refine regn 1 hf (by decide +kernel) ?_
   refine st (mv rfl) ?_
   refine en fun a w e' hf => ?_
   replace hT := hT.ext e'
   replace HM0 := HM0.ext e'
   replace kh := kh.tr (Kh.ext e')
   replace HR := Dv.ex HR e'
   replace e := e.tr e'
   replace B2 := B2.ext e'
   replace B3 := B3.ext e'
   replace B4 := B4.ext e'
   replace B5 := B5.ext e'
   clear e'
   refine tl_st1 T26 hf rfl rfl hro B2 Nat.zero_lt_one fun w hg hsz B2 hf => ?_
   replace e := e.gr hg (by omega); replace hT := hT.gr hg (by omega); replace HM0 := HM0.gr hg (fun h => by cases h; omega); replace B3 := B3.gr hg (by omega); replace B4 := B4.gr hg (by omega); replace B5 := B5.gr hg (by omega); replace HR := Dv.gr HR hg (by omega); replace kh := kh.tr (Kh.gr hg (fun hh => by have := hh.1; omega)); clear hg
   refine tl_nil ?_
   refine wret ?_
   simp only [Exit.then, Exit.inBlock]
   exact ⟨⟨rfl, _, out, _, ⟨e, hT, HM0, B2, B3, B4, B5⟩, hsc, hr1, HR⟩, kh⟩
 ·intro a' w' hf' hJ hsz hDn
  simp only [Exit.inBlock, ↓reduceIte, Exit.then]
  have hfs := hJ.2 [] (by rw [List.append_nil])
  rw [hfs, scL]
  have hD : Ds [w.heap.size] w' := (Ds.nil w').cons hDn (by simp)
  have hf : FrD 38 (marks [w.heap.size]) a' w' [(2, E (ptr b2))] := hf'.keep [2]
  have hDW : ∀ d ∈ [w.heap.size], W.heap.size ≤ d := fun d hd => by rw [List.mem_singleton] at hd; omega
  clear hf' e hT HM0 B2 B3 B4 B5 BS hDn hN1s
  obtain ⟨e, hT, HM0, B2, B3, B4, B5⟩ := hJ.1
  have hb2 := hD.ne B2
  generalize [w.heap.size] = D2 at *
  generalize w' = w at *
  repeat refine seq ?_
  refine regn0 ?_
  refine tl_st1 T26 hf rfl rfl rfl B2 Nat.zero_lt_one fun w hg hsz B2 hf => ?_
  replace e := e.gr hg (by omega)
  replace hD := hD.gr hg hb2
  clear hg
  refine tl_nil ?_
  refine wret ?_
  try simp only [Exit.then, Exit.inBlock]
  exact retc1M rfl T26 hf rfl B2 hD ⟨_, rfl, e.shut hDW, rfl⟩
 ·intro ex c a' w' hcd hf' hX hsz hDn
  obtain ⟨rfl, r, out, left, hJ, hfs, hr1, HR⟩ := hX
  simp only [Exit.inBlock, ↓reduceIte, Exit.then]
  rw [hfs]
  have hD : Ds [w.heap.size] w' := (Ds.nil w').cons hDn (by simp)
  have hf : FrD 38 (marks [w.heap.size]) a' w' [(2, E (ptr b2))] := hf'.keep [2]
  have hDW : ∀ d ∈ [w.heap.size], W.heap.size ≤ d := fun d hd => by rw [List.mem_singleton] at hd; omega
  refine retc1M rfl T26 hf rfl hJ.p2 hD ⟨_, rfl, hJ.e.shut hDW, hr1, ?_⟩
  exact Dv.weak (Dv.ch HR (chg_shut _ _) fun b hb => by rw [List.mem_singleton] at hb; show b < _; omega) fun b _ hb => hb.elim
end Go.Mono

namespace Go.Mono
open Go Go.Proofs Go.RowKit Go.Gr
def eD (u v : Int) : DT := (2, u, v, 0, 0)
theorem wrongE (g : GT) (u v : Int) : wrongM g (eD u v) = 0 ↔ (idOk u = true ∧ idOk v = true ∧ u ≠ v ∧ inV g.1 u = true ∧ inV g.1 v = true ∧ inE g.2 u v = false ∧ g.2.length < 1024) := by
 have h1 : decide ((1024 : Int) ≤ (g.2.length : Nat)) = true ↔ ¬g.2.length < 1024 := by rw [decide_eq_true_eq]; omega
 unfold wrongM tests eD
 simp only [firstOf, Gr.pairs, Gr.weighs, Gr.heavy]
 generalize hq : decide ((1024 : Int) ≤ (g.2.length : Nat)) = q at h1
 by_cases huv : u = v
 ·subst huv
  cases idOk u <;> simp
 ·have h2 : (u == v) = false := beq_eq_false_iff_ne.2 huv
  cases idOk u <;> cases idOk v <;> cases inV g.1 u <;> cases inV g.1 v <;> cases inE g.2 u v <;> cases q <;> simp_all
def apS (g : GT) (u v : Int) : GT := if wrongM g (eD u v) = 0 then (g.1, insE g.2 (ends u v, (0, 0))) else g
theorem apS_V (g : GT) (u v : Int) : (apS g u v).1 = g.1 := by rw [apS]; split <;> rfl
theorem apS_len (g : GT) (u v : Int) : (apS g u v).2.length ≤ g.2.length + 1 := by
 rw [apS]
 split
 ·show (insE g.2 _).length ≤ _
  rw [insE, insW_len]; exact Nat.le_refl _
 ·exact Nat.le_succ _
theorem inE_no {l : List ET} {u v : Int} (h : inE l u v = false) : ∀ y ∈ l, y.1 ≠ ends u v := fun y hy he => by
 rw [inE, List.any_eq_false] at h
 exact h y hy (by rw [he]; exact decide_eq_true rfl)
theorem apS_ok {g : GT} (G : Gr.Ok g) (u v : Int) : Gr.Ok (apS g u v) := by
 rw [apS]
 split
 ·rename_i h
  obtain ⟨h1, h2, h3, h4, h5, h6, h7⟩ := (wrongE g u v).1 h
  have hnot := inE_no h6
  have hp := insW_perm (fun y : ET => lt2 (ends u v) y.1) (ends u v, ((0 : Int), (0 : Int))) g.2
  refine ⟨G.sv, insW_sorted (γ := ET) (κ := Int × Int) (lt := lt2) (fun y => y.1) (fun h k => lt2_tr h k) (fun h k => lt2_tot h k) (x := (ends u v, ((0 : Int), (0 : Int)))) G.se fun y hy => (hnot y hy).symm, G.rv, fun y hy => ?_, ?_⟩
  ·rcases List.mem_cons.1 (hp.mem_iff.1 hy) with rfl | hy
   ·refine ⟨by simp only [ends]; omega, ?_, ?_, ⟨(by show (0 : Int) ≤ 0; decide), (by show (0 : Int) < 256; decide)⟩, (by show heavy 0 = false; decide)⟩
    ·simp only [ends]; by_cases hm : u ≤ v
     ·rw [Int.min_eq_left hm]; exact h4
     ·rw [Int.min_eq_right (by omega)]; exact h5
    ·simp only [ends]; by_cases hm : u ≤ v
     ·rw [Int.max_eq_right hm]; exact h5
     ·rw [Int.max_eq_left (by omega)]; exact h4
   ·exact G.re y hy
  ·simp only [insE, insW_len]; omega
 ·exact G
theorem apP_perm (g : GT) (u v : Int) : (apP g (eD u v)).1.Perm (apS g u v).1 ∧ (apP g (eD u v)).2.Perm (apS g u v).2 := by
 rw [apP, apS]
 split
 ·rename_i h
  obtain ⟨_, _, _, _, _, h6, _⟩ := (wrongE g u v).1 h
  have hnot := inE_no h6
  refine ⟨List.Perm.refl _, ?_⟩
  show (putP g.2 (ends u v) ((0 : Int), (0 : Int))).Perm (insE g.2 (ends u v, (0, 0)))
  have h1 := putP_last (l := g.2) (m := g.2) (k := ends u v) (c := ((0 : Int), (0 : Int))) (List.Perm.refl _) hnot
  refine h1.trans ((List.perm_append_singleton _ _).trans ?_)
  exact (insW_perm (fun y : ET => lt2 (ends u v) y.1) (ends u v, ((0 : Int), (0 : Int))) g.2).symm
 ·exact ⟨List.Perm.refl _, List.Perm.refl _⟩
theorem idOk_nat {u : Int} (h : idOk u = true) : ∃ n : Nat, u = n := by
 have := idOk_r h
 exact ⟨u.toNat, by omega⟩
theorem apS_eG {g : GT} {u v : Int} (h : wrongM g (eD u v) = 0) : ∃ p q : Nat, u = (p : Int) ∧ v = (q : Int) ∧ p ≠ q ∧ apS g u v = eG g p q (0, 0) ∧ inV g.1 (p : Int) = true := by
 obtain ⟨h1, h2, h3, h4, h5, h6, h7⟩ := (wrongE g u v).1 h
 obtain ⟨p, rfl⟩ := idOk_nat h1
 obtain ⟨q, rfl⟩ := idOk_nat h2
 exact ⟨p, q, rfl, rfl, by omega, by rw [apS, if_pos h]; rfl, h4⟩
theorem tw_apS {g : GT} (G : Gr.Ok g) (hl : g.1.length ≤ 12) {u v : Int} (h : wrongM g (eD u v) = 0) : twG g ≤ twG (apS g u v) ∧ twG (apS g u v) ≤ twG g + 1 := by
 obtain ⟨p, q, hu, hv, _, he, hp⟩ := apS_eG h
 have H := apS_ok G u v
 rw [he] at H ⊢
 exact tw_add G hl H ((inV_vset G).2 hp)
theorem apS_mono {g : GT} {u v : Int} {i j : Nat} (h : Adj g i j) : Adj (apS g u v) i j := by
 by_cases hw : wrongM g (eD u v) = 0
 ·obtain ⟨p, q, hu, hv, _, he, hp⟩ := apS_eG hw
  rw [he, eG_adj]; exact .inl h
 ·rw [apS, if_neg hw]; exact h
theorem apS_join {g : GT} (G : Gr.Ok g) (hl : g.2.length < 1024) {p q : Nat} (hp : (vset g.1).getLsbD p = true) (hq : (vset g.1).getLsbD q = true) (hpq : p ≠ q) : Adj (apS g (p : Int) (q : Int)) p q := by
 have h4 := (inV_vset G).1 hp
 have h5 := (inV_vset G).1 hq
 have hb1 := bit_lt hp
 have hb2 := bit_lt hq
 by_cases h6 : inE g.2 (p : Int) (q : Int) = false
 ·have hw : wrongM g (eD (p : Int) (q : Int)) = 0 := (wrongE g _ _).2 ⟨by simp [idOk]; omega, by simp [idOk]; omega, by omega, h4, h5, h6, hl⟩
  obtain ⟨p', q', hu, hv, _, he, _⟩ := apS_eG hw
  obtain rfl : p' = p := by omega
  obtain rfl : q' = q := by omega
  rw [he, eG_adj]; exact .inr (.inl ⟨rfl, rfl⟩)
 ·refine apS_mono ?_
  have h7 : inE g.2 (p : Int) (q : Int) = true := by simpa using h6
  rw [inE, List.any_eq_true] at h7
  obtain ⟨x, hx, he⟩ := h7
  refine ⟨x, hx, ?_⟩
  rw [of_decide_eq_true he]
  rcases Nat.le_total p q with h | h
  ·left; exact Prod.ext (by show min (p : Int) q = p; omega) (by show max (p : Int) q = q; omega)
  ·right; exact Prod.ext (by show min (p : Int) q = q; omega) (by show max (p : Int) q = p; omega)
def vn (g : GT) (p : Nat) : Nat := ((g.1[p]?).map fun x => x.1.toNat).getD 0
theorem vn_get {g : GT} (G : Gr.Ok g) {p : Nat} (hp : p < g.1.length) : ∃ x, g.1[p]? = some x ∧ x.1 = ((vn g p : Nat) : Int) ∧ (vset g.1).getLsbD (vn g p) = true := by
 have h := List.getElem?_eq_getElem hp
 generalize g.1[p] = x at h
 have h1 := idOk_r (G.rv x (List.mem_of_getElem? h)).1
 have h2 : x.1 = ((vn g p : Nat) : Int) := by rw [vn, h]; show x.1 = ((x.1.toNat : Nat) : Int); omega
 exact ⟨x, h, h2, (mem_vset G).2 ⟨x, List.mem_of_getElem? h, h2⟩⟩
theorem vn_ne {g : GT} (G : Gr.Ok g) {p q : Nat} (hp : p < g.1.length) (hq : q < p) : vn g p ≠ vn g q := fun he => by
 obtain ⟨x, h1, h2, _⟩ := vn_get G hp
 obtain ⟨y, h3, h4, _⟩ := vn_get G (p := q) (by omega)
 obtain ⟨hp', e1⟩ := List.getElem?_eq_some_iff.1 h1
 obtain ⟨hq', e2⟩ := List.getElem?_eq_some_iff.1 h3
 have := List.pairwise_iff_getElem.1 G.sv q p hq' hp' hq
 rw [e1, e2] at this
 rw [h2, h4, he] at this
 simp [lt1] at this
theorem tw_all {g h : GT} (G : Gr.Ok g) (H : Gr.Ok h) (hV : h.1 = g.1) (hl : g.1.length ≤ 12) (hA : ∀ p q, q < p → p < g.1.length → Adj h (vn g p) (vn g q)) : twG h = (g.1.length : Nat) - 1 := by
 have h1 := tw_full H (by rw [hV]; exact hl) fun i j hi hj hij => by
  rw [hV] at hi hj
  obtain ⟨x, hx, hxi⟩ := (mem_vset G).1 hi
  obtain ⟨y, hy, hyj⟩ := (mem_vset G).1 hj
  obtain ⟨p, hp, ep⟩ := List.getElem_of_mem hx
  obtain ⟨q, hq, eq⟩ := List.getElem_of_mem hy
  have e1 : vn g p = i := by rw [vn, List.getElem?_eq_getElem hp, ep]; show x.1.toNat = i; omega
  have e2 : vn g q = j := by rw [vn, List.getElem?_eq_getElem hq, eq]; show y.1.toNat = j; omega
  rcases Nat.lt_trichotomy p q with h | h | h
  ·have := hA q p h hq; rw [e1, e2] at this; exact this.symm
  ·subst h; exact absurd (e1.symm.trans e2) hij
  ·have := hA p q h hp; rwa [e1, e2] at this
 rw [h1, hV]
theorem frW_few {g : GT} {most : Int} (h : (frW g most).2 = true) (hm : most ≤ 100) : (frW g most).1.2.length ≤ 140 := by
 by_cases h1 : (decide (most < (g.1.length : Nat)) || decide ((40 : Int) < (g.2.length : Nat))) = true
 ·rw [frW, if_pos h1] at h; cases h
 ·by_cases h2 : (ofR g.1 g.2).2 ≠ 0
  ·rw [frW, if_neg h1, if_pos h2] at h; cases h
  ·have e : frW g most = ((ofR g.1 g.2).1, true) := by rw [frW, if_neg h1, if_neg h2]
   have h4 := ofR_len (V := g.1) (E := g.2) (Decidable.not_not.1 h2)
   rw [Bool.or_eq_true, not_or, decide_eq_true_eq, decide_eq_true_eq] at h1
   rw [e]
   dsimp only; omega
theorem delL_bit : ∀ (s : List Nat) (V : BS) (i : Nat), (∀ x ∈ s, x < 1024) → ((delL V s).getLsbD i = true ↔ V.getLsbD i = true ∧ i ∉ s)
 | [], V, i, _ => by rw [delL, List.foldl_nil]; simp
 | x :: s, V, i, hs => by
  have h1 : delL V (x :: s) = delL (del V (x : Int)) s := by rw [delL, List.foldl_cons, delL]
  rw [h1, delL_bit s _ i fun y hy => hs y (by simp [hy]), bit_del _ (hs x (by simp))]
  simp only [List.mem_cons, not_or, and_assoc]
theorem nbWi_bit {nb : Int → BS} {S : BS} {i j : Nat} : (nbWi nb S (i : Int)).getLsbD j = true ↔ S.getLsbD i = true ∧ (nb (i : Int)).getLsbD j = true ∧ S.getLsbD j = true := by
 rw [nbWi]
 split
 ·rename_i h
  rw [bit_and]
  exact ⟨fun hh => ⟨(has_bit S i).1 h, hh⟩, fun hh => hh.2⟩
 ·rename_i h
  exact ⟨fun hh => absurd hh (bit_zero j), fun hh => absurd ((has_bit S i).2 hh.1) h⟩
theorem scL_found {nb : Int → BS} {V : BS} {n a : Nat} : ∀ (rest s : List Nat), elems V = s ++ rest → a ∈ rest → (∀ s' r', elems V = s' ++ a :: r' → extF (nbWi nb (V &&& delL V s')) a n n [a] ≠ none) → scL nb V n rest (delL V s) ≠ none
 | [], s, _, ha, _ => by cases ha
 | x :: r, s, he, ha, hf => by
  rw [scL]
  cases ho : extF (nbWi nb (V &&& delL V s)) x n n [x] with
  | some o => simp
  | none =>
   dsimp only
   have hxa : x ≠ a := fun h => by
    subst h
    exact hf s r he ho
   rw [← delL_app]
   exact scL_found r (s ++ [x]) (by rw [he, List.append_assoc]; rfl) ((List.mem_cons.1 ha).resolve_left (Ne.symm hxa)) hf
theorem tw_shc {g : GT} (ok : Gr.Ok g) (hl : g.1.length ≤ 12) : shcF (nbA g) (vset g.1) (esN g) = none ↔ twG g ≤ 1 := by
 rw [tw_girth ok hl (es_adj ok), shcF]
 by_cases h0 : girF (nbA g) (esN g) = 0
 ·rw [if_pos h0]; exact ⟨fun _ => h0, fun _ => rfl⟩
 ·rw [if_neg h0]
  refine ⟨fun h => absurd h ?_, fun h => absurd h h0⟩
  obtain ⟨n, hn, h3, a, ha, hf⟩ := girth_found ok (es_adj ok) h0
  rw [hn, Int.toNat_natCast]
  have hm : a ∈ elems (vset g.1) := mem_elems.2 ⟨bit_lt ha, ha⟩
  have hz : delL (vset g.1) [] = vset g.1 := by rw [delL, List.foldl_nil]
  have hgo := scL_found (nb := nbA g) (V := vset g.1) (n := n) (a := a) (elems (vset g.1)) [] (by rw [List.nil_append]) hm
  rw [hz] at hgo
  refine hgo fun s r he => ?_
  have hsl : ∀ x ∈ s, x < 1024 := fun x hx => (mem_elems.1 (by rw [he]; simp [hx])).1
  have hlt : ∀ x ∈ s, x < a := fun x hx => by
   have hp : (elems (vset g.1)).Pairwise (· < ·) := List.Pairwise.sublist List.filter_sublist List.pairwise_lt_range
   rw [he] at hp
   exact (List.pairwise_append.1 hp).2.2 x hx a (by simp)
  refine hf (vset g.1 &&& delL (vset g.1) s) (fun i hi hai => ?_) _ (fun i j hi hj hij => nbWi_bit.2 ⟨hi, hij, hj⟩) (fun i j hij => ?_) n (Nat.le_refl _)
  ·rw [bit_and, delL_bit s _ _ hsl]
   exact ⟨hi, hi, fun hh => by have := hlt i hh; omega⟩
  ·obtain ⟨h1, h2, h3'⟩ := nbWi_bit.1 hij
   exact nbWi_bit.2 ⟨h3', nb_symm ok i j h2, h1⟩
theorem shc_len {g : GT} {o : List Nat} (h : shcF (nbA g) (vset g.1) (esN g) = some o) : o ≠ [] := by
 have key : ∀ (nb : Int → BS) (V : BS) (n : Nat), 1 ≤ n → ∀ (l : List Nat) (left : BS) (o : List Nat), scL nb V n l left = some o → o ≠ [] := by
  intro nb V n hn l
  induction l with
  | nil => intro left o h; cases h
  | cons x r ih =>
   intro left o h
   rw [scL] at h
   cases ho : extF (nbWi nb (V &&& left)) x n n [x] with
   | some o' =>
    rw [ho] at h
    have : o' = o := Option.some.inj h
    have h2 := extF_len _ _ _ ho
    rw [this] at h2
    intro h3; rw [h3] at h2; simp at h2; omega
   | none => rw [ho] at h; exact ih _ _ h
 rw [shcF] at h
 split at h
 ·cases h
 ·rename_i h0
  have := (girF_hi (nbA g) (esN g)).1
  exact key _ _ _ (by omega) _ _ _ h
end Go.Mono
