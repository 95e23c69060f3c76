/-
  Walks and plain facts, in this order: Tree, R45, R45b, Plain1, Plain2, Plain3, Frame5, MonoZ, Frame6, Node, MonoW, Below2.
  No condition.
-/
import Derived.Test.YtnhbkdliljcedaaDoorWC
import Derived.Test.YtnhbkdliljcedaaDoorWB
set_option linter.unusedVariables false
set_option linter.unusedSimpArgs false
set_option linter.unusedVariables false
set_option linter.unusedSimpArgs false
namespace Go.Mono

theorem abv_mono {xs : List RB} : ∀ {f : Nat} {a : Int} {l : List Int}, abv xs f a = some l → abv xs (f + 1) a = some l
  | 0, a, l, h => by
    by_cases ha : a < 0
    · rw [abv, if_pos ha] at h; rw [abv, if_pos ha]; exact h
    · rw [abv, if_neg ha] at h; cases h
  | f + 1, a, l, h => by
    by_cases ha : a < 0
    · rw [abv, if_pos ha] at h; rw [abv, if_pos ha]; exact h
    · rw [abv, if_neg ha] at h
      rw [abv, if_neg ha]
      cases hr : abv xs f (up xs a.toNat) with
      | none => rw [hr] at h; cases h
      | some l' => rw [abv_mono hr]; rw [hr] at h; exact h
theorem abv_len {xs : List RB} : ∀ {f : Nat} {a : Int} {l : List Int}, abv xs f a = some l → l.length ≤ f
  | 0, a, l, h => by
    by_cases ha : a < 0
    · rw [abv, if_pos ha] at h; cases h; simp
    · rw [abv, if_neg ha] at h; cases h
  | f + 1, a, l, h => by
    by_cases ha : a < 0
    · rw [abv, if_pos ha] at h; cases h; simp
    · rw [abv, if_neg ha] at h
      cases hr : abv xs f (up xs a.toNat) with
      | none => rw [hr] at h; cases h
      | some l' =>
        rw [hr] at h
        simp at h
        subst h
        have := abv_len hr
        simp; exact this

/-- the bags above -/
def ab (xs : List RB) (i : Nat) : List Int := (above xs i).getD []
theorem ab_root {xs : List RB} {i : Nat} (h : up xs i < 0) : ab xs i = [] := by
  rw [ab, above, abv, if_pos h]; rfl
theorem ab_step {xs : List RB} (V : Vals xs) {i j : Nat} (hi : i < xs.length) (h : up xs i = (j : Int)) : ab xs i = (j : Int) :: ab xs j ∧ j < xs.length := by
  have hr := V.range i hi
  have hl := V.loop i hi
  refine ⟨?_, by omega⟩
  unfold ab
  rw [above, abv, if_neg (by omega)] at hl ⊢
  rw [h, Int.toNat_natCast] at hl ⊢
  cases hx : abv xs xs.length (up xs j) with
  | none => rw [hx] at hl; cases hl
  | some l => rw [above, abv_mono hx]; rfl
theorem depthR_eq (xs : List RB) (i : Nat) : depthR xs i = (ab xs i).length := rfl
theorem depth_step {xs : List RB} (V : Vals xs) {i j : Nat} (hi : i < xs.length) (h : up xs i = (j : Int)) : depthR xs i = depthR xs j + 1 := by
  rw [depthR_eq, depthR_eq, (ab_step V hi h).1]; rfl
theorem depth_le {xs : List RB} (V : Vals xs) {i : Nat} (hi : i < xs.length) : depthR xs i ≤ xs.length + 1 := by
  have := V.loop i hi
  rw [depthR_eq, ab]
  cases hx : above xs i with
  | none => rw [hx] at this; cases this
  | some l => exact abv_len hx
/-- each bag is the root or has a bag above it -/
theorem up_cases {xs : List RB} (V : Vals xs) {i : Nat} (hi : i < xs.length) : up xs i = -1 ∨ ∃ j : Nat, j < xs.length ∧ up xs i = (j : Int) := by
  have := V.range i hi
  by_cases h : up xs i < 0
  · exact .inl (by omega)
  · exact .inr ⟨(up xs i).toNat, by omega, by omega⟩
/-- induction from the root down -/
theorem tree_ind {xs : List RB} (V : Vals xs) {p : Nat → Prop} (root : ∀ i, i < xs.length → up xs i = -1 → p i) (step : ∀ i j, i < xs.length → j < xs.length → up xs i = (j : Int) → p j → p i) : ∀ i, i < xs.length → p i := by
  have : ∀ d i, i < xs.length → depthR xs i = d → p i := by
    intro d
    induction d using Nat.strongRecOn with
    | _ d ih =>
      intro i hi hd
      rcases up_cases V hi with h | ⟨j, hj, h⟩
      · exact root i hi h
      · have := depth_step V hi h
        exact step i j hi hj h (ih (depthR xs j) (by omega) j hj rfl)
  exact fun i hi => this _ i hi rfl
/-- induction from the leaves up -/
theorem tree_up {xs : List RB} (V : Vals xs) {p : Nat → Prop} (step : ∀ j, j < xs.length → (∀ i, i < xs.length → up xs i = (j : Int) → p i) → p j) : ∀ i, i < xs.length → p i := by
  have : ∀ d i, i < xs.length → xs.length + 1 - depthR xs i = d → p i := by
    intro d
    induction d using Nat.strongRecOn with
    | _ d ih =>
      intro j hj hd
      refine step j hj fun i hi h => ?_
      have h1 := depth_step V hi h
      have h2 := depth_le V hi
      exact ih (xs.length + 1 - depthR xs i) (by omega) i hi rfl
  exact fun i hi => this _ i hi rfl

theorem mem_selN {p : Nat → Bool} {n : Nat} {k : Int} : k ∈ selN p n ↔ ∃ i : Nat, i < n ∧ p i = true ∧ k = (i : Int) := by
  unfold selN
  simp only [List.mem_map, List.mem_filter, List.mem_range]
  exact ⟨fun ⟨i, ⟨h1, h2⟩, h3⟩ => ⟨i, h1, h2, h3.symm⟩, fun ⟨i, h1, h2, h3⟩ => ⟨i, ⟨h1, h2⟩, h3.symm⟩⟩
theorem mem_kids {xs : List RB} {b k : Int} : k ∈ kids xs b ↔ ∃ i : Nat, i < xs.length ∧ up xs i = b ∧ k = (i : Int) := by
  rw [kids, mem_selN]
  simp only [decide_eq_true_eq]

/-- the size of the part below a bag; f: how deep -/
def szF (xs : List RB) : Nat → Int → Int
  | 0, _ => 1
  | f + 1, b => (kids xs b).foldl (fun n k => n + szF xs f k) 1
def sizeR (xs : List RB) (b : Int) : Int := szF xs (xs.length + 2) b
theorem foldl_congr {α β : Type} {f g : β → α → β} : ∀ {l : List α} {b : β}, (∀ b, ∀ x ∈ l, f b x = g b x) → l.foldl f b = l.foldl g b
  | [], b, _ => rfl
  | x :: l, b, h => by
    rw [List.foldl_cons, List.foldl_cons, h b x (by simp)]
    exact foldl_congr fun b y hy => h b y (by simp [hy])
theorem szF_stable {xs : List RB} (V : Vals xs) : ∀ (d j : Nat), j < xs.length → xs.length + 1 - depthR xs j = d → ∀ f g, d ≤ f → d ≤ g → szF xs f (j : Nat) = szF xs g (j : Nat) := by
  intro d
  induction d using Nat.strongRecOn with
  | _ d ih =>
    intro j hj hd f g hf hg
    have kid : ∀ k ∈ kids xs (j : Nat), ∃ i : Nat, i < xs.length ∧ k = (i : Int) ∧ xs.length + 1 - depthR xs i < d ∧ xs.length + 1 - depthR xs i + 1 = d := by
      intro k hk
      obtain ⟨i, h1, h2, h3⟩ := mem_kids.1 hk
      have h4 := depth_step V h1 h2
      have h5 := depth_le V h1
      exact ⟨i, h1, h3, by omega, by omega⟩
    have z : ∀ f, d ≤ f → szF xs f (j : Nat) = (kids xs (j : Nat)).foldl (fun n k => n + szF xs (f - 1) k) 1 := by
      intro f hf
      cases f with
      | zero =>
        have : kids xs (j : Nat) = [] := by
          cases hk : kids xs (j : Nat) with
          | nil => rfl
          | cons k l =>
            obtain ⟨i, _, _, h3, _⟩ := kid k (by rw [hk]; simp)
            omega
        rw [this]; rfl
      | succ f => rfl
    rw [z f hf, z g hg]
    refine foldl_congr fun n k hk => ?_
    obtain ⟨i, h1, h2, h3, h4⟩ := kid k hk
    subst h2
    rw [ih _ h3 i h1 rfl (f - 1) (g - 1) (by omega) (by omega)]
theorem sizeR_eq {xs : List RB} (V : Vals xs) {j : Nat} (hj : j < xs.length) : sizeR xs (j : Nat) = (kids xs (j : Nat)).foldl (fun n k => n + sizeR xs k) 1 := by
  have h := depth_le V hj
  rw [sizeR, show szF xs (xs.length + 2) (j : Nat) = szF xs (xs.length + 3) (j : Nat) from szF_stable V _ j hj rfl _ _ (by omega) (by omega)]
  rfl

/-- i lies below b, or is b -/
def dsc (xs : List RB) (b i : Nat) : Bool := decide (i = b) || decide ((b : Int) ∈ ab xs i)
theorem dsc_root {xs : List RB} {b i : Nat} (h : up xs i < 0) : dsc xs b i = decide (i = b) := by
  rw [dsc, ab_root h]; simp
theorem dsc_step {xs : List RB} (V : Vals xs) {b i j : Nat} (hi : i < xs.length) (h : up xs i = (j : Int)) : dsc xs b i = (decide (i = b) || dsc xs b j) := by
  rw [dsc, (ab_step V hi h).1, dsc]
  congr 1
  have e : decide (((b : Nat) : Int) = (j : Nat)) = decide (j = b) := by
    by_cases hb : j = b
    · subst hb; simp
    · simp [hb]; omega
  simp only [List.mem_cons, Bool.decide_or, e]
theorem dsc_depth {xs : List RB} (V : Vals xs) {b : Nat} : ∀ i, i < xs.length → dsc xs b i = true → depthR xs b ≤ depthR xs i := by
  refine tree_ind V (fun i hi h hd => ?_) (fun i j hi hj h ih hd => ?_)
  · rw [dsc_root (by omega)] at hd
    rw [of_decide_eq_true hd]; exact Nat.le_refl _
  · rw [dsc_step V hi h, Bool.or_eq_true] at hd
    have := depth_step V hi h
    rcases hd with hd | hd
    · rw [of_decide_eq_true hd]; exact Nat.le_refl _
    · have := ih hd; omega
def ind (b : Bool) : Nat := if b then 1 else 0
/-- kids as numbers -/
def kidN (xs : List RB) (b : Nat) : List Nat := (List.range xs.length).filter fun i => decide (up xs i = (b : Int))
theorem kids_eq (xs : List RB) (b : Nat) : kids xs (b : Nat) = (kidN xs b).map fun i : Nat => (i : Int) := rfl
theorem mem_kidN {xs : List RB} {b k : Nat} : k ∈ kidN xs b ↔ k < xs.length ∧ up xs k = (b : Int) := by simp [kidN]
theorem kidN_nodup (xs : List RB) (b : Nat) : (kidN xs b).Nodup := List.Nodup.sublist List.filter_sublist List.nodup_range
theorem sum_ind_eq {l : List Nat} (h : l.Nodup) (i : Nat) : (l.map fun k => ind (decide (i = k))).sum = ind (decide (i ∈ l)) := by
  induction l with
  | nil => rfl
  | cons k l ih =>
    have hn := List.nodup_cons.1 h
    rw [List.map_cons, List.sum_cons, ih hn.2]
    by_cases hk : i = k
    · subst hk; simp [ind, hn.1]
    · simp [ind, hk]
theorem sum_add {α : Type} (f g : α → Nat) : ∀ l : List α, (l.map fun k => f k + g k).sum = (l.map f).sum + (l.map g).sum
  | [] => rfl
  | x :: l => by simp [sum_add f g l]; omega
theorem sum_congr {α : Type} {f g : α → Nat} : ∀ {l : List α}, (∀ x ∈ l, f x = g x) → (l.map f).sum = (l.map g).sum
  | [], _ => rfl
  | x :: l, h => by
    rw [List.map_cons, List.map_cons, List.sum_cons, List.sum_cons, h x (by simp), sum_congr fun y hy => h y (by simp [hy])]
theorem ind_or {a b : Bool} (h : a = true → b = true → False) : ind (a || b) = ind a + ind b := by
  cases a <;> cases b <;> simp [ind] at h ⊢
theorem dsc_split {xs : List RB} (V : Vals xs) {b : Nat} : ∀ i, i < xs.length → ind (dsc xs b i) = ind (decide (i = b)) + ((kidN xs b).map fun k => ind (dsc xs k i)).sum := by
  refine tree_ind V (fun i hi h => ?_) (fun i j hi hj h ih => ?_)
  · rw [dsc_root (by omega)]
    have : ((kidN xs b).map fun k => ind (dsc xs k i)).sum = ((kidN xs b).map fun k => ind (decide (i = k))).sum := sum_congr fun k _ => by rw [dsc_root (by omega)]
    rw [this, sum_ind_eq (kidN_nodup xs b)]
    have hm : ¬ i ∈ kidN xs b := fun hm => by have := (mem_kidN.1 hm).2; omega
    simp [ind, hm]
  · have d1 := depth_step V hi h
    rw [dsc_step V hi h, ind_or (fun h1 h2 => by
      have := dsc_depth V j hj h2
      rw [← of_decide_eq_true h1] at this
      omega), ih]
    have : ((kidN xs b).map fun k => ind (dsc xs k i)).sum = ((kidN xs b).map fun k => ind (decide (i = k)) + ind (dsc xs k j)).sum := sum_congr fun k hk => by
      rw [dsc_step V hi h, ind_or (fun h1 h2 => by
        have := dsc_depth V j hj h2
        rw [← of_decide_eq_true h1] at this
        omega)]
    rw [this, sum_add, sum_ind_eq (kidN_nodup xs b)]
    congr 1
    congr 1
    have : decide (i ∈ kidN xs b) = decide (j = b) := by
      by_cases hb : j = b
      · subst hb; simp [mem_kidN, hi, h]
      · simp [mem_kidN, hi, h, hb]; omega
    rw [this]
/-- how many lie below b, b among them -/
def cnt (xs : List RB) (b : Nat) : Nat := ((List.range xs.length).map fun i => ind (dsc xs b i)).sum
theorem sum_swap {α β : Type} (f : α → β → Nat) (m : List β) : ∀ l : List α, (l.map fun i => (m.map fun k => f i k).sum).sum = (m.map fun k => (l.map fun i => f i k).sum).sum
  | [] => by
    simp only [List.map_nil, List.sum_nil]
    induction m with
    | nil => rfl
    | cons y m ih => simpa using ih
  | x :: l => by
    rw [List.map_cons, List.sum_cons, sum_swap f m l, ← sum_add]
    simp
theorem cnt_eq {xs : List RB} (V : Vals xs) {b : Nat} (hb : b < xs.length) : cnt xs b = 1 + ((kidN xs b).map fun k => cnt xs k).sum := by
  unfold cnt
  rw [show ((List.range xs.length).map fun i => ind (dsc xs b i)).sum = ((List.range xs.length).map fun i => ind (decide (i = b)) + ((kidN xs b).map fun k => ind (dsc xs k i)).sum).sum from
    sum_congr fun i hi => dsc_split V i (List.mem_range.1 hi), sum_add, sum_swap (fun i k => ind (dsc xs k i))]
  congr 1
  have := sum_ind_eq (l := List.range xs.length) List.nodup_range b
  have e : ((List.range xs.length).map fun i => ind (decide (i = b))).sum = ((List.range xs.length).map fun k => ind (decide (b = k))).sum := sum_congr fun i _ => by
    congr 1
    by_cases h : i = b
    · subst h; rfl
    · rw [decide_eq_false h, decide_eq_false (Ne.symm h)]
  rw [e, this]
  simp [ind, hb]
theorem foldl_sum {f : Int → Int} {g : Nat → Nat} : ∀ {l : List Nat} {s : Int}, (∀ k ∈ l, f (k : Int) = (g k : Nat)) → (l.map fun i : Nat => (i : Int)).foldl (fun n k => n + f k) s = s + ((l.map g).sum : Nat)
  | [], s, _ => by simp
  | k :: l, s, h => by
    rw [List.map_cons, List.foldl_cons, foldl_sum (fun j hj => h j (by simp [hj])), h k (by simp), List.map_cons, List.sum_cons]
    omega
theorem sizeR_cnt {xs : List RB} (V : Vals xs) : ∀ b, b < xs.length → sizeR xs (b : Nat) = (cnt xs b : Nat) := by
  refine tree_up V fun j hj ih => ?_
  rw [sizeR_eq V hj, cnt_eq V hj, kids_eq, foldl_sum (g := cnt xs) fun k hk => ih k (mem_kidN.1 hk).1 (mem_kidN.1 hk).2]
  show 1 + (((kidN xs j).map fun k => cnt xs k).sum : Int) = _
  omega
theorem cnt_le (xs : List RB) (b : Nat) : cnt xs b ≤ xs.length := by
  have : ∀ l : List Nat, (l.map fun i => ind (dsc xs b i)).sum ≤ l.length := by
    intro l
    induction l with
    | nil => simp
    | cons x l ih =>
      have : ind (dsc xs b x) ≤ 1 := by unfold ind; split <;> omega
      simp; omega
  have := this (List.range xs.length)
  simpa [cnt] using this
theorem cnt_pos {xs : List RB} (V : Vals xs) {b : Nat} (hb : b < xs.length) : 1 ≤ cnt xs b := by rw [cnt_eq V hb]; omega
end Go.Mono

set_option linter.unusedVariables false
namespace Go.Mono
open Go Go.Proofs Go.RowKit

theorem Vals.hi {xs : List RB} (V : Vals xs) : ∀ i, i < xs.length → up xs i < xs.length := fun i hi => (V.range i hi).2

/-- how large the parts below the first k kids are, b itself with them -/
def szTo (xs : List RB) (b : Nat) (k : Nat) : Int := ((kids xs (b : Nat)).take k).foldl (fun n k => n + sizeR xs k) 1
theorem szTo_le {xs : List RB} (V : Vals xs) {b : Nat} (hb : b < xs.length) (k : Nat) : 1 ≤ szTo xs b k ∧ szTo xs b k ≤ xs.length := by
  have hs : ∀ k ∈ kidN xs b, sizeR xs (k : Nat) = (cnt xs k : Nat) := fun k hk => sizeR_cnt V k (mem_kidN.1 hk).1
  have e : szTo xs b k = 1 + ((((kidN xs b).take k).map (cnt xs)).sum : Nat) := by
    rw [szTo, kids_eq, ← List.map_take, foldl_sum (g := cnt xs) fun j hj => hs j (List.mem_of_mem_take hj)]
  have h2 : (((kidN xs b).take k).map (cnt xs)).sum ≤ ((kidN xs b).map (cnt xs)).sum := by
    conv => rhs; rw [← List.take_append_drop k (kidN xs b), List.map_append, List.sum_append]
    omega
  have h3 : cnt xs b = 1 + ((kidN xs b).map (cnt xs)).sum := cnt_eq V hb
  have h4 := cnt_le xs b
  omega
theorem szTo_succ {xs : List RB} {b k : Nat} (h : k < (kids xs (b : Nat)).length) : szTo xs b (k + 1) = szTo xs b k + sizeR xs (gi (kids xs (b : Nat)) k) := by
  rw [szTo, szTo, gi_take h, List.foldl_append]; rfl
theorem kid_at {xs : List RB} {b : Int} {k : Nat} (h : k < (kids xs b).length) : ∃ i : Nat, i < xs.length ∧ up xs i = b ∧ gi (kids xs b) k = (i : Int) := by
  have := List.mem_of_getElem? (gi_get h)
  obtain ⟨i, h1, h2, h3⟩ := mem_kids.1 this
  exact ⟨i, h1, h2, h3⟩
theorem kids_len (xs : List RB) (b : Int) : (kids xs b).length ≤ xs.length := selN_len _ _

theorem sizeR_spec (xs : List RB) (hl : xs.length ≤ 4096) (V : Vals xs) : ∀ j, j < xs.length → ∀ (G : Nat → Prop) (v : Value) (W : World) (h : (Dv rtE G xs).p v W),
    Calls Tryd.prog 51 #[v, I (j : Nat)] W (Post (E (I (sizeR xs (j : Nat)))) W) := by
  refine tree_up V fun j hj ih => ?_
  intro G v W h
  have hkl := kids_len xs (j : Nat)
  refine enter (args := [v, I (j : Nat)]) (As := [Dv rtE G0 xs, E (I (j : Nat))]) Tryd.func51 rfl Tryd.ntmps51 (Nat.le_of_ble_eq_true rfl) ?_ (fun a hf => ?_) (Nat.le_of_ble_eq_true rfl)
  rotate_left
  dsimp only [params, Nat.reduceAdd] at hf
  rotate_right
  · exact arg2 (Dv.weak h fun b _ hb => hb.elim) rfl
  have e := Ext.rfl' W
  repeat refine seq ?_
  refine regn0 ?_
  refine tl_as hf rfl (by decide) fun a hf => ?_
  refine tl_nil ?_
  repeat refine seq ?_
  refine regn0 ?_
  refine tl_as hf rfl (by decide) fun a hf => ?_
  refine tl_nil ?_
  repeat refine seq ?_
  refine regn 3 hf (by decide +kernel) ?_
  refine st (mv rfl) ?_
  refine st (mv rfl) ?_
  refine st (call2 En44 rfl rfl (fun v u w he h h' => by cases h'; exact kids_spec (G := G0) _ _ _ _ h (fun b hb => hb.elim) hl)) ?_
  refine en fun a w e' hf => ?_
  replace e := Ext.tr e e'
  clear e'
  refine tl_as hf rfl (by decide) fun a hf => ?_
  refine tl_nil ?_
  repeat refine seq ?_
  refine regn0 ?_
  refine tl_as hf rfl (by decide) fun a hf => ?_
  refine tl_nil ?_
  replace hf := hf.keep [0, 5, 6, 7]
  dsimp only [keep, List.filterMap, look, Nat.beq, Option.map] at hf
  repeat refine seq ?_
  refine blk (loopN (fun r0 a w => ∃ (k : Nat) , r0 = (kids xs (j : Nat)).length - k ∧ k ≤ (kids xs (j : Nat)).length ∧ Fr 26 a w [(0, Dv rtE G0 xs), (5, E (I (szTo xs j k))), (6, Dv (slE intE) G0 (kids xs (j : Nat))), (7, E (I k))] ∧ Ext W w ∧ True) (kids xs (j : Nat)).length ⟨0, rfl, by omega, hf, e, trivial⟩ ?_)
  clear hf e
  rintro r0 a w ⟨k, rfl, hk, hf, e, _⟩
  repeat refine seq ?_
  refine regn 4 hf (by decide +kernel) ?_
  refine st (mv rfl) ?_
  refine st (mv rfl) ?_
  refine st (lenD Tryd.underlying43 (isR rfl)) ?_
  refine st (lss rfl rfl) ?_
  refine en fun a w e' hf => ?_
  replace e := Ext.tr e e'
  clear e'
  refine tl_nil ?_
  repeat refine seq ?_
  refine ifc hf rfl (fun hc => wskip ?_) (fun hc => wexit ?_)
  rotate_left
  rotate_left
  · have hlt : k < (kids xs (j : Nat)).length := by have := of_decide_eq_true hc; (try dsimp only at this); omega
    clear hc
    replace hf := hf.keep [0, 5, 6, 7]
    dsimp only [keep, List.filterMap, look, Nat.beq, Option.map] at hf
    repeat refine seq ?_
    refine blk ?_
    obtain ⟨i, h1, h2, h3⟩ := kid_at hlt
    have hz := szTo_le V hj k
    have hz' := szTo_le V hj (k + 1)
    have hg := gi_get hlt
    have hs := szTo_succ hlt
    rw [h3] at hg hs
    repeat refine seq ?_
    refine regn 8 hf (by decide +kernel) ?_
    refine st (mv rfl) ?_
    refine st (mv rfl) ?_
    refine st (mv rfl) ?_
    refine st (mv rfl) ?_
    refine st (idxD Tryd.underlying43 S3 (isR rfl) rfl (by omega) (hg)) ?_
    refine st (ldI T3 (isR rfl)) ?_
    refine st (call2 En51 rfl rfl (fun v u w he h h' => by cases h'; exact ih i h1 h2 G0 _ _ h)) ?_
    refine st ((add rfl rfl (by omega)).eq (congrArg (Value.int .i64) (show szTo xs j k + sizeR xs (i : Nat) = szTo xs j (k + 1) from hs.symm))) ?_
    refine en fun a w e' hf => ?_
    replace e := Ext.tr e e'
    clear e'
    refine tl_as hf rfl (by decide) fun a hf => ?_
    refine tl_nil ?_
    try simp only [Exit.then, Exit.inBlock, ↓reduceIte]
    repeat refine seq ?_
    refine regn 2 hf (by decide +kernel) ?_
    refine st (mv rfl) ?_
    refine st ((add rfl rfl (by omega)).eq (congrArg (Value.int .i64) (show (k : Int) + 1 = ((k + 1 : Nat) : Int) from rfl))) ?_
    refine en fun a w e' hf => ?_
    replace e := Ext.tr e e'
    clear e'
    refine tl_as hf rfl (by decide) fun a hf => ?_
    refine tl_nil ?_
    replace hf := hf.keep [0, 5, 6, 7]
    dsimp only [keep, List.filterMap, look, Nat.beq, Option.map] at hf
    refine ⟨_, ?_, k + 1, rfl, by omega, hf, e, trivial⟩
    · omega
  · obtain rfl : k = (kids xs (j : Nat)).length := by have := of_decide_eq_false hc; (try dsimp only at this); omega
    clear hc
    simp only [Exit.then, Exit.inBlock, ↓reduceIte]
    repeat refine seq ?_
    refine regn 1 hf (by decide +kernel) ?_
    refine st (mv rfl) ?_
    refine en fun a w e' hf => ?_
    replace e := Ext.tr e e'
    clear e'
    refine tl_as hf rfl (by decide) fun a hf => ?_
    refine tl_nil ?_
    refine wret ?_
    try simp only [Exit.then, Exit.inBlock]
    refine ret1 rfl hf rfl ?_
    rintro _ rfl
    exact ⟨_, rfl, e, congrArg I (by rw [sizeR_eq V hj, szTo, List.take_length])⟩

def heavyStep (xs : List RB) (best k : Int) : Int := if best < 0 ∨ sizeR xs best < sizeR xs k then k else best
def heavyR (xs : List RB) (b : Int) : Int := (kids xs b).foldl (heavyStep xs) (-1)
def hvTo (xs : List RB) (b : Int) (k : Nat) : Int := ((kids xs b).take k).foldl (heavyStep xs) (-1)
theorem hvTo_succ {xs : List RB} {b : Int} {k : Nat} (h : k < (kids xs b).length) : hvTo xs b (k + 1) = heavyStep xs (hvTo xs b k) (gi (kids xs b) k) := by
  rw [hvTo, hvTo, gi_take h, List.foldl_append]; rfl
theorem hvTo_ok {xs : List RB} {b : Int} : ∀ k, k ≤ (kids xs b).length → hvTo xs b k = -1 ∨ ∃ i : Nat, i < xs.length ∧ up xs i = b ∧ hvTo xs b k = (i : Int)
  | 0, _ => .inl rfl
  | k + 1, h => by
    rw [hvTo_succ (by omega), heavyStep]
    obtain ⟨i, h1, h2, h3⟩ := kid_at (xs := xs) (b := b) (k := k) (by omega)
    split
    · exact .inr ⟨i, h1, h2, h3⟩
    · exact hvTo_ok k (by omega)

theorem heavyR_spec {G : Nat → Prop} (xs : List RB) (hl : xs.length ≤ 4096) (V : Vals xs) (b : Int) (v : Value) (W : World) (h : (Dv rtE G xs).p v W) :
    Calls Tryd.prog 52 #[v, I b] W (Post (E (I (heavyR xs b))) W) := by
  have hkl := kids_len xs b
  refine enter (args := [v, I b]) (As := [Dv rtE G0 xs, E (I b)]) Tryd.func52 rfl Tryd.ntmps52 (Nat.le_of_ble_eq_true rfl) ?_ (fun a hf => ?_) (Nat.le_of_ble_eq_true rfl)
  rotate_left
  dsimp only [params, Nat.reduceAdd] at hf
  rotate_right
  · exact arg2 (Dv.weak h fun b _ hb => hb.elim) rfl
  have e := Ext.rfl' W
  repeat refine seq ?_
  refine regn0 ?_
  refine tl_as hf rfl (by decide) fun a hf => ?_
  refine tl_nil ?_
  repeat refine seq ?_
  refine regn 3 hf (by decide +kernel) ?_
  refine st (mv rfl) ?_
  refine st (mv rfl) ?_
  refine st (call2 En44 rfl rfl (fun v u w he h h' => by cases h'; exact kids_spec (G := G0) _ _ _ _ h (fun b hb => hb.elim) hl)) ?_
  refine en fun a w e' hf => ?_
  replace e := Ext.tr e e'
  clear e'
  refine tl_as hf rfl (by decide) fun a hf => ?_
  refine tl_nil ?_
  repeat refine seq ?_
  refine regn0 ?_
  refine tl_as hf rfl (by decide) fun a hf => ?_
  refine tl_nil ?_
  repeat refine seq ?_
  refine regn0 ?_
  refine tl_as hf rfl (by decide) fun a hf => ?_
  refine tl_nil ?_
  replace hf := hf.keep [0, 5, 6, 7]
  dsimp only [keep, List.filterMap, look, Nat.beq, Option.map] at hf
  repeat refine seq ?_
  refine blk (loopN (fun r0 a w => ∃ (k : Nat) , r0 = (kids xs b).length - k ∧ k ≤ (kids xs b).length ∧ Fr 36 a w [(0, Dv rtE G0 xs), (5, Dv (slE intE) G0 (kids xs b)), (6, E (I (hvTo xs b k))), (7, E (I k))] ∧ Ext W w ∧ True) (kids xs b).length ⟨0, rfl, by omega, hf, e, trivial⟩ ?_)
  clear hf e
  rintro r0 a w ⟨k, rfl, hk, hf, e, _⟩
  repeat refine seq ?_
  refine regn 4 hf (by decide +kernel) ?_
  refine st (mv rfl) ?_
  refine st (mv rfl) ?_
  refine st (lenD Tryd.underlying43 (isR rfl)) ?_
  refine st (lss rfl rfl) ?_
  refine en fun a w e' hf => ?_
  replace e := Ext.tr e e'
  clear e'
  refine tl_nil ?_
  repeat refine seq ?_
  refine ifc hf rfl (fun hc => wskip ?_) (fun hc => wexit ?_)
  rotate_left
  rotate_left
  · have hlt : k < (kids xs b).length := by have := of_decide_eq_true hc; (try dsimp only at this); omega
    clear hc
    replace hf := hf.keep [0, 5, 6, 7]
    dsimp only [keep, List.filterMap, look, Nat.beq, Option.map] at hf
    repeat refine seq ?_
    refine blk ?_
    obtain ⟨i, h1, h2, h3⟩ := kid_at hlt
    have hg := gi_get hlt
    have hs := hvTo_succ hlt
    rw [h3] at hg hs
    rcases hvTo_ok k (by omega) with hm | ⟨m, m1, m2, m3⟩
    · repeat refine seq ?_
      refine regn 14 hf (by decide +kernel) ?_
      refine st (mv rfl) ?_
      refine st ((lss rfl rfl).eq (congrArg Value.bool (show decide (hvTo xs b k < 0) = true from by rw [hm]; rfl))) ?_
      refine st (mv rfl) ?_
      first | refine sn rfl rfl rfl ?_ | refine su rfl rfl ?_ | refine sy rfl rfl (mv rfl) ?_
      first | refine sn rfl rfl rfl ?_ | refine su rfl rfl ?_ | refine sy rfl rfl (mv rfl) ?_
      first | refine sn rfl rfl rfl ?_ | refine su rfl rfl ?_ | refine sy rfl rfl (mv rfl) ?_
      first | refine sn rfl rfl rfl ?_ | refine su rfl rfl ?_ | refine sy rfl rfl (idxD Tryd.underlying43 S3 (isR rfl) rfl (by omega) (by assumption)) ?_
      first | refine sn rfl rfl rfl ?_ | refine su rfl rfl ?_ | refine sy rfl rfl (ldI T3 (isR rfl)) ?_
      first | refine sn rfl rfl rfl ?_ | refine su rfl rfl ?_ | refine sy rfl rfl (TODO_call) ?_
      first | refine sn rfl rfl rfl ?_ | refine su rfl rfl ?_ | refine sy rfl rfl (mv rfl) ?_
      first | refine sn rfl rfl rfl ?_ | refine su rfl rfl ?_ | refine sy rfl rfl (mv rfl) ?_
      first | refine sn rfl rfl rfl ?_ | refine su rfl rfl ?_ | refine sy rfl rfl (TODO_call) ?_
      first | refine sn rfl rfl rfl ?_ | refine su rfl rfl ?_ | refine sy rfl rfl (gtr rfl rfl) ?_
      first | refine st (pkT rfl rfl) ?_ | refine st (pkF rfl rfl) ?_ | refine st (pk rfl rfl rfl) ?_
      refine en fun a w e' hf => ?_
      replace e := Ext.tr e e'
      clear e'
      refine tl_nil ?_
      repeat refine seq ?_
      refine ifc hf rfl (fun _ => ?_) (fun h => by cases h)
      replace hf := hf.keep [0, 5, 6, 7]
      dsimp only [keep, List.filterMap, look, Nat.beq, Option.map] at hf
      rw [hm, heavyStep, if_pos (.inl (by decide))] at hs
      repeat refine seq ?_
      refine regn 4 hf (by decide +kernel) ?_
      refine st (mv rfl) ?_
      refine st (mv rfl) ?_
      refine st (idxD Tryd.underlying43 S3 (isR rfl) rfl (by omega) (hg)) ?_
      refine st ((ldI T3 (isR rfl)).eq (congrArg (Value.int .i64) (show (i : Int) = hvTo xs b (k + 1) from hs.symm))) ?_
      refine en fun a w e' hf => ?_
      replace e := Ext.tr e e'
      clear e'
      refine tl_as hf rfl (by decide) fun a hf => ?_
      refine tl_nil ?_
      try simp only [Exit.then, Exit.inBlock, ↓reduceIte]
      repeat refine seq ?_
      refine regn 2 hf (by decide +kernel) ?_
      refine st (mv rfl) ?_
      refine st ((add rfl rfl (by omega)).eq (congrArg (Value.int .i64) (show (k : Int) + 1 = ((k + 1 : Nat) : Int) from rfl))) ?_
      refine en fun a w e' hf => ?_
      replace e := Ext.tr e e'
      clear e'
      refine tl_as hf rfl (by decide) fun a hf => ?_
      refine tl_nil ?_
      replace hf := hf.keep [0, 5, 6, 7]
      dsimp only [keep, List.filterMap, look, Nat.beq, Option.map] at hf
      refine ⟨_, ?_, k + 1, rfl, by omega, hf, e, trivial⟩
      · omega
    · rw [m3] at hf
      have hn : ¬ ((m : Nat) : Int) < 0 := by omega
      repeat refine seq ?_
      refine regn 14 hf (by decide +kernel) ?_
      refine st (mv rfl) ?_
      refine st ((lss rfl rfl).eq (congrArg Value.bool (show decide ((m : Int) < 0) = false from decide_eq_false hn))) ?_
      refine st (mv rfl) ?_
      first | refine sn rfl rfl rfl ?_ | refine su rfl rfl ?_ | refine sy rfl rfl (mv rfl) ?_
      first | refine sn rfl rfl rfl ?_ | refine su rfl rfl ?_ | refine sy rfl rfl (mv rfl) ?_
      first | refine sn rfl rfl rfl ?_ | refine su rfl rfl ?_ | refine sy rfl rfl (mv rfl) ?_
      first | refine sn rfl rfl rfl ?_ | refine su rfl rfl ?_ | refine sy rfl rfl (idxD Tryd.underlying43 S3 (isR rfl) rfl (by omega) (hg)) ?_
      first | refine sn rfl rfl rfl ?_ | refine su rfl rfl ?_ | refine sy rfl rfl (ldI T3 (isR rfl)) ?_
      first | refine sn rfl rfl rfl ?_ | refine su rfl rfl ?_ | refine sy rfl rfl (call2 En51 rfl rfl (fun v u w he h h' => by cases h'; exact sizeR_spec _ hl V i h1 G0 _ _ h)) ?_
      first | refine sn rfl rfl rfl ?_ | refine su rfl rfl ?_ | refine sy rfl rfl (mv rfl) ?_
      first | refine sn rfl rfl rfl ?_ | refine su rfl rfl ?_ | refine sy rfl rfl (mv rfl) ?_
      first | refine sn rfl rfl rfl ?_ | refine su rfl rfl ?_ | refine sy rfl rfl (call2 En51 rfl rfl (fun v u w he h h' => by cases h'; exact sizeR_spec _ hl V m m1 G0 _ _ h)) ?_
      first | refine sn rfl rfl rfl ?_ | refine su rfl rfl ?_ | refine sy rfl rfl (gtr rfl rfl) ?_
      first | refine st (pkT rfl rfl) ?_ | refine st (pkF rfl rfl) ?_ | refine st (pk rfl rfl rfl) ?_
      refine en fun a w e' hf => ?_
      replace e := Ext.tr e e'
      clear e'
      refine tl_nil ?_
      rw [m3] at hs
      repeat refine seq ?_
      refine ifc hf rfl (fun hb => ?_) (fun hb => ?_)
      · replace hf := hf.keep [0, 5, 6, 7]
        dsimp only [keep, List.filterMap, look, Nat.beq, Option.map] at hf
        rw [heavyStep, if_pos (.inr (of_decide_eq_true hb))] at hs
        repeat refine seq ?_
        refine regn 4 hf (by decide +kernel) ?_
        refine st (mv rfl) ?_
        refine st (mv rfl) ?_
        refine st (idxD Tryd.underlying43 S3 (isR rfl) rfl (by omega) (hg)) ?_
        refine st ((ldI T3 (isR rfl)).eq (congrArg (Value.int .i64) (show (i : Int) = hvTo xs b (k + 1) from hs.symm))) ?_
        refine en fun a w e' hf => ?_
        replace e := Ext.tr e e'
        clear e'
        refine tl_as hf rfl (by decide) fun a hf => ?_
        refine tl_nil ?_
        try simp only [Exit.then, Exit.inBlock, ↓reduceIte]
        repeat refine seq ?_
        refine regn 2 hf (by decide +kernel) ?_
        refine st (mv rfl) ?_
        refine st ((add rfl rfl (by omega)).eq (congrArg (Value.int .i64) (show (k : Int) + 1 = ((k + 1 : Nat) : Int) from rfl))) ?_
        refine en fun a w e' hf => ?_
        replace e := Ext.tr e e'
        clear e'
        refine tl_as hf rfl (by decide) fun a hf => ?_
        refine tl_nil ?_
        replace hf := hf.keep [0, 5, 6, 7]
        dsimp only [keep, List.filterMap, look, Nat.beq, Option.map] at hf
        refine ⟨_, ?_, k + 1, rfl, by omega, hf, e, trivial⟩
        · omega
      · refine wskip ?_
        try simp only [Exit.then, Exit.inBlock, ↓reduceIte]
        rw [heavyStep, if_neg (by rw [not_or]; exact ⟨hn, of_decide_eq_false hb⟩)] at hs
        rw [← hs] at hf
        try simp only [Exit.then, Exit.inBlock, ↓reduceIte]
        repeat refine seq ?_
        refine regn 2 hf (by decide +kernel) ?_
        refine st (mv rfl) ?_
        refine st ((add rfl rfl (by omega)).eq (congrArg (Value.int .i64) (show (k : Int) + 1 = ((k + 1 : Nat) : Int) from rfl))) ?_
        refine en fun a w e' hf => ?_
        replace e := Ext.tr e e'
        clear e'
        refine tl_as hf rfl (by decide) fun a hf => ?_
        refine tl_nil ?_
        replace hf := hf.keep [0, 5, 6, 7]
        dsimp only [keep, List.filterMap, look, Nat.beq, Option.map] at hf
        refine ⟨_, ?_, k + 1, rfl, by omega, hf, e, trivial⟩
        · omega
  · obtain rfl : k = (kids xs b).length := by have := of_decide_eq_false hc; (try dsimp only at this); omega
    clear hc
    simp only [Exit.then, Exit.inBlock, ↓reduceIte]
    repeat refine seq ?_
    refine regn 1 hf (by decide +kernel) ?_
    refine st (mv rfl) ?_
    refine en fun a w e' hf => ?_
    replace e := Ext.tr e e'
    clear e'
    refine tl_as hf rfl (by decide) fun a hf => ?_
    refine tl_nil ?_
    refine wret ?_
    try simp only [Exit.then, Exit.inBlock]
    refine ret1 rfl hf rfl ?_
    rintro _ rfl
    exact ⟨_, rfl, e, congrArg I (by rw [hvTo, List.take_length]; rfl)⟩

def lightR (xs : List RB) (b : Int) : List Int := (kids xs b).filter fun k => k != heavyR xs b
theorem lightR_spec {G : Nat → Prop} (xs : List RB) (hl : xs.length ≤ 4096) (V : Vals xs) (b : Int) (v : Value) (W : World) (h : (Dv rtE G xs).p v W) (hG : ∀ b, G b → b < W.heap.size) :
    Calls Tryd.prog 53 #[v, I b] W (Post (Dv (slE intE) G (lightR xs b)) W) := by
  have hkl := kids_len xs b
  refine enter (args := [v, I b]) (As := [Dv rtE (GB W G) xs, E (I b)]) Tryd.func53 rfl Tryd.ntmps53 (Nat.le_of_ble_eq_true rfl) ?_ (fun a hf => ?_) (Nat.le_of_ble_eq_true rfl)
  rotate_left
  dsimp only [params, Nat.reduceAdd] at hf
  rotate_right
  · exact arg2 (Dv.toB h) rfl
  have e := Ext.rfl' W
  repeat refine seq ?_
  refine regn0 ?_
  refine tl_as hf rfl (by decide) fun a hf => ?_
  refine tl_nil ?_
  repeat refine seq ?_
  refine regn 3 hf (by decide +kernel) ?_
  refine st (mv rfl) ?_
  refine st (mv rfl) ?_
  refine st (call2 En44 rfl rfl (fun v u w he h h' => by cases h'; exact kids_spec (G := G) _ _ _ _ (Dv.weak h fun b _ => .inl) (fun b hb => Nat.lt_of_lt_of_le (hG b hb) (Nat.le_trans e.size he.size)) hl)) ?_
  refine en fun a w e' hf => ?_
  replace e := Ext.tr e e'
  clear e'
  refine tl_as hf rfl (by decide) fun a hf => ?_
  refine tl_nil ?_
  repeat refine seq ?_
  refine regn 3 hf (by decide +kernel) ?_
  refine st (mv rfl) ?_
  refine st (mv rfl) ?_
  refine st (call2 En52 rfl rfl (fun v u w he h h' => by cases h'; exact heavyR_spec _ hl V _ _ _ h)) ?_
  refine en fun a w e' hf => ?_
  replace e := Ext.tr e e'
  clear e'
  refine tl_as hf rfl (by decide) fun a hf => ?_
  refine tl_nil ?_
  refine rebase e ?_
  replace hG : ∀ b, G b → b < w.heap.size := fun b hb => Nat.lt_of_lt_of_le (hG b hb) e.size
  clear e
  replace hf := hf.upd 0 rfl (fun v => Dv.reB)
  replace hf := hf.upd 5 rfl (fun v => Dv.toB (G := G))
  generalize w = W at *
  have e := Ext.rfl' W
  replace hf := hf.keep [0, 1, 5, 6]
  dsimp only [keep, List.filterMap, look, Nat.beq, Option.map] at hf
  repeat refine seq ?_
  refine regn0 ?_
  refine tl_as hf rfl (by decide) fun a hf => ?_
  refine tl_nil ?_
  repeat refine seq ?_
  refine regn0 ?_
  refine tl_as hf rfl (by decide) fun a hf => ?_
  refine tl_nil ?_
  replace hf := hf.keep [5, 6, 7, 8]
  dsimp only [keep, List.filterMap, look, Nat.beq, Option.map] at hf
  repeat refine seq ?_
  refine blk (loopN (fun r0 a w => ∃ (k : Nat) (u : Value), r0 = (kids xs b).length - k ∧ k ≤ (kids xs b).length ∧ Fr 35 a w [(5, Dv (slE intE) (GB W G) (kids xs b)), (6, E (I (heavyR xs b))), (7, E u), (8, E (I k))] ∧ Ext W w ∧ OwR intE 3 W.heap.size G w (((kids xs b).take k).filter fun x => x != heavyR xs b) u) (kids xs b).length ⟨0, _, rfl, by omega, hf, e, OwR.nil intE _ (Nat.le_refl _) hG⟩ ?_)
  clear hf e; try clear Ho
  rintro r0 a w ⟨k, u, rfl, hk, hf, e, Ho⟩
  repeat refine seq ?_
  refine regn 4 hf (by decide +kernel) ?_
  refine st (mv rfl) ?_
  refine st (mv rfl) ?_
  refine st (lenD Tryd.underlying43 (isR rfl)) ?_
  refine st (lss rfl rfl) ?_
  refine en fun a w e' hf => ?_
  replace e := Ext.tr e e'
  replace Ho := Ho.ext e'
  clear e'
  refine tl_nil ?_
  repeat refine seq ?_
  refine ifc hf rfl (fun hc => wskip ?_) (fun hc => wexit ?_)
  rotate_left
  rotate_left
  · have hlt : k < (kids xs b).length := by have := of_decide_eq_true hc; (try dsimp only at this); omega
    clear hc
    replace hf := hf.keep [5, 6, 7, 8]
    dsimp only [keep, List.filterMap, look, Nat.beq, Option.map] at hf
    repeat refine seq ?_
    refine blk ?_
    repeat refine seq ?_
    refine regn 6 hf (by decide +kernel) ?_
    refine st (mv rfl) ?_
    refine st (mv rfl) ?_
    refine st (idxD Tryd.underlying43 S3 (isR rfl) rfl (by omega) (gi_get hlt)) ?_
    refine st (ldI T3 (isR rfl)) ?_
    refine st (mv rfl) ?_
    refine st (neq rfl rfl) ?_
    refine en fun a w e' hf => ?_
    replace e := Ext.tr e e'
    replace Ho := Ho.ext e'
    clear e'
    refine tl_nil ?_
    have hsel := filter_take_len (r := kids xs b) (k := k) (fun x => x != heavyR xs b)
    repeat refine seq ?_
    refine ifc hf rfl (fun hb => ?_) (fun hb => ?_)
    · replace hf := hf.keep [5, 6, 7, 8]
      dsimp only [keep, List.filterMap, look, Nat.beq, Option.map] at hf
      repeat refine seq ?_
      refine regn 6 hf (by decide +kernel) ?_
      refine st (mv rfl) ?_
      refine st (mv rfl) ?_
      refine st (mv rfl) ?_
      refine st (idxD Tryd.underlying43 S3 (isR rfl) rfl (by omega) (gi_get hlt)) ?_
      refine st (ldI T3 (isR rfl)) ?_
      refine st (bsl1 Tryd.underlying43 I3 rfl (by decide) rfl Ho.avs (isI rfl)) ?_
      refine en fun a w e' hf => ?_
      replace e := Ext.tr e e'
      replace Ho := Ho.ext e'
      clear e'
      haveI hin : ∀ G0, InR (GB W G0) _ := OwR.inGB Ho (Nat.le_refl _)
      refine tl_app Tryd.underlying43 I3 rfl rfl hf (by decide) rfl Ho (isR rfl) (by simp only [List.length_singleton]; omega) (by simp only [List.length_singleton, maxLen]; omega) fun a v w hg hat Hn hf => ?_
      replace e := e.gro hg (Ho.row (Nat.le_refl _))
      replace Ho := Hn; clear Hn hg hat hin
      refine tl_as hf rfl (by decide) fun a hf => ?_
      refine tl_nil ?_
      try simp only [Exit.then, Exit.inBlock, ↓reduceIte]
      repeat refine seq ?_
      refine regn 2 hf (by decide +kernel) ?_
      refine st (mv rfl) ?_
      refine st ((add rfl rfl (by omega)).eq (congrArg (Value.int .i64) (show (k : Int) + 1 = ((k + 1 : Nat) : Int) from rfl))) ?_
      refine en fun a w e' hf => ?_
      replace e := Ext.tr e e'
      replace Ho := Ho.ext e'
      clear e'
      refine tl_as hf rfl (by decide) fun a hf => ?_
      refine tl_nil ?_
      replace hf := hf.keep [5, 6, 7, 8]
      dsimp only [keep, List.filterMap, look, Nat.beq, Option.map] at hf
      refine ⟨_, ?_, k + 1, _, rfl, by omega, hf, e, ?_⟩
      · omega
      rw [filter_take _ hlt, if_pos hb]; exact Ho
    · refine wskip ?_
      try simp only [Exit.then, Exit.inBlock, ↓reduceIte]
      try simp only [Exit.then, Exit.inBlock, ↓reduceIte]
      repeat refine seq ?_
      refine regn 2 hf (by decide +kernel) ?_
      refine st (mv rfl) ?_
      refine st ((add rfl rfl (by omega)).eq (congrArg (Value.int .i64) (show (k : Int) + 1 = ((k + 1 : Nat) : Int) from rfl))) ?_
      refine en fun a w e' hf => ?_
      replace e := Ext.tr e e'
      replace Ho := Ho.ext e'
      clear e'
      refine tl_as hf rfl (by decide) fun a hf => ?_
      refine tl_nil ?_
      replace hf := hf.keep [5, 6, 7, 8]
      dsimp only [keep, List.filterMap, look, Nat.beq, Option.map] at hf
      refine ⟨_, ?_, k + 1, _, rfl, by omega, hf, e, ?_⟩
      · omega
      rw [filter_take _ hlt, if_neg (by rw [hb]; decide)]; exact Ho
  · obtain rfl : k = (kids xs b).length := by have := of_decide_eq_false hc; (try dsimp only at this); omega
    clear hc
    simp only [Exit.then, Exit.inBlock, ↓reduceIte]
    repeat refine seq ?_
    refine regn 1 hf (by decide +kernel) ?_
    refine st (mv rfl) ?_
    refine en fun a w e' hf => ?_
    replace e := Ext.tr e e'
    replace Ho := Ho.ext e'
    clear e'
    refine tl_as hf rfl (by decide) fun a hf => ?_
    refine tl_nil ?_
    refine wret ?_
    try simp only [Exit.then, Exit.inBlock]
    refine ret1 rfl hf rfl ?_
    rintro _ rfl
    exact ⟨_, rfl, e, (by rw [List.take_length] at Ho; exact Ho.sl)⟩

def wayF (xs : List RB) : Nat → Int → List Int
  | 0, _ => []
  | f + 1, b => if b < 0 then [] else b :: wayF xs f (heavyR xs b)
def wayR (xs : List RB) (b : Int) : List Int := wayF xs (xs.length + 2) b
theorem heavyR_ok (xs : List RB) (b : Int) : heavyR xs b = -1 ∨ ∃ i : Nat, i < xs.length ∧ up xs i = b ∧ heavyR xs b = (i : Int) := by
  have := hvTo_ok (xs := xs) (b := b) _ (Nat.le_refl _)
  rwa [hvTo, List.take_length] at this

theorem wayR_spec {G : Nat → Prop} (xs : List RB) (hl : xs.length ≤ 4096) (V : Vals xs) (b : Int) (v : Value) (W : World) (h : (Dv rtE G xs).p v W) (hG : ∀ b, G b → b < W.heap.size) (hb : b < 0 ∨ ∃ j : Nat, j < xs.length ∧ b = (j : Int)) :
    Calls Tryd.prog 54 #[v, I b] W (Post (Dv (slE intE) G (wayR xs b)) W) := by
  refine enter (args := [v, I b]) (As := [Dv rtE (GB W G) xs, E (I b)]) Tryd.func54 rfl Tryd.ntmps54 (Nat.le_of_ble_eq_true rfl) ?_ (fun a hf => ?_) (Nat.le_of_ble_eq_true rfl)
  rotate_left
  dsimp only [params, Nat.reduceAdd] at hf
  rotate_right
  · exact arg2 (Dv.toB h) rfl
  have e := Ext.rfl' W
  repeat refine seq ?_
  refine regn0 ?_
  refine tl_as hf rfl (by decide) fun a hf => ?_
  refine tl_nil ?_
  repeat refine seq ?_
  refine regn0 ?_
  refine tl_as hf rfl (by decide) fun a hf => ?_
  refine tl_nil ?_
  have Ho : OwR intE 3 W.heap.size G W [] (.slice none 0 0) := OwR.nil intE _ (Nat.le_refl _) hG
  replace hf := hf.keep [0, 1, 5]
  dsimp only [keep, List.filterMap, look, Nat.beq, Option.map] at hf
  repeat refine seq ?_
  refine blk (loopN (fun f a w => ∃ (c : Int) (out : List Int) (u : Value), f + out.length = xs.length + 2 ∧ (c < 0 ∨ ∃ j : Nat, j < xs.length ∧ c = (j : Int) ∧ xs.length + 1 - depthR xs j < f) ∧ Fr 16 a w [(0, Dv rtE (GB W G) xs), (1, E (I c)), (5, E u)] ∧ Ext W w ∧ wayR xs b = out ++ wayF xs f c ∧
    OwR intE 3 W.heap.size G w out u) (xs.length + 2) ⟨b, [], _, rfl, by rcases hb with hb | ⟨j, h1, h2⟩; exact .inl hb; exact .inr ⟨j, h1, h2, by omega⟩, hf, e, rfl, Ho⟩ ?_)
  clear hf e Ho
  rintro f a w ⟨c, out, u, hf0, hc, hf, e, ha, Ho⟩
  repeat refine seq ?_
  refine regn 2 hf (by decide +kernel) ?_
  refine st (mv rfl) ?_
  refine st (geq rfl rfl) ?_
  refine en fun a w e' hf => ?_
  replace e := Ext.tr e e'
  replace Ho := Ho.ext e'
  clear e'
  refine tl_nil ?_
  repeat refine seq ?_
  refine ifc hf rfl (fun hb => wskip ?_) (fun hb => wexit ?_)
  · have hb' := of_decide_eq_true hb
    rcases hc with hc | ⟨j, j1, j2, j3⟩
    · omega
    obtain ⟨f, rfl⟩ : ∃ g, f = g + 1 := ⟨f - 1, by omega⟩
    rw [wayF, if_neg (by omega)] at ha
    repeat refine seq ?_
    refine blk ?_
    replace hf := hf.keep [0, 1, 5]
    dsimp only [keep, List.filterMap, look, Nat.beq, Option.map] at hf
    repeat refine seq ?_
    refine regn 3 hf (by decide +kernel) ?_
    refine st (mv rfl) ?_
    refine st (mv rfl) ?_
    refine st (bsl1 Tryd.underlying43 I3 rfl (by decide) rfl Ho.avs (isI rfl)) ?_
    refine en fun a w e' hf => ?_
    replace e := Ext.tr e e'
    replace Ho := Ho.ext e'
    clear e'
    haveI hin : ∀ G0, InR (GB W G0) _ := OwR.inGB Ho (Nat.le_refl _)
    refine tl_app Tryd.underlying43 I3 rfl rfl hf (by decide) rfl Ho (isR rfl) (by simp only [List.length_singleton]; omega) (by simp only [List.length_singleton, maxLen]; omega) fun a v w hg hat Hn hf => ?_
    replace e := e.gro hg (Ho.row (Nat.le_refl _))
    replace Ho := Hn; clear Hn hg hat hin
    refine tl_as hf rfl (by decide) fun a hf => ?_
    refine tl_nil ?_
    replace hf := hf.keep [0, 1, 5]
    dsimp only [keep, List.filterMap, look, Nat.beq, Option.map] at hf
    repeat refine seq ?_
    refine regn 3 hf (by decide +kernel) ?_
    refine st (mv rfl) ?_
    refine st (mv rfl) ?_
    refine st (call2 En52 rfl rfl (fun v u w he h h' => by cases h'; exact heavyR_spec _ hl V _ _ _ h)) ?_
    refine en fun a w e' hf => ?_
    replace e := Ext.tr e e'
    replace Ho := Ho.ext e'
    clear e'
    refine tl_as hf rfl (by decide) fun a hf => ?_
    refine tl_nil ?_
    try simp only [Exit.then, Exit.inBlock, ↓reduceIte]
    replace hf := hf.keep [0, 1, 5]
    dsimp only [keep, List.filterMap, look, Nat.beq, Option.map] at hf
    refine ⟨f, Nat.lt_succ_self _, heavyR xs c, out ++ [c], _, ?_, ?_, hf, e, ?_, Ho⟩
    · simp only [List.length_append, List.length_singleton]; omega
    · rcases heavyR_ok xs c with h | ⟨i, i1, i2, i3⟩
      · exact .inl (by omega)
      · refine .inr ⟨i, i1, i3, ?_⟩
        have := depth_step V i1 (i2.trans j2)
        have := depth_le V i1
        omega
    · rw [ha]; simp
  · have hb' := of_decide_eq_false hb
    simp only [Exit.then, Exit.inBlock, ↓reduceIte]
    have ha' : wayR xs b = out := by
      rw [ha]
      cases f with
      | zero => rw [wayF]; simp
      | succ f => rw [wayF, if_pos (by omega)]; simp
    repeat refine seq ?_
    refine regn 1 hf (by decide +kernel) ?_
    refine st (mv rfl) ?_
    refine en fun a w e' hf => ?_
    replace e := Ext.tr e e'
    replace Ho := Ho.ext e'
    clear e'
    refine tl_as hf rfl (by decide) fun a hf => ?_
    refine tl_nil ?_
    refine wret ?_
    try simp only [Exit.then, Exit.inBlock]
    refine ret1 rfl hf rfl ?_
    rintro _ rfl
    exact ⟨_, rfl, e, (by rw [ha']; exact Ho.sl)⟩
end Go.Mono

set_option linter.unusedVariables false
namespace Go.Mono
open Go Go.Proofs Go.RowKit

open Classical in
noncomputable def newR (xs : List RB) : Int := if chkR xs ≠ 0 then chkR xs else if ∀ i, i < xs.length → (hs xs i).length ≤ 4 then 0 else 14
theorem newR_spec {G : Nat → Prop} (xs : List RB) (v : Value) (W : World) (h : (Dv rtE G xs).p v W) (hl : xs.length ≤ 1024) (hh : ∀ i, i < xs.length → (hs xs i).length ≤ 4096) :
    Calls Tryd.prog 33 #[v] W (Post (E (I (newR xs))) W) := by
  refine enter (args := [v]) (As := [Dv rtE G xs]) Tryd.func33 rfl Tryd.ntmps33 (Nat.le_of_ble_eq_true rfl) ?_ (fun a hf => ?_) (Nat.le_of_ble_eq_true rfl)
  rotate_left
  dsimp only [params, Nat.reduceAdd] at hf
  rotate_right
  · exact arg1 h
  have e := Ext.rfl' W
  repeat refine seq ?_
  refine regn0 ?_
  refine tl_as hf rfl (by decide) fun a hf => ?_
  refine tl_nil ?_
  repeat refine seq ?_
  refine regn 2 hf (by decide +kernel) ?_
  refine st (mv rfl) ?_
  refine st (call1 En110 rfl (fun v w he h => chkR_spec _ _ _ h (by omega) hh)) ?_
  refine en fun a w e' hf => ?_
  replace e := Ext.tr e e'
  clear e'
  refine tl_as hf rfl (by decide) fun a hf => ?_
  refine tl_nil ?_
  repeat refine seq ?_
  refine regn 2 hf (by decide +kernel) ?_
  refine st (mv rfl) ?_
  refine st (neq rfl rfl) ?_
  refine en fun a w e' hf => ?_
  replace e := Ext.tr e e'
  clear e'
  refine tl_nil ?_
  repeat refine seq ?_
  refine ifc hf rfl (fun hb => ?_) (fun hb => ?_)
  · have hb' : chkR xs ≠ 0 := by simpa using hb
    repeat refine seq ?_
    refine regn 1 hf (by decide +kernel) ?_
    refine st (mv rfl) ?_
    refine en fun a w e' hf => ?_
    replace e := Ext.tr e e'
    clear e'
    refine tl_as hf rfl (by decide) fun a hf => ?_
    refine tl_nil ?_
    refine wret ?_
    try simp only [Exit.then, Exit.inBlock]
    refine ret1 rfl hf rfl ?_
    rintro _ rfl
    exact ⟨_, rfl, e, congrArg I (by rw [newR, if_pos hb'])⟩
  · have hb' : ¬ chkR xs ≠ 0 := by simpa using hb
    refine wskip ?_
    try simp only [Exit.then, Exit.inBlock, ↓reduceIte]
    repeat refine seq ?_
    refine regn 3 hf (by decide +kernel) ?_
    refine st (mv rfl) ?_
    refine st (lenD Tryd.underlying26 (isR rfl)) ?_
    refine st ((gtr rfl rfl).eq (congrArg Value.bool (show decide ((1024 : Int) < (xs.length : Nat)) = false from decide_eq_false (by omega)))) ?_
    refine en fun a w e' hf => ?_
    replace e := Ext.tr e e'
    clear e'
    refine tl_nil ?_
    repeat refine seq ?_
    refine ifc hf rfl (fun h => by cases h) (fun _ => ?_)
    refine wskip ?_
    try simp only [Exit.then, Exit.inBlock, ↓reduceIte]
    repeat refine seq ?_
    refine regn0 ?_
    refine tl_as hf rfl (by decide) fun a hf => ?_
    refine tl_nil ?_
    replace hf := hf.keep [0, 4]
    dsimp only [keep, List.filterMap, look, Nat.beq, Option.map] at hf
    repeat refine seq ?_
    refine blk (loopN (fun r0 a w => ∃ (k : Nat) , r0 = xs.length - k ∧ k ≤ xs.length ∧ Fr 26 a w [(0, Dv rtE G xs), (4, E (I k))] ∧ Ext W w ∧ ∀ i, i < k → (hs xs i).length ≤ 4) xs.length ⟨0, rfl, by omega, hf, e, (fun i hi => by omega)⟩ ?_)
    clear hf e; try clear Ho
    rintro r0 a w ⟨k, rfl, hk, hf, e, Ho⟩
    repeat refine seq ?_
    refine regn 4 hf (by decide +kernel) ?_
    refine st (mv rfl) ?_
    refine st (mv rfl) ?_
    refine st (lenD Tryd.underlying26 (isR rfl)) ?_
    refine st (lss rfl rfl) ?_
    refine en fun a w e' hf => ?_
    replace e := Ext.tr e e'
    clear e'
    refine tl_nil ?_
    repeat refine seq ?_
    refine ifc hf rfl (fun hc => wskip ?_) (fun hc => wexit ?_)
    rotate_left
    rotate_left
    · have hlt : k < xs.length := by have := of_decide_eq_true hc; (try dsimp only at this); omega
      clear hc
      replace hf := hf.keep [0, 4]
      dsimp only [keep, List.filterMap, look, Nat.beq, Option.map] at hf
      repeat refine seq ?_
      refine blk ?_
      repeat refine seq ?_
      refine regn 7 hf (by decide +kernel) ?_
      refine st (mv rfl) ?_
      refine st (mv rfl) ?_
      refine st (idxD Tryd.underlying26 S60 (isR rfl) rfl (by omega) (up_get hlt)) ?_
      refine st (fldD Tryd.underlying60 rfl T57 (by decide) (Fld.snd Fld.refl rfl) (isR rfl)) ?_
      refine st (ldD T57 (isR rfl)) ?_
      refine st (lenD Tryd.underlying57 (isR rfl)) ?_
      refine st (gtr rfl rfl) ?_
      refine en fun a w e' hf => ?_
      replace e := Ext.tr e e'
      clear e'
      refine tl_nil ?_
      repeat refine seq ?_
      refine ifc hf rfl (fun hb => ?_) (fun hb => ?_)
      · have hb2 := of_decide_eq_true hb
        repeat refine seq ?_
        refine regn0 ?_
        refine tl_as hf rfl (by decide) fun a hf => ?_
        refine tl_nil ?_
        refine wret ?_
        try simp only [Exit.then, Exit.inBlock]
        refine ret1 rfl hf rfl ?_
        rintro _ rfl
        exact ⟨_, rfl, e, congrArg I (by rw [newR, if_neg hb', if_neg (fun h => by have := h k hlt; dsimp only at hb2; omega)])⟩
      · have hb2 := of_decide_eq_false hb
        refine wskip ?_
        try simp only [Exit.then, Exit.inBlock, ↓reduceIte]
        try simp only [Exit.then, Exit.inBlock, ↓reduceIte]
        repeat refine seq ?_
        refine regn 2 hf (by decide +kernel) ?_
        refine st (mv rfl) ?_
        refine st ((add rfl rfl (by omega)).eq (congrArg (Value.int .i64) (show (k : Int) + 1 = ((k + 1 : Nat) : Int) from rfl))) ?_
        refine en fun a w e' hf => ?_
        replace e := Ext.tr e e'
        clear e'
        refine tl_as hf rfl (by decide) fun a hf => ?_
        refine tl_nil ?_
        replace hf := hf.keep [0, 4]
        dsimp only [keep, List.filterMap, look, Nat.beq, Option.map] at hf
        refine ⟨_, ?_, k + 1, rfl, by omega, hf, e, ?_⟩
        · omega
        intro i hi
        by_cases hk : i = k
        · subst hk; dsimp only at hb2; omega
        · exact Ho i (by omega)
    · obtain rfl : k = xs.length := by have := of_decide_eq_false hc; (try dsimp only at this); omega
      clear hc
      simp only [Exit.then, Exit.inBlock, ↓reduceIte]
      repeat refine seq ?_
      refine regn0 ?_
      refine tl_as hf rfl (by decide) fun a hf => ?_
      refine tl_nil ?_
      refine wret ?_
      try simp only [Exit.then, Exit.inBlock]
      refine ret1 rfl hf rfl ?_
      rintro _ rfl
      exact ⟨_, rfl, e, congrArg I (by rw [newR, if_neg hb', if_pos Ho])⟩

def isR45 (xs : List RB) (b : Int) : Bool := decide (0 ≤ b ∧ b < xs.length)
theorem isR_spec {G : Nat → Prop} (xs : List RB) (b : Int) (v : Value) (W : World) (h : (Dv rtE G xs).p v W) :
    Calls Tryd.prog 48 #[v, I b] W (Post (E (B (isR45 xs b))) W) := by
  refine enter (args := [v, I b]) (As := [Dv rtE G xs, E (I b)]) Tryd.func48 rfl Tryd.ntmps48 (Nat.le_of_ble_eq_true rfl) ?_ (fun a hf => ?_) (Nat.le_of_ble_eq_true rfl)
  rotate_left
  dsimp only [params, Nat.reduceAdd] at hf
  rotate_right
  · exact arg2 h rfl
  have e := Ext.rfl' W
  repeat refine seq ?_
  refine regn0 ?_
  refine tl_as hf rfl (by decide) fun a hf => ?_
  refine tl_nil ?_
  cases h1 : decide (0 ≤ b)
  · repeat refine seq ?_
    refine regn 8 hf (by decide +kernel) ?_
    refine st (mv rfl) ?_
    refine st ((geq rfl rfl).eq (congrArg Value.bool (h1))) ?_
    refine st (mv rfl) ?_
    first | refine sn rfl rfl rfl ?_ | refine su rfl rfl ?_ | refine sy rfl rfl (mv rfl) ?_
    first | refine sn rfl rfl rfl ?_ | refine su rfl rfl ?_ | refine sy rfl rfl (mv rfl) ?_
    first | refine sn rfl rfl rfl ?_ | refine su rfl rfl ?_ | refine sy rfl rfl (lenD Tryd.underlying26 (isR rfl)) ?_
    first | refine sn rfl rfl rfl ?_ | refine su rfl rfl ?_ | refine sy rfl rfl (lss rfl rfl) ?_
    first | refine st (pkT rfl rfl) ?_ | refine st (pkF rfl rfl) ?_ | refine st (pk rfl rfl rfl) ?_
    refine en fun a w e' hf => ?_
    replace e := Ext.tr e e'
    clear e'
    refine tl_as hf rfl (by decide) fun a hf => ?_
    refine tl_nil ?_
    have h1' := of_decide_eq_false h1
    refine wret ?_
    try simp only [Exit.then, Exit.inBlock]
    refine ret1 rfl hf rfl ?_
    rintro _ rfl
    exact ⟨_, rfl, e, congrArg B (decide_eq_false fun h => h1' h.1).symm⟩
  · repeat refine seq ?_
    refine regn 8 hf (by decide +kernel) ?_
    refine st (mv rfl) ?_
    refine st ((geq rfl rfl).eq (congrArg Value.bool (h1))) ?_
    refine st (mv rfl) ?_
    first | refine sn rfl rfl rfl ?_ | refine su rfl rfl ?_ | refine sy rfl rfl (mv rfl) ?_
    first | refine sn rfl rfl rfl ?_ | refine su rfl rfl ?_ | refine sy rfl rfl (mv rfl) ?_
    first | refine sn rfl rfl rfl ?_ | refine su rfl rfl ?_ | refine sy rfl rfl (lenD Tryd.underlying26 (isR rfl)) ?_
    first | refine sn rfl rfl rfl ?_ | refine su rfl rfl ?_ | refine sy rfl rfl (lss rfl rfl) ?_
    first | refine st (pkT rfl rfl) ?_ | refine st (pkF rfl rfl) ?_ | refine st (pk rfl rfl rfl) ?_
    refine en fun a w e' hf => ?_
    replace e := Ext.tr e e'
    clear e'
    refine tl_as hf rfl (by decide) fun a hf => ?_
    refine tl_nil ?_
    have h1' := of_decide_eq_true h1
    refine wret ?_
    try simp only [Exit.then, Exit.inBlock]
    refine ret1 rfl hf rfl ?_
    rintro _ rfl
    exact ⟨_, rfl, e, congrArg B (by unfold isR45; simp only [h1', true_and])⟩

def sharedR (xs : List RB) (i : Nat) : List Int := if up xs i < 0 then [] else (hs xs i).filter (hasL (hs xs (up xs i).toNat))
theorem sharedR_spec {G : Nat → Prop} (xs : List RB) (i : Nat) (v : Value) (W : World) (h : (Dv rtE G xs).p v W) (hG : ∀ b, G b → b < W.heap.size) (hok : Ok xs) (hi : i < xs.length) :
    Calls Tryd.prog 47 #[v, I (i : Nat)] W (Post (Dv (slE intE) G (sharedR xs i)) W) := by
  refine enter (args := [v, I (i : Nat)]) (As := [Dv rtE G xs, E (I (i : Nat))]) Tryd.func47 rfl Tryd.ntmps47 (Nat.le_of_ble_eq_true rfl) ?_ (fun a hf => ?_) (Nat.le_of_ble_eq_true rfl)
  rotate_left
  dsimp only [params, Nat.reduceAdd] at hf
  rotate_right
  · exact arg2 h rfl
  have e := Ext.rfl' W
  have h1 := hok.up i hi
  repeat refine seq ?_
  refine regn0 ?_
  refine tl_as hf rfl (by decide) fun a hf => ?_
  refine tl_nil ?_
  repeat refine seq ?_
  refine regn 6 hf (by decide +kernel) ?_
  refine st (mv rfl) ?_
  refine st (mv rfl) ?_
  refine st (idxD Tryd.underlying26 S60 (isR rfl) rfl (by omega) (up_get hi)) ?_
  refine st (fldD Tryd.underlying60 rfl T3 (by decide) (Fld.fst Fld.refl) (isR rfl)) ?_
  refine st (ldI T3 (isR rfl)) ?_
  refine st (lss rfl rfl) ?_
  refine en fun a w e' hf => ?_
  replace e := Ext.tr e e'
  clear e'
  refine tl_nil ?_
  repeat refine seq ?_
  refine ifc hf rfl (fun hb => ?_) (fun hb => ?_)
  · have hb' := of_decide_eq_true hb
    replace hf := hf.keep []
    dsimp only [keep, List.filterMap, look, Nat.beq, Option.map] at hf
    repeat refine seq ?_
    refine regn0 ?_
    refine tl_bsl0 W.heap.size G intE Tryd.underlying57 S3 hf (by decide) e.size hG fun a v w e' hov Ho hf => ?_
    replace e := Ext.tr e e'
    clear e'
    refine tl_as hf rfl (by decide) fun a hf => ?_
    refine tl_nil ?_
    refine wret ?_
    try simp only [Exit.then, Exit.inBlock]
    refine ret1 rfl hf rfl ?_
    rintro _ rfl
    exact ⟨_, rfl, e, (by rw [sharedR, if_pos hb']; exact Ho.sl)⟩
  · have hb' := of_decide_eq_false hb
    refine wskip ?_
    try simp only [Exit.then, Exit.inBlock, ↓reduceIte]
    repeat refine seq ?_
    refine reg 15 Mix.mix hf (by decide +kernel) ?_
    refine st (mv rfl) ?_
    refine st (mv rfl) ?_
    refine st (idxD Tryd.underlying26 S60 (isR rfl) rfl (by omega) (up_get hi)) ?_
    refine st (fldD Tryd.underlying60 rfl T57 (by decide) (Fld.snd Fld.refl rfl) (isR rfl)) ?_
    refine st (ldD T57 (isR rfl)) ?_
    refine st (mv rfl) ?_
    refine st (mv rfl) ?_
    refine st (mv rfl) ?_
    refine st (idxD Tryd.underlying26 S60 (isR rfl) rfl (by omega) (up_get hi)) ?_
    refine st (fldD Tryd.underlying60 rfl T3 (by decide) (Fld.fst Fld.refl) (isR rfl)) ?_
    refine st (ldI T3 (isR rfl)) ?_
    refine st (idxD Tryd.underlying26 S60 (isR rfl) rfl (by omega) (up_get (i := (up xs i).toNat) (by omega))) ?_
    refine st (fldD Tryd.underlying60 rfl T57 (by decide) (Fld.snd Fld.refl rfl) (isR rfl)) ?_
    refine st (ldD T57 (isR rfl)) ?_
    refine st (call2 En114 rfl rfl (fun v u w he h h' => and_spec _ _ _ _ _ h h' (fun b hb => Nat.lt_of_lt_of_le (hG b hb) (Nat.le_trans e.size he.size)) (hok.hs i hi) (hok.hs _ (by omega)))) ?_
    refine en fun a w e' hf => ?_
    replace e := Ext.tr e e'
    clear e'
    refine tl_as hf rfl (by decide) fun a hf => ?_
    refine tl_nil ?_
    refine wret ?_
    try simp only [Exit.then, Exit.inBlock]
    refine ret1 rfl hf rfl ?_
    intro v hv
    exact ⟨_, rfl, e, (by rw [sharedR, if_neg hb']; exact hv)⟩

def homeR (xs : List RB) (id : Int) : Int := fstN (topB xs id) xs.length
theorem homeR_spec {G : Nat → Prop} (xs : List RB) (id : Int) (v : Value) (W : World) (h : (Dv rtE G xs).p v W) (hl : xs.length ≤ 4096) (hok : Ok xs) :
    Calls Tryd.prog 20 #[v, I id] W (Post (E (I (homeR xs id))) W) := by
  refine enter (args := [v, I id]) (As := [Dv rtE G xs, E (I id)]) Tryd.func20 rfl Tryd.ntmps20 (Nat.le_of_ble_eq_true rfl) ?_ (fun a hf => ?_) (Nat.le_of_ble_eq_true rfl)
  rotate_left
  dsimp only [params, Nat.reduceAdd] at hf
  rotate_right
  · exact arg2 h rfl
  have e := Ext.rfl' W
  repeat refine seq ?_
  refine regn0 ?_
  refine tl_as hf rfl (by decide) fun a hf => ?_
  refine tl_nil ?_
  repeat refine seq ?_
  refine regn0 ?_
  refine tl_as hf rfl (by decide) fun a hf => ?_
  refine tl_nil ?_
  replace hf := hf.keep [0, 1, 5]
  dsimp only [keep, List.filterMap, look, Nat.beq, Option.map] at hf
  repeat refine seq ?_
  refine blk (loopN (fun r0 a w => ∃ (k : Nat) , r0 = xs.length - k ∧ k ≤ xs.length ∧ Fr 42 a w [(0, Dv rtE G xs), (1, E (I id)), (5, E (I k))] ∧ Ext W w ∧ ∀ i, i < k → topB xs id i = false) xs.length ⟨0, rfl, by omega, hf, e, (fun i hi => by omega)⟩ ?_)
  clear hf e; try clear Ho
  rintro r0 a w ⟨k, rfl, hk, hf, e, Ho⟩
  repeat refine seq ?_
  refine regn 4 hf (by decide +kernel) ?_
  refine st (mv rfl) ?_
  refine st (mv rfl) ?_
  refine st (lenD Tryd.underlying26 (isR rfl)) ?_
  refine st (lss rfl rfl) ?_
  refine en fun a w e' hf => ?_
  replace e := Ext.tr e e'
  clear e'
  refine tl_nil ?_
  repeat refine seq ?_
  refine ifc hf rfl (fun hc => wskip ?_) (fun hc => wexit ?_)
  rotate_left
  rotate_left
  · have hlt : k < xs.length := by have := of_decide_eq_true hc; (try dsimp only at this); omega
    clear hc
    replace hf := hf.keep [0, 1, 5]
    dsimp only [keep, List.filterMap, look, Nat.beq, Option.map] at hf
    repeat refine seq ?_
    refine blk ?_
    have hx := up_get hlt
    obtain ⟨c, hc0⟩ : ∃ c : Bool, c = topB xs id k := ⟨_, rfl⟩
    repeat refine seq ?_
    refine cut (J := fun a w => Fr 42 a w [(0, Dv rtE G xs), (1, E (I id)), (5, E (I k)), (40, E (B c))] ∧ Ext W w ∧ True) ?_ (fun a w hJ => ?_)
    · cases h1 : hasL (hs xs k) id
      all_goals cases h2 : decide (up xs k < 0)
      all_goals cases h3 : hasL (hs xs (up xs k).toNat) id
      all_goals try have h2' := of_decide_eq_false h2
      all_goals
        repeat refine seq ?_
        refine regn 29 hf (by decide +kernel) ?_
        refine st (mv rfl) ?_
        refine st (mv rfl) ?_
        refine st (idxD Tryd.underlying26 S60 (isR rfl) rfl (by omega) (hx)) ?_
        refine st (fldD Tryd.underlying60 rfl T57 (by decide) (Fld.snd Fld.refl rfl) (isR rfl)) ?_
        refine st (ldD T57 (isR rfl)) ?_
        refine st (mv rfl) ?_
        refine st ((call2 En84 rfl rfl (fun v u w he h h' => by cases h'; exact hasL_spec _ _ _ _ h (hok.hs k hlt))).eq (congrArg Value.bool (h1))) ?_
        refine st (mv rfl) ?_
        first | refine sn rfl rfl rfl ?_ | refine su rfl rfl ?_ | refine sy rfl rfl (mv rfl) ?_
        first | refine sn rfl rfl rfl ?_ | refine su rfl rfl ?_ | refine sy rfl rfl (mv rfl) ?_
        first | refine sn rfl rfl rfl ?_ | refine su rfl rfl ?_ | refine sy rfl rfl (idxD Tryd.underlying26 S60 (isR rfl) rfl (by omega) (hx)) ?_
        first | refine sn rfl rfl rfl ?_ | refine su rfl rfl ?_ | refine sy rfl rfl (fldD Tryd.underlying60 rfl T3 (by decide) (Fld.fst Fld.refl) (isR rfl)) ?_
        first | refine sn rfl rfl rfl ?_ | refine su rfl rfl ?_ | refine sy rfl rfl (ldI T3 (isR rfl)) ?_
        first | refine sn rfl rfl rfl ?_ | refine su rfl rfl ?_ | refine sy rfl rfl ((lss rfl rfl).eq (congrArg Value.bool (h2))) ?_
        first | refine sn rfl rfl rfl ?_ | refine su rfl rfl ?_ | refine sy rfl rfl (mv rfl) ?_
        first | refine sn rfl rfl rfl ?_ | refine su rfl rfl ?_ | refine sy rfl rfl (mv rfl) ?_
        first | refine sn rfl rfl rfl ?_ | refine su rfl rfl ?_ | refine sy rfl rfl (mv rfl) ?_
        first | refine sn rfl rfl rfl ?_ | refine su rfl rfl ?_ | refine sy rfl rfl (mv rfl) ?_
        first | refine sn rfl rfl rfl ?_ | refine su rfl rfl ?_ | refine sy rfl rfl (idxD Tryd.underlying26 S60 (isR rfl) rfl (by omega) (hx)) ?_
        first | refine sn rfl rfl rfl ?_ | refine su rfl rfl ?_ | refine sy rfl rfl (fldD Tryd.underlying60 rfl T3 (by decide) (Fld.fst Fld.refl) (isR rfl)) ?_
        first | refine sn rfl rfl rfl ?_ | refine su rfl rfl ?_ | refine sy rfl rfl (ldI T3 (isR rfl)) ?_
        first | refine sn rfl rfl rfl ?_ | refine su rfl rfl ?_ | refine sy rfl rfl (idxD Tryd.underlying26 S60 (isR rfl) rfl (by omega) (up_get (i := (up xs k).toNat) (by have := hok.up k hlt; omega))) ?_
        first | refine sn rfl rfl rfl ?_ | refine su rfl rfl ?_ | refine sy rfl rfl (fldD Tryd.underlying60 rfl T57 (by decide) (Fld.snd Fld.refl rfl) (isR rfl)) ?_
        first | refine sn rfl rfl rfl ?_ | refine su rfl rfl ?_ | refine sy rfl rfl (ldD T57 (isR rfl)) ?_
        first | refine sn rfl rfl rfl ?_ | refine su rfl rfl ?_ | refine sy rfl rfl (mv rfl) ?_
        first | refine sn rfl rfl rfl ?_ | refine su rfl rfl ?_ | refine sy rfl rfl ((call2 En84 rfl rfl (fun v u w he h h' => by cases h'; exact hasL_spec _ _ _ _ h (hok.hs _ (by have := hok.up k hlt; omega)))).eq (congrArg Value.bool (h3))) ?_
        first | refine sn rfl rfl rfl ?_ | refine su rfl rfl ?_ | refine sy rfl rfl (notp rfl) ?_
        first | refine sn rfl rfl rfl ?_ | refine su rfl rfl ?_ | refine sy rfl rfl (pkT rfl rfl) ?_ | refine sy rfl rfl (pkF rfl rfl) ?_ | refine sy rfl rfl (pk rfl rfl rfl) ?_
        first | refine st ((pkT rfl rfl).eq (show Value.bool _ = B c from congrArg Value.bool ((topB_eq h1 h2 h3).trans hc0.symm))) ?_ | refine st ((pkF rfl rfl).eq (show Value.bool _ = B c from congrArg Value.bool ((topB_eq h1 h2 h3).trans hc0.symm))) ?_ | refine st ((pk rfl rfl rfl).eq (show Value.bool _ = B c from congrArg Value.bool ((topB_eq h1 h2 h3).trans hc0.symm))) ?_
        refine en fun a w e' hf => ?_
        replace e := Ext.tr e e'
        clear e'
        refine tl_nil ?_
        replace hf := hf.keep [0, 1, 5, 40]
        dsimp only [keep, List.filterMap, look, Nat.beq, Option.map] at hf
        exact ⟨rfl, hf, e, trivial⟩
    clear hf e 
    obtain ⟨hf, e, _⟩ := hJ
    try simp only [Exit.then]
    repeat refine seq ?_
    refine ifc hf rfl (fun hb => ?_) (fun hb => ?_)
    · repeat refine seq ?_
      refine regn 1 hf (by decide +kernel) ?_
      refine st (mv rfl) ?_
      refine en fun a w e' hf => ?_
      replace e := Ext.tr e e'
      clear e'
      refine tl_as hf rfl (by decide) fun a hf => ?_
      refine tl_nil ?_
      refine wret ?_
      try simp only [Exit.then, Exit.inBlock]
      refine ret1 rfl hf rfl ?_
      rintro _ rfl
      exact ⟨_, rfl, e, congrArg I (fstN_hit hlt Ho (hc0 ▸ hb)).symm⟩
    · refine wskip ?_
      try simp only [Exit.then, Exit.inBlock, ↓reduceIte]
      try simp only [Exit.then, Exit.inBlock, ↓reduceIte]
      repeat refine seq ?_
      refine regn 2 hf (by decide +kernel) ?_
      refine st (mv rfl) ?_
      refine st ((add rfl rfl (by omega)).eq (congrArg (Value.int .i64) (show (k : Int) + 1 = ((k + 1 : Nat) : Int) from rfl))) ?_
      refine en fun a w e' hf => ?_
      replace e := Ext.tr e e'
      clear e'
      refine tl_as hf rfl (by decide) fun a hf => ?_
      refine tl_nil ?_
      replace hf := hf.keep [0, 1, 5]
      dsimp only [keep, List.filterMap, look, Nat.beq, Option.map] at hf
      refine ⟨_, ?_, k + 1, rfl, by omega, hf, e, ?_⟩
      · omega
      intro i hi
      by_cases hk : i = k
      · subst hk; exact hc0 ▸ hb
      · exact Ho i (by omega)
  · obtain rfl : k = xs.length := by have := of_decide_eq_false hc; (try dsimp only at this); omega
    clear hc
    simp only [Exit.then, Exit.inBlock, ↓reduceIte]
    repeat refine seq ?_
    refine regn0 ?_
    refine tl_as hf rfl (by decide) fun a hf => ?_
    refine tl_nil ?_
    refine wret ?_
    try simp only [Exit.then, Exit.inBlock]
    refine ret1 rfl hf rfl ?_
    rintro _ rfl
    exact ⟨_, rfl, e, congrArg I (fstN_none Ho).symm⟩

def bothB (xs : List RB) (u v : Int) (i : Nat) : Bool := hasL (hs xs i) u && hasL (hs xs i) v
/-- a vertex of some bag has a home -/
theorem homeR_ok {xs : List RB} (V : Vals xs) (id : Int) {i : Nat} (hi : i < xs.length) (h : hasL (hs xs i) id = true) : ∃ j : Nat, j < xs.length ∧ homeR xs id = (j : Int) := by
  have : ∃ j, j < xs.length ∧ topB xs id j = true := by
    revert h
    refine tree_ind V (p := fun i => hasL (hs xs i) id = true → ∃ j, j < xs.length ∧ topB xs id j = true) (fun i hi hu h => ⟨i, hi, ?_⟩) (fun i j hi hj hu ih h => ?_) i hi
    · rw [topB, h, hu]; rfl
    · cases hj2 : hasL (hs xs j) id
      · refine ⟨i, hi, ?_⟩
        rw [topB, h, hu, Int.toNat_natCast, hj2]; simp
      · exact ih hj2
  obtain ⟨m, hm, hmin⟩ := least (p := fun j => j < xs.length ∧ topB xs id j = true) this
  refine ⟨m, hm.1, fstN_hit hm.1 (fun i hi => ?_) hm.2⟩
  cases ht : topB xs id i
  · rfl
  · exact absurd ⟨by omega, ht⟩ (hmin i hi)
noncomputable def homeEdgeR (xs : List RB) (u v : Int) : Int := if u = v then -1 else if fstN (bothB xs u v) xs.length = -1 then -1 else
  if depthR xs (homeR xs v).toNat < depthR xs (homeR xs u).toNat then homeR xs u else homeR xs v

theorem homeEdgeR_spec {G : Nat → Prop} (xs : List RB) (x y : Int) (v : Value) (W : World) (h : (Dv rtE G xs).p v W) (hl : xs.length ≤ 4096) (hok : Ok xs) (V : Vals xs) :
    Calls Tryd.prog 21 #[v, I x, I y] W (Post (E (I (homeEdgeR xs x y))) W) := by
  refine enter (args := [v, I x, I y]) (As := [Dv rtE G xs, E (I x), E (I y)]) Tryd.func21 rfl Tryd.ntmps21 (Nat.le_of_ble_eq_true rfl) ?_ (fun a hf => ?_) (Nat.le_of_ble_eq_true rfl)
  rotate_left
  dsimp only [params, Nat.reduceAdd] at hf
  rotate_right
  · exact arg3 h rfl rfl
  have e := Ext.rfl' W
  repeat refine seq ?_
  refine regn0 ?_
  refine tl_as hf rfl (by decide) fun a hf => ?_
  refine tl_nil ?_
  repeat refine seq ?_
  refine regn 3 hf (by decide +kernel) ?_
  refine st (mv rfl) ?_
  refine st (mv rfl) ?_
  refine st (eql rfl rfl) ?_
  refine en fun a w e' hf => ?_
  replace e := Ext.tr e e'
  clear e'
  refine tl_nil ?_
  repeat refine seq ?_
  refine ifc hf rfl (fun hb => ?_) (fun hb => ?_)
  · have hb' : x = y := by simpa using hb
    repeat refine seq ?_
    refine regn0 ?_
    refine tl_as hf rfl (by decide) fun a hf => ?_
    refine tl_nil ?_
    refine wret ?_
    try simp only [Exit.then, Exit.inBlock]
    refine ret1 rfl hf rfl ?_
    rintro _ rfl
    exact ⟨_, rfl, e, congrArg I (by rw [homeEdgeR, if_pos hb'])⟩
  · have hb' : ¬ x = y := by simpa using hb
    refine wskip ?_
    try simp only [Exit.then, Exit.inBlock, ↓reduceIte]
    repeat refine seq ?_
    refine regn0 ?_
    refine tl_as hf rfl (by decide) fun a hf => ?_
    refine tl_nil ?_
    replace hf := hf.keep [0, 1, 2, 7]
    dsimp only [keep, List.filterMap, look, Nat.beq, Option.map] at hf
    repeat refine seq ?_
    refine blk (loopN (fun r0 a w => ∃ (k : Nat) , r0 = xs.length - k ∧ k ≤ xs.length ∧ Fr 50 a w [(0, Dv rtE G xs), (1, E (I x)), (2, E (I y)), (7, E (I k))] ∧ Ext W w ∧ ∀ i, i < k → bothB xs x y i = false) xs.length ⟨0, rfl, by omega, hf, e, (fun i hi => by omega)⟩ ?_)
    clear hf e; try clear Ho
    rintro r0 a w ⟨k, rfl, hk, hf, e, Ho⟩
    repeat refine seq ?_
    refine regn 4 hf (by decide +kernel) ?_
    refine st (mv rfl) ?_
    refine st (mv rfl) ?_
    refine st (lenD Tryd.underlying26 (isR rfl)) ?_
    refine st (lss rfl rfl) ?_
    refine en fun a w e' hf => ?_
    replace e := Ext.tr e e'
    clear e'
    refine tl_nil ?_
    repeat refine seq ?_
    refine ifc hf rfl (fun hc => wskip ?_) (fun hc => wexit ?_)
    rotate_left
    rotate_left
    · have hlt : k < xs.length := by have := of_decide_eq_true hc; (try dsimp only at this); omega
      clear hc
      replace hf := hf.keep [0, 1, 2, 7]
      dsimp only [keep, List.filterMap, look, Nat.beq, Option.map] at hf
      repeat refine seq ?_
      refine blk ?_
      have hx := up_get hlt
      have step : bothB xs x y k = false → ∀ i, i < k + 1 → bothB xs x y i = false := by
        intro hk i hi
        by_cases hik : i = k
        · subst hik; exact hk
        · exact Ho i (by omega)
      cases h1 : hasL (hs xs k) x
      · repeat refine seq ?_
        refine regn 16 hf (by decide +kernel) ?_
        refine st (mv rfl) ?_
        refine st (mv rfl) ?_
        refine st (idxD Tryd.underlying26 S60 (isR rfl) rfl (by omega) (hx)) ?_
        refine st (fldD Tryd.underlying60 rfl T57 (by decide) (Fld.snd Fld.refl rfl) (isR rfl)) ?_
        refine st (ldD T57 (isR rfl)) ?_
        refine st (mv rfl) ?_
        refine st ((call2 En84 rfl rfl (fun v u w he h h' => by cases h'; exact hasL_spec _ _ _ _ h (hok.hs k hlt))).eq (congrArg Value.bool (h1))) ?_
        refine st (mv rfl) ?_
        first | refine sn rfl rfl rfl ?_ | refine su rfl rfl ?_ | refine sy rfl rfl (mv rfl) ?_
        first | refine sn rfl rfl rfl ?_ | refine su rfl rfl ?_ | refine sy rfl rfl (mv rfl) ?_
        first | refine sn rfl rfl rfl ?_ | refine su rfl rfl ?_ | refine sy rfl rfl (idxD Tryd.underlying26 S60 (isR rfl) rfl (by omega) (by assumption)) ?_
        first | refine sn rfl rfl rfl ?_ | refine su rfl rfl ?_ | refine sy rfl rfl (fldD Tryd.underlying60 rfl T57 (by decide) (Fld.snd Fld.refl rfl) (isR rfl)) ?_
        first | refine sn rfl rfl rfl ?_ | refine su rfl rfl ?_ | refine sy rfl rfl (ldD T57 (isR rfl)) ?_
        first | refine sn rfl rfl rfl ?_ | refine su rfl rfl ?_ | refine sy rfl rfl (mv rfl) ?_
        first | refine sn rfl rfl rfl ?_ | refine su rfl rfl ?_ | refine sy rfl rfl (TODO_call) ?_
        first | refine st (pkT rfl rfl) ?_ | refine st (pkF rfl rfl) ?_ | refine st (pk rfl rfl rfl) ?_
        refine en fun a w e' hf => ?_
        replace e := Ext.tr e e'
        clear e'
        refine tl_nil ?_
        repeat refine seq ?_
        refine ifc hf rfl (fun h => by cases h) (fun _ => ?_)
        refine wskip ?_
        try simp only [Exit.then, Exit.inBlock, ↓reduceIte]
        try simp only [Exit.then, Exit.inBlock, ↓reduceIte]
        repeat refine seq ?_
        refine regn 2 hf (by decide +kernel) ?_
        refine st (mv rfl) ?_
        refine st ((add rfl rfl (by omega)).eq (congrArg (Value.int .i64) (show (k : Int) + 1 = ((k + 1 : Nat) : Int) from rfl))) ?_
        refine en fun a w e' hf => ?_
        replace e := Ext.tr e e'
        clear e'
        refine tl_as hf rfl (by decide) fun a hf => ?_
        refine tl_nil ?_
        replace hf := hf.keep [0, 1, 2, 7]
        dsimp only [keep, List.filterMap, look, Nat.beq, Option.map] at hf
        refine ⟨_, ?_, k + 1, rfl, by omega, hf, e, ?_⟩
        · omega
        exact step (by rw [bothB, h1]; rfl)
      · repeat refine seq ?_
        refine regn 16 hf (by decide +kernel) ?_
        refine st (mv rfl) ?_
        refine st (mv rfl) ?_
        refine st (idxD Tryd.underlying26 S60 (isR rfl) rfl (by omega) (hx)) ?_
        refine st (fldD Tryd.underlying60 rfl T57 (by decide) (Fld.snd Fld.refl rfl) (isR rfl)) ?_
        refine st (ldD T57 (isR rfl)) ?_
        refine st (mv rfl) ?_
        refine st ((call2 En84 rfl rfl (fun v u w he h h' => by cases h'; exact hasL_spec _ _ _ _ h (hok.hs k hlt))).eq (congrArg Value.bool (h1))) ?_
        refine st (mv rfl) ?_
        first | refine sn rfl rfl rfl ?_ | refine su rfl rfl ?_ | refine sy rfl rfl (mv rfl) ?_
        first | refine sn rfl rfl rfl ?_ | refine su rfl rfl ?_ | refine sy rfl rfl (mv rfl) ?_
        first | refine sn rfl rfl rfl ?_ | refine su rfl rfl ?_ | refine sy rfl rfl (idxD Tryd.underlying26 S60 (isR rfl) rfl (by omega) (hx)) ?_
        first | refine sn rfl rfl rfl ?_ | refine su rfl rfl ?_ | refine sy rfl rfl (fldD Tryd.underlying60 rfl T57 (by decide) (Fld.snd Fld.refl rfl) (isR rfl)) ?_
        first | refine sn rfl rfl rfl ?_ | refine su rfl rfl ?_ | refine sy rfl rfl (ldD T57 (isR rfl)) ?_
        first | refine sn rfl rfl rfl ?_ | refine su rfl rfl ?_ | refine sy rfl rfl (mv rfl) ?_
        first | refine sn rfl rfl rfl ?_ | refine su rfl rfl ?_ | refine sy rfl rfl (call2 En84 rfl rfl (fun v u w he h h' => by cases h'; exact hasL_spec _ _ _ _ h (hok.hs k hlt))) ?_
        first | refine st (pkT rfl rfl) ?_ | refine st (pkF rfl rfl) ?_ | refine st (pk rfl rfl rfl) ?_
        refine en fun a w e' hf => ?_
        replace e := Ext.tr e e'
        clear e'
        refine tl_nil ?_
        repeat refine seq ?_
        refine ifc hf rfl (fun hb => ?_) (fun hb => ?_)
        · obtain ⟨m, m1, m2⟩ := homeR_ok V x hlt h1
          obtain ⟨n, n1, n2⟩ := homeR_ok V y hlt hb
          have hne : ¬ fstN (bothB xs x y) xs.length = -1 := by rw [fstN_hit hlt Ho (by rw [bothB, h1, hb]; rfl)]; omega
          repeat refine seq ?_
          refine regn 6 hf (by decide +kernel) ?_
          refine st (mv rfl) ?_
          refine st (mv rfl) ?_
          refine st ((call2 En20 rfl rfl (fun v u w he h h' => by cases h'; exact homeR_spec _ _ _ _ h hl hok)).eq (show I (homeR xs x) = I (m : Nat) from by rw [m2])) ?_
          refine st (mv rfl) ?_
          refine st (mv rfl) ?_
          refine st ((call2 En20 rfl rfl (fun v u w he h h' => by cases h'; exact homeR_spec _ _ _ _ h hl hok)).eq (show I (homeR xs y) = I (n : Nat) from by rw [n2])) ?_
          refine en fun a w e' hf => ?_
          replace e := Ext.tr e e'
          clear e'
          refine tl_as hf rfl (by decide) fun a hf => ?_
          refine tl_as hf rfl (by decide) fun a hf => ?_
          refine tl_nil ?_
          repeat refine seq ?_
          refine regn 7 hf (by decide +kernel) ?_
          refine st (mv rfl) ?_
          refine st (mv rfl) ?_
          refine st (call2 En45 rfl rfl (fun v u w he h h' => by cases h'; exact depthR_spec _ _ _ _ h hl hok.up m1)) ?_
          refine st (mv rfl) ?_
          refine st (mv rfl) ?_
          refine st (call2 En45 rfl rfl (fun v u w he h h' => by cases h'; exact depthR_spec _ _ _ _ h hl hok.up n1)) ?_
          refine st (gtr rfl rfl) ?_
          refine en fun a w e' hf => ?_
          replace e := Ext.tr e e'
          clear e'
          refine tl_nil ?_
          repeat refine seq ?_
          refine ifc hf rfl (fun hb => ?_) (fun hb => ?_)
          · have h3 := of_decide_eq_true hb
            repeat refine seq ?_
            refine regn 1 hf (by decide +kernel) ?_
            refine st (mv rfl) ?_
            refine en fun a w e' hf => ?_
            replace e := Ext.tr e e'
            clear e'
            refine tl_as hf rfl (by decide) fun a hf => ?_
            refine tl_nil ?_
            refine wret ?_
            try simp only [Exit.then, Exit.inBlock]
            refine ret1 rfl hf rfl ?_
            rintro _ rfl
            exact ⟨_, rfl, e, congrArg I (by rw [homeEdgeR, if_neg hb', if_neg hne, m2, n2, Int.toNat_natCast, Int.toNat_natCast, if_pos (by omega)])⟩
          · have h3 := of_decide_eq_false hb
            refine wskip ?_
            try simp only [Exit.then, Exit.inBlock, ↓reduceIte]
            repeat refine seq ?_
            refine regn 1 hf (by decide +kernel) ?_
            refine st (mv rfl) ?_
            refine en fun a w e' hf => ?_
            replace e := Ext.tr e e'
            clear e'
            refine tl_as hf rfl (by decide) fun a hf => ?_
            refine tl_nil ?_
            refine wret ?_
            try simp only [Exit.then, Exit.inBlock]
            refine ret1 rfl hf rfl ?_
            rintro _ rfl
            exact ⟨_, rfl, e, congrArg I (by rw [homeEdgeR, if_neg hb', if_neg hne, m2, n2, Int.toNat_natCast, Int.toNat_natCast, if_neg (by omega)])⟩
        · refine wskip ?_
          try simp only [Exit.then, Exit.inBlock, ↓reduceIte]
          try simp only [Exit.then, Exit.inBlock, ↓reduceIte]
          repeat refine seq ?_
          refine regn 2 hf (by decide +kernel) ?_
          refine st (mv rfl) ?_
          refine st ((add rfl rfl (by omega)).eq (congrArg (Value.int .i64) (show (k : Int) + 1 = ((k + 1 : Nat) : Int) from rfl))) ?_
          refine en fun a w e' hf => ?_
          replace e := Ext.tr e e'
          clear e'
          refine tl_as hf rfl (by decide) fun a hf => ?_
          refine tl_nil ?_
          replace hf := hf.keep [0, 1, 2, 7]
          dsimp only [keep, List.filterMap, look, Nat.beq, Option.map] at hf
          refine ⟨_, ?_, k + 1, rfl, by omega, hf, e, ?_⟩
          · omega
          exact step (by rw [bothB, hb, Bool.and_false])
    · obtain rfl : k = xs.length := by have := of_decide_eq_false hc; (try dsimp only at this); omega
      clear hc
      simp only [Exit.then, Exit.inBlock, ↓reduceIte]
      repeat refine seq ?_
      refine regn0 ?_
      refine tl_as hf rfl (by decide) fun a hf => ?_
      refine tl_nil ?_
      refine wret ?_
      try simp only [Exit.then, Exit.inBlock]
      refine ret1 rfl hf rfl ?_
      rintro _ rfl
      exact ⟨_, rfl, e, congrArg I (by rw [homeEdgeR, if_neg hb', if_pos (fstN_none Ho)])⟩

def idsR (xs : List RB) : List Int := xs.foldl (fun out b => b.2.foldl withL out) []
theorem foldl_withL_len : ∀ (t r : List Int), (t.foldl withL r).length ≤ r.length + t.length
  | [], r => by simp
  | x :: t, r => by
    have := foldl_withL_len t (withL r x)
    have := withL_len r x
    simp only [List.foldl_cons, List.length_cons]
    omega
theorem idsTo_len {xs : List RB} (h : ∀ i, i < xs.length → (hs xs i).length ≤ 4) : ∀ k, k ≤ xs.length → ((xs.take k).foldl (fun out b => b.2.foldl withL out) []).length ≤ 4 * k
  | 0, _ => by simp
  | k + 1, hk => by
    rw [take_succ_get (up_get (by omega)), List.foldl_append]
    have h1 := idsTo_len h k (by omega)
    have h2 := foldl_withL_len (hs xs k) ((xs.take k).foldl (fun out b => b.2.foldl withL out) [])
    have h3 := h k (by omega)
    simp only [List.foldl_cons, List.foldl_nil]
    omega
theorem idsR_spec {G : Nat → Prop} (xs : List RB) (v : Value) (W : World) (h : (Dv rtE G xs).p v W) (hG : ∀ b, G b → b < W.heap.size) (hl : xs.length ≤ 1000) (hh : ∀ i, i < xs.length → (hs xs i).length ≤ 4) :
    Calls Tryd.prog 39 #[v] W (Post (Dv (slE intE) G (idsR xs)) W) := by
  refine enter (args := [v]) (As := [Dv rtE G xs]) Tryd.func39 rfl Tryd.ntmps39 (Nat.le_of_ble_eq_true rfl) ?_ (fun a hf => ?_) (Nat.le_of_ble_eq_true rfl)
  rotate_left
  dsimp only [params, Nat.reduceAdd] at hf
  rotate_right
  · exact arg1 h
  have e := Ext.rfl' W
  repeat refine seq ?_
  refine regn0 ?_
  refine tl_as hf rfl (by decide) fun a hf => ?_
  refine tl_nil ?_
  repeat refine seq ?_
  refine regn0 ?_
  refine tl_bsl0 W.heap.size G intE Tryd.underlying57 S3 hf (by decide) e.size hG fun a v w e' hov Ho hf => ?_
  replace e := Ext.tr e e'
  clear e'
  refine tl_as hf rfl (by decide) fun a hf => ?_
  refine tl_nil ?_
  replace hf := hf.upd 3 rfl (B := Dv (slE intE) G []) (fun v hv => by cases hv; exact Ho.sl)
  repeat refine seq ?_
  refine regn0 ?_
  refine tl_as hf rfl (by decide) fun a hf => ?_
  refine tl_nil ?_
  clear Ho hov
  replace hf := hf.keep [0, 3, 4]
  dsimp only [keep, List.filterMap, look, Nat.beq, Option.map] at hf
  repeat refine seq ?_
  refine blk (loopN (fun r0 a w => ∃ (k : Nat) , r0 = xs.length - k ∧ k ≤ xs.length ∧ Fr 20 a w [(0, Dv rtE G xs), (3, Dv (slE intE) G ((xs.take k).foldl (fun out b => b.2.foldl withL out) [])), (4, E (I k))] ∧ Ext W w ∧ True) xs.length ⟨0, rfl, by omega, hf, e, trivial⟩ ?_)
  clear hf e
  rintro r0 a w ⟨k, rfl, hk, hf, e, _⟩
  repeat refine seq ?_
  refine regn 4 hf (by decide +kernel) ?_
  refine st (mv rfl) ?_
  refine st (mv rfl) ?_
  refine st (lenD Tryd.underlying26 (isR rfl)) ?_
  refine st (lss rfl rfl) ?_
  refine en fun a w e' hf => ?_
  replace e := Ext.tr e e'
  clear e'
  refine tl_nil ?_
  repeat refine seq ?_
  refine ifc hf rfl (fun hc => wskip ?_) (fun hc => wexit ?_)
  rotate_left
  rotate_left
  · have hlt : k < xs.length := by have := of_decide_eq_true hc; (try dsimp only at this); omega
    clear hc
    replace hf := hf.keep [0, 3, 4]
    dsimp only [keep, List.filterMap, look, Nat.beq, Option.map] at hf
    repeat refine seq ?_
    refine blk ?_
    have hx := up_get hlt
    have h1 := idsTo_len hh k (by omega)
    have h2 := hh k hlt
    repeat refine seq ?_
    refine regn 7 hf (by decide +kernel) ?_
    refine st (mv rfl) ?_
    refine st (mv rfl) ?_
    refine st (mv rfl) ?_
    refine st (idxD Tryd.underlying26 S60 (isR rfl) rfl (by omega) (hx)) ?_
    refine st (fldD Tryd.underlying60 rfl T57 (by decide) (Fld.snd Fld.refl rfl) (isR rfl)) ?_
    refine st (ldD T57 (isR rfl)) ?_
    refine st ((call2 En111 rfl rfl (fun v u w he h h' => or_spec _ _ _ _ _ h h' (fun b hb => Nat.lt_of_lt_of_le (hG b hb) (Nat.le_trans e.size he.size)) (by omega))).dv (show (hs xs k).foldl withL _ = (xs.take (k + 1)).foldl (fun out b => b.2.foldl withL out) [] from by rw [take_succ_get hx, List.foldl_append]; rfl)) ?_
    refine en fun a w e' hf => ?_
    replace e := Ext.tr e e'
    clear e'
    refine tl_as hf rfl (by decide) fun a hf => ?_
    refine tl_nil ?_
    try simp only [Exit.then, Exit.inBlock, ↓reduceIte]
    repeat refine seq ?_
    refine regn 2 hf (by decide +kernel) ?_
    refine st (mv rfl) ?_
    refine st ((add rfl rfl (by omega)).eq (congrArg (Value.int .i64) (show (k : Int) + 1 = ((k + 1 : Nat) : Int) from rfl))) ?_
    refine en fun a w e' hf => ?_
    replace e := Ext.tr e e'
    clear e'
    refine tl_as hf rfl (by decide) fun a hf => ?_
    refine tl_nil ?_
    replace hf := hf.keep [0, 3, 4]
    dsimp only [keep, List.filterMap, look, Nat.beq, Option.map] at hf
    refine ⟨_, ?_, k + 1, rfl, by omega, hf, e, trivial⟩
    · omega
  · obtain rfl : k = xs.length := by have := of_decide_eq_false hc; (try dsimp only at this); omega
    clear hc
    simp only [Exit.then, Exit.inBlock, ↓reduceIte]
    repeat refine seq ?_
    refine regn 1 hf (by decide +kernel) ?_
    refine st (mv rfl) ?_
    refine en fun a w e' hf => ?_
    replace e := Ext.tr e e'
    clear e'
    refine tl_as hf rfl (by decide) fun a hf => ?_
    refine tl_nil ?_
    refine wret ?_
    try simp only [Exit.then, Exit.inBlock]
    refine ret1 rfl hf rfl ?_
    intro v hv
    exact ⟨_, rfl, e, (by rw [List.take_length] at hv; exact hv)⟩
end Go.Mono

set_option linter.unusedVariables false
set_option linter.unusedSimpArgs false
namespace Go.Mono

theorem toT_len (t : List (Int × BS)) : (toT t).length = t.length := by simp [toT]
theorem toT_up {t : List (Int × BS)} {i : Nat} (h : i < t.length) : up (toT t) i = (bg t i).1 := by
  simp [up, toT, bg, h, toB]
theorem toT_hs {t : List (Int × BS)} {i : Nat} (h : i < t.length) : hs (toT t) i = toL (bg t i).2 := by
  simp [hs, toT, bg, h, toB]
theorem hasL_toL (S : BS) (n : Int) : hasL (toL S) n = has S n := by
  rw [hasL, has, Bool.eq_iff_iff, decide_eq_true_eq, toL, mem_selN, Bool.and_eq_true, fitsB_iff]
  constructor
  · rintro ⟨i, h1, h2, rfl⟩
    exact ⟨⟨by omega, by omega⟩, by simpa using h2⟩
  · rintro ⟨⟨h1, h2⟩, h3⟩
    exact ⟨n.toNat, by omega, h3, by omega⟩
theorem hs_le (t : List (Int × BS)) (i : Nat) : (hs (toT t) i).length ≤ 1024 := by
  by_cases h : i < t.length
  · rw [toT_hs h]; exact toL_len _
  · have : (toT t)[i]? = none := by rw [List.getElem?_eq_none_iff, toT_len]; omega
    simp [hs, this]

/-! ### what the walk down from a bag visits -/
def pre (ks : Nat → List Nat) : Nat → Nat → List Nat
  | 0, b => [b]
  | f + 1, b => b :: (ks b).flatMap (pre ks f)
theorem dnF_cnt (ks : Nat → List Nat) : ∀ f b deep s, (dnF ks f b deep s).2 = s.2 + ((pre ks f b).length : Nat)
  | 0, b, deep, s => by simp [dnF, pre]
  | f + 1, b, deep, s => by
    rw [dnF, pre]
    have : ∀ (l : List Nat) (s : List Int × Int), (l.foldl (fun s k => dnF ks f k (deep + 1) s) s).2 = s.2 + ((l.flatMap (pre ks f)).length : Nat) := by
      intro l
      induction l with
      | nil => intro s; simp
      | cons k l ih =>
        intro s
        rw [List.foldl_cons, ih, dnF_cnt ks f, List.flatMap_cons, List.length_append]
        omega
    rw [this, List.length_cons]
    show s.2 + 1 + _ = _
    omega

def upN (t : List (Int × BS)) (i : Nat) : Option Nat := if (bg t i).1 < 0 then none else some (bg t i).1.toNat
/-- d bags up -/
def it (t : List (Int × BS)) : Nat → Nat → Option Nat
  | 0, i => some i
  | d + 1, i => (it t d i).bind (upN t)
theorem it_succ (t : List (Int × BS)) : ∀ d i, it t (d + 1) i = (upN t i).bind (it t d)
  | 0, i => by
    show (some i).bind (upN t) = _
    cases h : upN t i <;> simp [h, it]
  | d + 1, i => by
    rw [it, it_succ t d i]
    cases h : upN t i <;> simp [it]
theorem upN_lt {t : List (Int × BS)} (hr : Rng t) {i j : Nat} (hi : i < t.length) (h : upN t i = some j) : j < t.length ∧ (bg t i).1 = (j : Int) := by
  have := hr i hi
  unfold upN at h
  split at h
  · cases h
  · cases h; omega
theorem it_lt {t : List (Int × BS)} (hr : Rng t) {i : Nat} (hi : i < t.length) : ∀ d j, it t d i = some j → j < t.length
  | 0, j, h => by cases h; exact hi
  | d + 1, j, h => by
    rw [it] at h
    cases hx : it t d i with
    | none => rw [hx] at h; cases h
    | some k =>
      rw [hx] at h
      exact (upN_lt hr (it_lt hr hi d k hx) h).1
theorem kN_nodup (t : List (Int × BS)) (b : Nat) : (kN t b).Nodup := List.Nodup.sublist List.filter_sublist List.nodup_range
theorem kN_upN {t : List (Int × BS)} (hr : Rng t) {j b : Nat} (hj : j < t.length) : decide (j ∈ kN t b) = decide (upN t j = some b) := by
  have := hr j hj
  rw [decide_eq_decide, mem_kN]
  constructor
  · rintro ⟨_, h⟩
    rw [upN, if_neg (by omega), h]; rfl
  · intro h
    exact ⟨hj, (upN_lt hr hj h).2⟩
theorem sum_kN {t : List (Int × BS)} (hr : Rng t) (b : Nat) (x : Option Nat) (hx : ∀ j, x = some j → j < t.length) : ((kN t b).map fun k => ind (decide (x = some k))).sum = ind (decide (x.bind (upN t) = some b)) := by
  cases x with
  | none =>
    have : ∀ l : List Nat, (l.map fun k => ind (decide ((none : Option Nat) = some k))).sum = 0 := by
      intro l
      induction l with
      | nil => rfl
      | cons k l ih => rw [List.map_cons, List.sum_cons, ih]; rfl
    rw [this]; rfl
  | some j =>
    rw [show (some j).bind (upN t) = upN t j from rfl, ← kN_upN hr (hx j rfl), ← sum_ind_eq (kN_nodup t b)]
    refine sum_congr fun k _ => ?_
    congr 1
    rw [decide_eq_decide]
    exact Option.some_inj
theorem count_flatMap (g : Nat → List Nat) (i : Nat) : ∀ l : List Nat, (l.flatMap g).count i = (l.map fun k => (g k).count i).sum
  | [] => rfl
  | k :: l => by rw [List.flatMap_cons, List.count_append, count_flatMap g i l, List.map_cons, List.sum_cons]
theorem count_cons_ind (i b : Nat) (l : List Nat) : (b :: l).count i = ind (decide (i = b)) + l.count i := by
  rw [List.count_cons]
  by_cases h : b = i
  · subst h; simp [ind]; omega
  · have : ¬ i = b := Ne.symm h
    simp [ind, h, this]
theorem pre_count {t : List (Int × BS)} (hr : Rng t) {i : Nat} (hi : i < t.length) : ∀ f b, (pre (kN t) f b).count i = ((List.range (f + 1)).map fun d => ind (decide (it t d i = some b))).sum
  | 0, b => by
    rw [pre, count_cons_ind]
    simp [it]
  | f + 1, b => by
    rw [pre, count_cons_ind, count_flatMap]
    have h1 : ((kN t b).map fun k => (pre (kN t) f k).count i).sum = ((kN t b).map fun k => ((List.range (f + 1)).map fun d => ind (decide (it t d i = some k))).sum).sum := sum_congr fun k _ => pre_count hr hi f k
    rw [h1, sum_swap (fun k d => ind (decide (it t d i = some k)))]
    rw [List.range_succ_eq_map (n := f + 1), List.map_cons, List.sum_cons, List.map_map]
    congr 1
    · simp [it]
    · refine sum_congr fun d _ => ?_
      rw [sum_kN hr b (it t d i) (fun j hj => it_lt hr hi d j hj)]
      rfl
/-- the one root -/
theorem root_one {t : List (Int × BS)} (h : (rootN t).length = 1) : ∃ r, rootN t = [r] ∧ r < t.length ∧ (bg t r).1 = -1 ∧ ∀ j, j < t.length → (bg t j).1 = -1 → j = r := by
  match hx : rootN t, h with
  | [r], _ =>
    have hm : ∀ j, j ∈ rootN t ↔ j < t.length ∧ (bg t j).1 = -1 := by intro j; simp [rootN]
    have h1 := (hm r).1 (by rw [hx]; simp)
    refine ⟨r, rfl, h1.1, h1.2, fun j hj h => ?_⟩
    have := (hm j).2 ⟨hj, h⟩
    rw [hx] at this
    simpa using this
theorem sum_root {t : List (Int × BS)} {r : Nat} (hu : (bg t r).1 = -1) (i : Nat) : ∀ F, ((List.range F).map fun d => ind (decide (it t d i = some r))).sum ≤ 1 ∧ (1 ≤ ((List.range F).map fun d => ind (decide (it t d i = some r))).sum → it t F i = none)
  | 0 => ⟨by simp, by simp⟩
  | F + 1 => by
    obtain ⟨h1, h2⟩ := sum_root hu i F
    rw [List.range_succ, List.map_append, List.sum_append]
    simp only [List.map_cons, List.map_nil, List.sum_cons, List.sum_nil, Nat.add_zero]
    by_cases h : it t F i = some r
    · have h0 : ¬ 1 ≤ ((List.range F).map fun d => ind (decide (it t d i = some r))).sum := fun h' => by rw [h2 h'] at h; cases h
      rw [show decide (it t F i = some r) = true from decide_eq_true h]
      refine ⟨by rw [show ind true = 1 from rfl]; omega, fun _ => ?_⟩
      rw [it, h]
      show upN t r = none
      rw [upN, hu]; rfl
    · rw [show decide (it t F i = some r) = false from decide_eq_false h]
      rw [show ind false = 0 from rfl, Nat.add_zero]
      refine ⟨h1, fun h' => ?_⟩
      have := h2 h'
      rw [it, this]; rfl
theorem len_count {n : Nat} : ∀ {l : List Nat}, (∀ x ∈ l, x < n) → l.length = ((List.range n).map fun i => l.count i).sum
  | [], _ => by
    have : ∀ m : List Nat, (m.map fun i => ([] : List Nat).count i).sum = 0 := by
      intro m
      induction m with
      | nil => rfl
      | cons x m ih => rw [List.map_cons, List.sum_cons, ih]; rfl
    rw [this]; rfl
  | x :: l, h => by
    have e : ((List.range n).map fun i => (x :: l).count i).sum = ((List.range n).map fun i => ind (decide (i = x)) + l.count i).sum := sum_congr fun i _ => count_cons_ind i x l
    rw [e, sum_add, ← len_count (l := l) fun y hy => h y (by simp [hy])]
    have e2 : ((List.range n).map fun i => ind (decide (i = x))).sum = ((List.range n).map fun k => ind (decide (x = k))).sum := sum_congr fun i _ => by
      congr 1
      rw [decide_eq_decide]; exact eq_comm
    rw [e2, sum_ind_eq List.nodup_range]
    have hx := h x (by simp)
    simp [ind, hx]; omega
theorem pre_lt {t : List (Int × BS)} : ∀ f b, b < t.length → ∀ x ∈ pre (kN t) f b, x < t.length
  | 0, b, hb, x, hx => by rw [pre, List.mem_singleton] at hx; omega
  | f + 1, b, hb, x, hx => by
    rw [pre, List.mem_cons, List.mem_flatMap] at hx
    rcases hx with rfl | ⟨k, hk, hx⟩
    · exact hb
    · exact pre_lt f k (mem_kN.1 hk).1 x hx
theorem sum_le_len {f : Nat → Nat} : ∀ {l : List Nat}, (∀ x ∈ l, f x ≤ 1) → (l.map f).sum ≤ l.length
  | [], _ => by simp
  | x :: l, h => by
    have := sum_le_len (l := l) fun y hy => h y (by simp [hy])
    have := h x (by simp)
    simp; omega
theorem sum_eq_len {f : Nat → Nat} : ∀ {l : List Nat}, (∀ x ∈ l, f x ≤ 1) → ((l.map f).sum = l.length ↔ ∀ x ∈ l, f x = 1)
  | [], _ => by simp
  | x :: l, h => by
    have h1 := sum_le_len (l := l) fun y hy => h y (by simp [hy])
    have h2 := sum_eq_len (l := l) fun y hy => h y (by simp [hy])
    have h3 := h x (by simp)
    rw [List.map_cons, List.sum_cons, List.length_cons]
    constructor
    · intro h4
      have h5 : (l.map f).sum = l.length := by omega
      have h6 := h2.1 h5
      intro y hy
      rcases List.mem_cons.1 hy with rfl | hy
      · omega
      · exact h6 y hy
    · intro h4
      have := h2.2 fun y hy => h4 y (by simp [hy])
      have := h4 x (by simp)
      omega
theorem pre_count_le {t : List (Int × BS)} (hr : Rng t) {r : Nat} (hu : (bg t r).1 = -1) (f : Nat) {i : Nat} (hi : i < t.length) : (pre (kN t) f r).count i ≤ 1 := by
  rw [pre_count hr hi]; exact (sum_root hu i _).1
theorem pre_le {t : List (Int × BS)} (hr : Rng t) {r : Nat} (hrl : r < t.length) (hu : (bg t r).1 = -1) (f : Nat) : (pre (kN t) f r).length ≤ t.length := by
  rw [len_count (pre_lt f r hrl)]
  have := sum_le_len (f := fun i => (pre (kN t) f r).count i) (l := List.range t.length) fun i hi => pre_count_le hr hu f (List.mem_range.1 hi)
  simpa using this
theorem flat_len {g : Nat → List Nat} {k : Nat} : ∀ {l : List Nat}, k ∈ l → (g k).length ≤ (l.flatMap g).length
  | [], h => by cases h
  | x :: l, h => by
    rw [List.flatMap_cons, List.length_append]
    rcases List.mem_cons.1 h with rfl | h
    · omega
    · have := flat_len (g := g) h; omega
theorem pre_deep {ks : Nat → List Nat} : ∀ f b, ¬hgt ks f b → f + 2 ≤ (pre ks (f + 1) b).length
  | 0, b, h => by
    rw [pre]
    cases hk : ks b with
    | nil => exact absurd hk h
    | cons k l => simp [pre]
  | f + 1, b, h => by
    rw [hgt] at h
    obtain ⟨k, hk, hn⟩ : ∃ k, k ∈ ks b ∧ ¬hgt ks f k := by
      apply Classical.byContradiction
      intro hne
      exact h fun k hk => Classical.byContradiction fun hn => hne ⟨k, hk, hn⟩
    have := pre_deep f k hn
    rw [pre, List.length_cons]
    have := flat_len (g := pre ks (f + 1)) hk
    omega
theorem it_len {t : List (Int × BS)} (hr : Rng t) {i : Nat} (hi : i < t.length) : ∀ d b, it t d i = some b → d + 1 ≤ (pre (kN t) d b).length
  | 0, b, _ => by simp [pre]
  | d + 1, b, h => by
    rw [it] at h
    cases hx : it t d i with
    | none => rw [hx] at h; cases h
    | some j =>
      rw [hx] at h
      have hj := it_lt hr hi d j hx
      have hm : j ∈ kN t b := by
        have := kN_upN (b := b) hr hj
        rw [show decide (upN t j = some b) = true from decide_eq_true h] at this
        exact of_decide_eq_true this
      have := it_len hr hi d j hx
      have := flat_len (g := pre (kN t) d) hm
      rw [pre, List.length_cons]
      omega
theorem depthsF_cnt {t : List (Int × BS)} {r : Nat} (h : rootN t = [r]) (f : Nat) : (depthsF t f (rootN t)).2 = ((pre (kN t) f r).length : Nat) := by
  rw [h, depthsF, List.foldl_cons, List.foldl_nil, dnF_cnt]
  show (0 : Int) + _ = _
  omega
/-- what the walk of Check leans on holds -/
theorem Dp.mk' {t : List (Int × BS)} (hl : t.length ≤ 4096) (hr : Rng t) (h1 : (rootN t).length = 1) : Dp t t.length := by
  obtain ⟨r, h2, h3, h4, h5⟩ := root_one h1
  refine ⟨by omega, fun b hb => ?_, ?_⟩
  · rw [h2, List.mem_singleton] at hb
    subst hb
    apply Classical.byContradiction
    intro hn
    have := pre_deep _ _ hn
    have := pre_le hr h3 h4 (t.length + 1)
    omega
  · rw [depthsF_cnt h2]
    have := pre_le hr h3 h4 t.length
    omega
theorem abv_it {t : List (Int × BS)} (hr : Rng t) : ∀ f j, j < t.length → ((abv (toT t) f (up (toT t) j)).isSome = true ↔ ∃ d, d ≤ f ∧ it t (d + 1) j = none)
  | 0, j, hj => by
    rw [toT_up hj, abv]
    constructor
    · intro h
      refine ⟨0, Nat.le_refl _, ?_⟩
      rw [it_succ, upN]
      split at h
      · rename_i h'; rw [if_pos h']; rfl
      · cases h
    · rintro ⟨d, hd, h⟩
      obtain rfl : d = 0 := by omega
      rw [it_succ, upN] at h
      split at h
      · rename_i h'; rw [if_pos h']; rfl
      · cases h
  | f + 1, j, hj => by
    rw [toT_up hj, abv]
    by_cases h' : (bg t j).1 < 0
    · rw [if_pos h']
      refine ⟨fun _ => ⟨0, Nat.zero_le _, ?_⟩, fun _ => rfl⟩
      rw [it_succ, upN, if_pos h']; rfl
    · have hu : upN t j = some (bg t j).1.toNat := by rw [upN, if_neg h']
      have hk := (upN_lt hr hj hu).1
      rw [if_neg h', Option.isSome_map, abv_it hr f _ hk]
      constructor
      · rintro ⟨d, h1, h2⟩
        exact ⟨d + 1, by omega, by rw [it_succ, hu]; exact h2⟩
      · rintro ⟨d, h1, h2⟩
        rw [it_succ, hu] at h2
        cases d with
        | zero => cases h2
        | succ d => exact ⟨d, by omega, h2⟩
theorem above_it {t : List (Int × BS)} (hr : Rng t) {r : Nat} (hrl : r < t.length) (hu : (bg t r).1 = -1) (h1 : ∀ j, j < t.length → (bg t j).1 = -1 → j = r) {i : Nat} (hi : i < t.length) :
    (above (toT t) i).isSome = true ↔ (pre (kN t) t.length r).count i = 1 := by
  rw [above, abv_it hr _ _ hi, toT_len]
  have hle := pre_count_le hr hu t.length hi
  constructor
  · intro h
    obtain ⟨d, ⟨hd, hn⟩, hmin⟩ := least h
    have hs : ∃ j, it t d i = some j := by
      cases d with
      | zero => exact ⟨i, rfl⟩
      | succ d =>
        cases hx : it t (d + 1) i with
        | some j => exact ⟨j, rfl⟩
        | none => exact absurd ⟨by omega, hx⟩ (hmin d (by omega))
    obtain ⟨j, hj⟩ := hs
    have hjl := it_lt hr hi d j hj
    have hjr : j = r := h1 j hjl (by
      rw [it, hj] at hn
      have hrj := hr j hjl
      change upN t j = none at hn
      unfold upN at hn
      split at hn
      · omega
      · cases hn)
    subst hjr
    have hdl := it_len hr hi d j hj
    have := pre_le hr hrl hu d
    have hc := pre_count hr hi t.length j
    have h2 : 1 ≤ ((List.range (t.length + 1)).map fun d => ind (decide (it t d i = some j))).sum := by
      have : ∀ l : List Nat, d ∈ l → 1 ≤ (l.map fun d => ind (decide (it t d i = some j))).sum := by
        intro l
        induction l with
        | nil => intro h; cases h
        | cons x l ih =>
          intro h
          rw [List.map_cons, List.sum_cons]
          rcases List.mem_cons.1 h with rfl | h
          · rw [decide_eq_true hj]; simp [ind]
          · have := ih h; omega
      exact this _ (List.mem_range.2 (by omega))
    omega
  · intro h
    rw [pre_count hr hi] at h
    have : ∃ d, d ∈ List.range (t.length + 1) ∧ it t d i = some r := by
      apply Classical.byContradiction
      intro hne
      have : ∀ l : List Nat, (∀ d ∈ l, d ∈ List.range (t.length + 1)) → (l.map fun d => ind (decide (it t d i = some r))).sum = 0 := by
        intro l
        induction l with
        | nil => intro _; rfl
        | cons x l ih =>
          intro h
          rw [List.map_cons, List.sum_cons, ih fun d hd => h d (by simp [hd]), decide_eq_false fun he => hne ⟨x, h x (by simp), he⟩]
          rfl
      rw [this _ fun d hd => hd] at h
      cases h
    obtain ⟨d, hd, h2⟩ := this
    have := List.mem_range.1 hd
    refine ⟨d, by omega, ?_⟩
    rw [it, h2]
    show upN t r = none
    rw [upN, hu]; rfl

/-! ### tops -/
theorem topsS_bit {t : List (Int × BS)} (hr : Rng t) {i : Nat} (hi : i < t.length) {k : Nat} (hk : k < 1024) : (topsS t i).getLsbD k = topB (toT t) (k : Nat) i := by
  have hri := hr i hi
  have fit : fitsB (k : Nat) = true := fitsB_iff.2 ⟨by omega, by omega⟩
  have hh : ∀ S : BS, has S (k : Nat) = S.getLsbD k := fun S => by rw [has, fit, Int.toNat_natCast]; rfl
  rw [topB, toT_hs hi, hasL_toL, hh, toT_up hi, topsS]
  by_cases h : (bg t i).1 = -1
  · rw [if_pos h, h]; simp
  · rw [if_neg h, toT_hs (by omega), hasL_toL, hh]
    have : ¬ (bg t i).1 < 0 := by omega
    simp [this, hk]
theorem seenTo_bit {t : List (Int × BS)} (k : Nat) : ∀ i, (seenTo t i).getLsbD k = true ↔ ∃ j, j < i ∧ (topsS t j).getLsbD k = true
  | 0 => by simp [seenTo]
  | i + 1 => by
    rw [seenTo, BitVec.getLsbD_or, Bool.or_eq_true, seenTo_bit k i]
    constructor
    · rintro (⟨j, h1, h2⟩ | h)
      · exact ⟨j, by omega, h2⟩
      · exact ⟨i, by omega, h⟩
    · rintro ⟨j, h1, h2⟩
      by_cases hj : j = i
      · subst hj; exact .inr h2
      · exact .inl ⟨j, by omega, h2⟩
theorem and_zero {S T : BS} : S &&& T = 0 ↔ ∀ k, k < 1024 → ¬(S.getLsbD k = true ∧ T.getLsbD k = true) := by
  constructor
  · intro h k hk ⟨h1, h2⟩
    have := congrArg (fun S => S.getLsbD k) h
    simp [h1, h2] at this
  · intro h
    refine BitVec.eq_of_getLsbD_eq fun k hk => ?_
    have := h k hk
    rw [BitVec.getLsbD_and]
    cases h1 : S.getLsbD k <;> cases h2 : T.getLsbD k <;> simp [h1, h2] at this ⊢
/-- no two bags have a vertex at their top -/
def Uni (xs : List RB) : Prop := ∀ (id : Int) (j i : Nat), j < i → i < xs.length → ¬(topB xs id i = true ∧ topB xs id j = true)
theorem selN_two {p : Nat → Bool} : ∀ {n : Nat}, (selN p n).length ≤ 1 ↔ ∀ j i, j < i → i < n → ¬(p i = true ∧ p j = true)
  | 0 => ⟨fun _ j i _ h => by omega, fun _ => by simp [selN]⟩
  | n + 1 => by
    rw [selN_succ]
    constructor
    · intro h j i hji hi ⟨h1, h2⟩
      have hl : (selN p n).length ≤ 1 := by
        split at h
        · rw [List.length_append, List.length_singleton] at h; omega
        · exact h
      by_cases hin : i = n
      · subst hin
        rw [if_pos h1] at h
        have : (j : Int) ∈ selN p i := mem_selN.2 ⟨j, hji, h2, rfl⟩
        cases hs : selN p i with
        | nil => rw [hs] at this; cases this
        | cons x l => rw [hs] at h; simp at h
      · exact selN_two.1 hl j i hji (by omega) ⟨h1, h2⟩
    · intro h
      have hl : (selN p n).length ≤ 1 := selN_two.2 fun j i hji hi => h j i hji (by omega)
      split
      · rename_i hp
        have : selN p n = [] := by
          cases hs : selN p n with
          | nil => rfl
          | cons x l =>
            have : x ∈ selN p n := by rw [hs]; simp
            obtain ⟨j, h1, h2, _⟩ := mem_selN.1 this
            exact absurd ⟨hp, h2⟩ (h j n h1 (by omega))
        rw [this]; simp
      · exact hl
theorem topB_fits {t : List (Int × BS)} {id : Int} {i : Nat} (hi : i < t.length) (h : topB (toT t) id i = true) : ∃ k : Nat, k < 1024 ∧ id = (k : Int) := by
  rw [topB, toT_hs hi, hasL_toL, has, Bool.and_eq_true, Bool.and_eq_true, fitsB_iff] at h
  exact ⟨id.toNat, by omega, by omega⟩
theorem uni_S {t : List (Int × BS)} (hr : Rng t) : (∀ i, i < t.length → topsS t i &&& seenTo t i = 0) ↔ Uni (toT t) := by
  constructor
  · intro h id j i hji hi ⟨h1, h2⟩
    rw [toT_len] at hi
    obtain ⟨k, hk, rfl⟩ := topB_fits hi h1
    have := and_zero.1 (h i hi) k hk
    exact this ⟨by rw [topsS_bit hr hi hk]; exact h1, (seenTo_bit k i).2 ⟨j, hji, by rw [topsS_bit hr (by omega) hk]; exact h2⟩⟩
  · intro h i hi
    refine and_zero.2 fun k hk ⟨h1, h2⟩ => ?_
    obtain ⟨j, hj, h3⟩ := (seenTo_bit k i).1 h2
    rw [topsS_bit hr hi hk] at h1
    rw [topsS_bit hr (by omega) hk] at h3
    exact h k j i hj (by rw [toT_len]; exact hi) ⟨h1, h3⟩
/-- the tree alone -/
def bare (xs : List RB) : List RB := xs.map fun b => (b.1, [])
theorem bare_len (xs : List RB) : (bare xs).length = xs.length := by simp [bare]
theorem bare_up (xs : List RB) (i : Nat) : up (bare xs) i = up xs i := by
  unfold up bare
  rw [List.getElem?_map]
  cases xs[i]? <;> rfl
theorem bare_hs (xs : List RB) (i : Nat) : hs (bare xs) i = [] := by
  unfold hs bare
  rw [List.getElem?_map]
  cases xs[i]? <;> rfl
theorem bare_abv (xs : List RB) : ∀ f a, abv (bare xs) f a = abv xs f a
  | 0, a => rfl
  | f + 1, a => by rw [abv, abv, bare_up, bare_abv xs f]
theorem bare_vals {xs : List RB} (h1 : ∀ i, i < xs.length → -1 ≤ up xs i ∧ up xs i < xs.length) (h2 : (selN (fun i => decide (up xs i < 0)) xs.length).length = 1) (h3 : ∀ i, i < xs.length → (above xs i).isSome = true) : Vals (bare xs) := by
  refine ⟨fun i hi => ?_, ?_, fun i hi => ?_, fun i hi id hid => ?_⟩
  · rw [bare_len] at hi ⊢
    rw [bare_up]; exact h1 i hi
  · rw [bare_len]
    simp only [bare_up]
    exact h2
  · rw [bare_len] at hi
    rw [above, bare_abv, bare_up, bare_len]
    exact h3 i hi
  · rw [bare_hs] at hid; cases hid
theorem top_ex {xs : List RB} (V : Vals (bare xs)) (id : Int) : ∀ i, i < xs.length → id ∈ hs xs i → ∃ j, j < xs.length ∧ topB xs id j = true := by
  intro i hi
  refine tree_ind V (p := fun i => id ∈ hs xs i → ∃ j, j < xs.length ∧ topB xs id j = true) (fun i hi hu h => ⟨i, ?_, ?_⟩) (fun i j hi hj hu ih h => ?_) i (by rw [bare_len]; exact hi)
  · rwa [bare_len] at hi
  · rw [bare_up] at hu
    rw [topB, hasL, decide_eq_true h, hu]; rfl
  · rw [bare_len] at hi
    rw [bare_up] at hu
    by_cases hj2 : id ∈ hs xs j
    · exact ih hj2
    · refine ⟨i, hi, ?_⟩
      rw [topB, hasL, hasL, decide_eq_true h, hu, Int.toNat_natCast, decide_eq_false hj2]
      simp
theorem uni_R {xs : List RB} (V : Vals (bare xs)) : (∀ i, i < xs.length → ∀ id ∈ hs xs i, (topsR xs id).length = 1) ↔ Uni xs := by
  constructor
  · intro h id j i hji hi ⟨h1, h2⟩
    have hm : id ∈ hs xs i := by
      rw [topB, Bool.and_eq_true] at h1
      exact of_decide_eq_true h1.1
    have := h i hi id hm
    exact selN_two.1 (Nat.le_of_eq this) j i hji hi ⟨h1, h2⟩
  · intro h i hi id hid
    have h1 : (topsR xs id).length ≤ 1 := selN_two.2 fun j i hji hi => h id j i hji hi
    obtain ⟨j, hj, ht⟩ := top_ex V id i hi hid
    have : (j : Int) ∈ topsR xs id := mem_selN.2 ⟨j, hj, ht, rfl⟩
    have := List.length_pos_of_mem this
    omega
theorem ite2 {α : Type} {p q : Prop} {_ : Decidable p} {_ : Decidable q} {a b c d : α} (h : p ↔ q) (h1 : p → a = c) (h2 : ¬p → b = d) : (if p then a else b) = (if q then c else d) := by
  by_cases hp : p
  · rw [if_pos hp, if_pos (h.1 hp)]; exact h1 hp
  · rw [if_neg hp, if_neg (fun hq => hp (h.2 hq))]; exact h2 hp
/-- the program's check and the reference's agree -/
theorem chkT_eq {t : List (Int × BS)} : chkT t t.length = chkR (toT t) := by
  unfold chkT chkR
  rw [toT_len]
  refine ite2 (by omega) (fun _ => rfl) fun h0 => ?_
  have e1 : Rng t ↔ ∀ i, i < t.length → -1 ≤ up (toT t) i ∧ up (toT t) i < t.length := by
    constructor
    · intro h i hi; rw [toT_up hi]; exact h i hi
    · intro h i hi; have := h i hi; rwa [toT_up hi] at this
  refine ite2 (not_congr e1) (fun _ => rfl) fun hr => ?_
  replace hr := Classical.not_not.1 hr
  have e2 : (selN (fun i => decide (up (toT t) i < 0)) t.length).length = (rootN t).length := by
    rw [selN, List.length_map, rootN]
    congr 1
    refine List.filter_congr fun i hi => ?_
    have hi := List.mem_range.1 hi
    have := hr i hi
    rw [toT_up hi, decide_eq_decide]
    omega
  rw [e2]
  refine ite2 Iff.rfl (fun _ => rfl) fun h1 => ?_
  replace h1 := Classical.not_not.1 h1
  obtain ⟨r, r1, r2, r3, r4⟩ := root_one h1
  have e3 : (depthsF t t.length (rootN t)).2 = (t.length : Nat) ↔ ∀ i, i < t.length → (above (toT t) i).isSome = true := by
    rw [depthsF_cnt r1, len_count (pre_lt _ r r2)]
    have := sum_eq_len (f := fun i => (pre (kN t) t.length r).count i) (l := List.range t.length) fun i hi => pre_count_le hr r3 t.length (List.mem_range.1 hi)
    rw [List.length_range] at this
    rw [Int.ofNat_inj, this]
    constructor
    · intro h i hi
      exact (above_it hr r2 r3 r4 hi).2 (h i (List.mem_range.2 hi))
    · intro h i hi
      exact (above_it hr r2 r3 r4 (List.mem_range.1 hi)).1 (h i (List.mem_range.1 hi))
  refine ite2 (not_congr e3) (fun _ => rfl) fun h2 => ?_
  replace h2 := Classical.not_not.1 h2
  have V := bare_vals (xs := toT t) (by rw [toT_len]; exact e1.1 hr) (by rw [toT_len, e2]; exact h1) (by rw [toT_len]; exact e3.1 h2)
  have e4 := uni_R V
  rw [toT_len] at e4
  exact ite2 (not_congr ((uni_S hr).trans e4.symm)) (fun _ => rfl) fun _ => rfl
end Go.Mono

set_option linter.unusedVariables false
set_option linter.unusedSimpArgs false
namespace Go.Mono

theorem fstN_cases (p : Nat → Bool) (n : Nat) : (fstN p n = -1 ∧ ∀ i, i < n → p i = false) ∨ ∃ k : Nat, k < n ∧ fstN p n = (k : Int) ∧ p k = true ∧ ∀ i, i < k → p i = false := by
  by_cases h : ∃ k, k < n ∧ p k = true
  · obtain ⟨k, ⟨h1, h2⟩, h3⟩ := least h
    have h4 : ∀ i, i < k → p i = false := fun i hi => by
      cases hp : p i
      · rfl
      · exact absurd ⟨by omega, hp⟩ (h3 i hi)
    exact .inr ⟨k, h1, fstN_hit h1 h4 h2, h2, h4⟩
  · have h4 : ∀ i, i < n → p i = false := fun i hi => by
      cases hp : p i
      · rfl
      · exact absurd ⟨i, hi, hp⟩ h
    exact .inl ⟨fstN_none h4, h4⟩
theorem Vals.uni {xs : List RB} (V : Vals xs) : Uni xs := (uni_R (bare_vals V.range V.root V.loop)).1 V.dup
theorem homeR_top {xs : List RB} (U : Uni xs) {id : Int} {i : Nat} (hi : i < xs.length) (h : topB xs id i = true) : homeR xs id = (i : Int) := by
  refine fstN_hit hi (fun j hj => ?_) h
  cases ht : topB xs id j
  · rfl
  · exact absurd ⟨h, ht⟩ (U id j i hj hi)
theorem homeR_cases (xs : List RB) (id : Int) : (homeR xs id = -1 ∧ ∀ i, i < xs.length → topB xs id i = false) ∨ ∃ k : Nat, k < xs.length ∧ homeR xs id = (k : Int) ∧ topB xs id k = true := by
  rcases fstN_cases (topB xs id) xs.length with h | ⟨k, h1, h2, h3, _⟩
  · exact .inl h
  · exact .inr ⟨k, h1, h2, h3⟩
theorem dsc_self (xs : List RB) (i : Nat) : dsc xs i i = true := by simp [dsc]
/-- a vertex's bags lie below its home, and all between have it -/
theorem home_path {xs : List RB} (V : Vals xs) (id : Int) : ∀ i, i < xs.length → hasL (hs xs i) id = true →
    ∃ a, a < xs.length ∧ homeR xs id = (a : Int) ∧ dsc xs a i = true ∧ ∀ j, j < xs.length → dsc xs a j = true → dsc xs j i = true → hasL (hs xs j) id = true := by
  have U := V.uni
  refine tree_ind V (fun i hi hu h => ?_) (fun i p hi hp hu ih h => ?_)
  · refine ⟨i, hi, homeR_top U hi (by rw [topB, h, hu]; rfl), dsc_self _ _, fun j hj h1 h2 => ?_⟩
    rw [dsc_root (by omega)] at h2
    rw [← of_decide_eq_true h2]; exact h
  · have hd := depth_step V hi hu
    cases hp2 : hasL (hs xs p) id
    · refine ⟨i, hi, homeR_top U hi (by rw [topB, h, hu, Int.toNat_natCast, hp2]; simp), dsc_self _ _, fun j hj h1 h2 => ?_⟩
      rw [dsc_step V hi hu, Bool.or_eq_true] at h2
      rcases h2 with h2 | h2
      · rw [← of_decide_eq_true h2]; exact h
      · have := dsc_depth V j hj h1
        have := dsc_depth V p hp h2
        omega
    · obtain ⟨a, a1, a2, a3, a4⟩ := ih hp2
      refine ⟨a, a1, a2, by rw [dsc_step V hi hu, a3, Bool.or_true], fun j hj h1 h2 => ?_⟩
      rw [dsc_step V hi hu, Bool.or_eq_true] at h2
      rcases h2 with h2 | h2
      · rw [← of_decide_eq_true h2]; exact h
      · exact a4 j hj h1 h2
theorem dsc_chain {xs : List RB} (V : Vals xs) {a c : Nat} : ∀ i, i < xs.length → dsc xs a i = true → dsc xs c i = true → depthR xs c ≤ depthR xs a → dsc xs c a = true := by
  refine tree_ind V (fun i hi hu h1 h2 h3 => ?_) (fun i p hi hp hu ih h1 h2 h3 => ?_)
  · rw [dsc_root (by omega)] at h1 h2
    rw [← of_decide_eq_true h1, ← of_decide_eq_true h2]; exact dsc_self _ _
  · have hd := depth_step V hi hu
    have h2' := h2
    rw [dsc_step V hi hu, Bool.or_eq_true] at h1 h2
    rcases h1 with h1 | h1
    · rw [← of_decide_eq_true h1]; exact h2'
    · rcases h2 with h2 | h2
      · have := dsc_depth V p hp h1
        rw [← of_decide_eq_true h2] at h3
        omega
      · exact ih h1 h2 h3
/-- the home of an edge -/
theorem edge_home {xs : List RB} (V : Vals xs) {x y : Int} (h : 0 ≤ homeEdgeR xs x y) : ∃ b a c : Nat, b < xs.length ∧ a < xs.length ∧ c < xs.length ∧ homeEdgeR xs x y = (b : Int) ∧ homeR xs x = (a : Int) ∧ homeR xs y = (c : Int) ∧
    hasL (hs xs b) x = true ∧ hasL (hs xs b) y = true ∧ (b = a ∨ b = c) ∧ depthR xs a ≤ depthR xs b ∧ depthR xs c ≤ depthR xs b := by
  unfold homeEdgeR at h ⊢
  by_cases hxy : x = y
  · rw [if_pos hxy] at h; omega
  rw [if_neg hxy] at h ⊢
  rcases fstN_cases (bothB xs x y) xs.length with ⟨h1, _⟩ | ⟨i, hi, h1, h2, _⟩
  · rw [if_pos h1] at h; omega
  have hne : ¬ fstN (bothB xs x y) xs.length = -1 := by omega
  rw [if_neg hne] at h ⊢
  rw [bothB, Bool.and_eq_true] at h2
  obtain ⟨a, a1, a2, a3, a4⟩ := home_path V x i hi h2.1
  obtain ⟨c, c1, c2, c3, c4⟩ := home_path V y i hi h2.2
  have tx := a4 a a1 (dsc_self _ _) a3
  have ty := c4 c c1 (dsc_self _ _) c3
  rw [a2, c2, Int.toNat_natCast, Int.toNat_natCast]
  by_cases hd : depthR xs c < depthR xs a
  · rw [if_pos hd]
    have hca := dsc_chain V i hi a3 c3 (by omega)
    exact ⟨a, a, c, a1, a1, c1, rfl, rfl, rfl, tx, c4 a a1 hca a3, .inl rfl, Nat.le_refl _, by omega⟩
  · rw [if_neg hd]
    have hac := dsc_chain V i hi c3 a3 (by omega)
    exact ⟨c, a, c, c1, a1, c1, rfl, rfl, rfl, a4 c c1 hac c3, ty, .inr rfl, by omega, Nat.le_refl _⟩
end Go.Mono

set_option linter.unusedVariables false
set_option linter.unusedSimpArgs false
namespace Go.Mono

theorem wayF_neg (xs : List RB) (f : Nat) {b : Int} (h : b < 0) : wayF xs f b = [] := by
  cases f with
  | zero => rfl
  | succ f => rw [wayF, if_pos h]
theorem wayF_stable {xs : List RB} (V : Vals xs) : ∀ (d j : Nat), j < xs.length → xs.length + 1 - depthR xs j = d → ∀ f g, d < f → d < g → wayF xs f (j : Nat) = wayF xs g (j : Nat) := by
  intro d
  induction d using Nat.strongRecOn with
  | _ d ih =>
    intro j hj hd f g hf hg
    obtain ⟨f, rfl⟩ : ∃ k, f = k + 1 := ⟨f - 1, by omega⟩
    obtain ⟨g, rfl⟩ : ∃ k, g = k + 1 := ⟨g - 1, by omega⟩
    rw [wayF, wayF, if_neg (by omega), if_neg (by omega)]
    congr 1
    rcases heavyR_ok xs (j : Nat) with h | ⟨i, i1, i2, i3⟩
    · rw [h, wayF_neg _ _ (by omega), wayF_neg _ _ (by omega)]
    · rw [i3]
      have h1 := depth_step V i1 i2
      have h2 := depth_le V i1
      exact ih (xs.length + 1 - depthR xs i) (by omega) i i1 rfl f g (by omega) (by omega)
theorem wayR_neg {xs : List RB} {b : Int} (h : b < 0) : wayR xs b = [] := wayF_neg _ _ h
theorem wayR_eq {xs : List RB} (V : Vals xs) {j : Nat} (hj : j < xs.length) : wayR xs (j : Nat) = (j : Int) :: wayR xs (heavyR xs (j : Nat)) := by
  show wayF xs (xs.length + 1 + 1) _ = _
  rw [wayF, if_neg (by omega)]
  congr 1
  rcases heavyR_ok xs (j : Nat) with h | ⟨i, i1, i2, i3⟩
  · rw [h, wayF_neg _ _ (by omega), wayR_neg (by omega)]
  · rw [i3]
    have h1 := depth_step V i1 i2
    have h2 := depth_le V i1
    exact wayF_stable V _ i i1 rfl _ _ (by omega) (by omega)
theorem count_consI (b x : Int) (l : List Int) : (x :: l).count b = ind (decide (x = b)) + l.count b := by
  rw [List.count_cons]
  by_cases h : x = b
  · subst h; simp [ind]; omega
  · simp [ind, h]
/-- how often a bag lies on the way down from s -/
theorem way_root {xs : List RB} (V : Vals xs) {b : Nat} (hb : up xs b < 0) : ∀ s, s < xs.length → (wayR xs (s : Nat)).count (b : Int) = ind (decide (s = b)) := by
  refine tree_up V fun s hs ih => ?_
  rw [wayR_eq V hs, count_consI]
  have e : decide (((s : Nat) : Int) = (b : Nat)) = decide (s = b) := by rw [decide_eq_decide]; omega
  rw [e]
  rcases heavyR_ok xs (s : Nat) with h | ⟨i, i1, i2, i3⟩
  · rw [wayR_neg (by omega)]; rfl
  · rw [i3, ih i i1 i2, decide_eq_false (fun h : i = b => by subst h; omega)]; rfl
theorem way_step {xs : List RB} (V : Vals xs) {b p : Nat} (hb : up xs b = (p : Int)) : ∀ s, s < xs.length → (wayR xs (s : Nat)).count (b : Int) = ind (decide (s = b)) + (if heavyR xs (p : Nat) = (b : Int) then (wayR xs (s : Nat)).count (p : Int) else 0) := by
  refine tree_up V fun s hs ih => ?_
  rw [wayR_eq V hs, count_consI, count_consI]
  have e : ∀ c : Nat, decide (((s : Nat) : Int) = (c : Nat)) = decide (s = c) := fun c => by rw [decide_eq_decide]; omega
  rw [e, e]
  rcases heavyR_ok xs (s : Nat) with h | ⟨i, i1, i2, i3⟩
  · rw [h, wayR_neg (by omega)]
    by_cases hp : heavyR xs (p : Nat) = (b : Int)
    · rw [if_pos hp]
      have : ¬ s = p := fun hsp => by subst hsp; omega
      simp [ind, this]
    · rw [if_neg hp]; simp
  · rw [i3, ih i i1 i2]
    by_cases hp : heavyR xs (p : Nat) = (b : Int)
    · rw [if_pos hp, if_pos hp]
      have : decide (i = b) = decide (s = p) := by
        rw [decide_eq_decide]
        constructor
        · rintro rfl; rw [hb] at i2; omega
        · rintro rfl; rw [i3] at hp; omega
      rw [this]
    · rw [if_neg hp, if_neg hp]
      have : ¬ i = b := fun h => by
        subst h
        have : p = s := by rw [hb] at i2; omega
        subst this
        exact hp i3
      simp [ind, this]

def lightN (xs : List RB) (b : Nat) : List Nat := (kidN xs b).filter fun k => decide (heavyR xs (b : Nat) ≠ (k : Int))
theorem lightR_eq (xs : List RB) (b : Nat) : lightR xs (b : Nat) = (lightN xs b).map fun i : Nat => (i : Int) := by
  rw [lightR, kids_eq, lightN, List.filter_map]
  congr 1
  refine List.filter_congr fun k _ => ?_
  simp only [Function.comp, bne, Bool.not_eq_eq_eq_not]
  by_cases h : (k : Int) = heavyR xs (b : Nat)
  · simp [h]
  · have : ¬ heavyR xs (b : Nat) = (k : Int) := Ne.symm h
    simp [h, this]
theorem mem_lightN {xs : List RB} {b k : Nat} : k ∈ lightN xs b ↔ k < xs.length ∧ up xs k = (b : Int) ∧ heavyR xs (b : Nat) ≠ (k : Int) := by
  simp [lightN, mem_kidN, and_assoc]
/-- where the paths start; of the first k bags' light children -/
def stTo (xs : List RB) (r k : Nat) : List Nat := r :: (List.range k).flatMap (lightN xs)
theorem count_light {xs : List RB} (b p : Nat) : (lightN xs p).count b = ind (decide (b ∈ lightN xs p)) := by
  have hn : (lightN xs p).Nodup := List.Nodup.sublist List.filter_sublist (kidN_nodup xs p)
  by_cases h : b ∈ lightN xs p
  · rw [decide_eq_true h]
    have := List.nodup_iff_count.1 hn b
    have := List.count_pos_iff.2 h
    simp [ind]; omega
  · rw [decide_eq_false h, List.count_eq_zero_of_not_mem h]; rfl
theorem count_lights {xs : List RB} (b : Nat) : ∀ k, ((List.range k).flatMap (lightN xs)).count b = ind (decide (∃ p, p < k ∧ b ∈ lightN xs p))
  | 0 => by simp [ind]
  | k + 1 => by
    rw [List.range_succ, List.flatMap_append, List.count_append, count_lights b k]
    simp only [List.flatMap_cons, List.flatMap_nil, List.append_nil]
    rw [count_light]
    by_cases h1 : ∃ p, p < k ∧ b ∈ lightN xs p
    · obtain ⟨p, h2, h3⟩ := h1
      have h4 : ¬ b ∈ lightN xs k := fun h => by
        have := (mem_lightN.1 h).2.1
        have := (mem_lightN.1 h3).2.1
        omega
      rw [decide_eq_true ⟨p, h2, h3⟩, decide_eq_false h4, decide_eq_true ⟨p, by omega, h3⟩]; rfl
    · rw [decide_eq_false h1]
      by_cases h4 : b ∈ lightN xs k
      · rw [decide_eq_true h4, decide_eq_true ⟨k, by omega, h4⟩]; rfl
      · rw [decide_eq_false h4, decide_eq_false]; · rfl
        rintro ⟨p, h5, h6⟩
        by_cases hp : p = k
        · subst hp; exact h4 h6
        · exact h1 ⟨p, by omega, h6⟩
theorem sum_count {g : Nat → Nat} (b : Nat) : ∀ l : List Nat, (l.map fun s => ind (decide (s = b))).sum = l.count b
  | [] => rfl
  | x :: l => by
    rw [List.map_cons, List.sum_cons, sum_count (g := g) b l, count_cons_ind]
    congr 2
    rw [decide_eq_decide]; exact eq_comm
theorem sum_if {α : Type} (c : Prop) [Decidable c] (f : α → Nat) (l : List α) : (l.map fun s => if c then f s else 0).sum = if c then (l.map f).sum else 0 := by
  split
  · rfl
  · induction l with
    | nil => rfl
    | cons x l ih => simpa using ih
/-- each bag lies on one of the paths, once -/
theorem ways_once {xs : List RB} (V : Vals xs) {r : Nat} (hr : r < xs.length) (hu : up xs r < 0) (h1 : ∀ j, j < xs.length → up xs j < 0 → j = r) :
    ∀ b, b < xs.length → ((stTo xs r xs.length).map fun s => (wayR xs (s : Nat)).count (b : Int)).sum = 1 := by
  have hst : ∀ s ∈ stTo xs r xs.length, s < xs.length := by
    intro s hs
    rw [stTo, List.mem_cons, List.mem_flatMap] at hs
    rcases hs with rfl | ⟨p, _, hs⟩
    · exact hr
    · exact (mem_lightN.1 hs).1
  have hc : ∀ b, (stTo xs r xs.length).count b = ind (decide (b = r)) + ind (decide (∃ p, p < xs.length ∧ b ∈ lightN xs p)) := fun b => by
    rw [stTo, count_cons_ind, count_lights]
  refine tree_ind V (fun b hb hub => ?_) (fun b p hb hp hub ih => ?_)
  · have : ((stTo xs r xs.length).map fun s => (wayR xs (s : Nat)).count (b : Int)).sum = ((stTo xs r xs.length).map fun s => ind (decide (s = b))).sum := sum_congr fun s hs => way_root V (by omega) s (hst s hs)
    have hbr := h1 b hb (by omega)
    have hno : ¬∃ p, p < xs.length ∧ b ∈ lightN xs p := by
      rintro ⟨p, _, h⟩
      have := (mem_lightN.1 h).2.1
      omega
    rw [this, sum_count (g := fun _ => 0), hc, decide_eq_false hno, decide_eq_true hbr]; rfl
  · have : ((stTo xs r xs.length).map fun s => (wayR xs (s : Nat)).count (b : Int)).sum = ((stTo xs r xs.length).map fun s => ind (decide (s = b)) + (if heavyR xs (p : Nat) = (b : Int) then (wayR xs (s : Nat)).count (p : Int) else 0)).sum := sum_congr fun s hs => way_step V hub s (hst s hs)
    rw [this, sum_add, sum_count (g := fun _ => 0), hc, sum_if, ih]
    have hbr : ¬ b = r := fun h => by subst h; omega
    rw [decide_eq_false hbr]
    have e : decide (∃ p, p < xs.length ∧ b ∈ lightN xs p) = decide (heavyR xs (p : Nat) ≠ (b : Int)) := by
      rw [decide_eq_decide]
      constructor
      · rintro ⟨q, _, h⟩
        have h2 := mem_lightN.1 h
        have : q = p := by have := h2.2.1; omega
        subst this
        exact h2.2.2
      · intro h
        exact ⟨p, hp, mem_lightN.2 ⟨hb, hub, h⟩⟩
    rw [e]
    by_cases h : heavyR xs (p : Nat) = (b : Int) <;> simp [ind, h]

/-- the heavy child is a largest -/
theorem hvTo_max {xs : List RB} {b : Int} : ∀ k, k ≤ (kids xs b).length → (0 < k → 0 ≤ hvTo xs b k) ∧ ∀ j, j < k → sizeR xs (gi (kids xs b) j) ≤ sizeR xs (hvTo xs b k)
  | 0, _ => ⟨fun h => by omega, fun j h => by omega⟩
  | k + 1, h => by
    obtain ⟨h1, h2⟩ := hvTo_max (xs := xs) (b := b) k (by omega)
    obtain ⟨i, i1, i2, i3⟩ := kid_at (xs := xs) (b := b) (k := k) (by omega)
    rw [hvTo_succ (xs := xs) (b := b) (k := k) (by omega), heavyStep]
    split
    · rename_i hc
      refine ⟨fun _ => by omega, fun j hj => ?_⟩
      by_cases hjk : j = k
      · subst hjk; omega
      · have := h2 j (by omega)
        have := h1 (by omega)
        rcases hc with hc | hc <;> omega
    · rename_i hc
      rw [not_or] at hc
      refine ⟨fun _ => by omega, fun j hj => ?_⟩
      by_cases hjk : j = k
      · subst hjk; omega
      · exact h2 j (by omega)
theorem heavy_max {xs : List RB} {b : Int} {k : Int} (hk : k ∈ kids xs b) : 0 ≤ heavyR xs b ∧ sizeR xs k ≤ sizeR xs (heavyR xs b) := by
  obtain ⟨j, hj⟩ := List.mem_iff_getElem?.1 hk
  have hjl := (List.getElem?_eq_some_iff.1 hj).1
  have e : gi (kids xs b) j = k := by simp [gi, hj]
  have h0 := hvTo_max (xs := xs) (b := b) _ (Nat.le_refl _)
  rw [hvTo, List.take_length] at h0
  exact ⟨h0.1 (by omega), by have := h0.2 j hjl; rwa [e] at this⟩
/-- a light child's part is at most half -/
theorem light_half {xs : List RB} (V : Vals xs) {p b : Nat} (hp : p < xs.length) (h : b ∈ lightN xs p) : 2 * cnt xs b ≤ cnt xs p := by
  obtain ⟨h1, h2, h3⟩ := mem_lightN.1 h
  have hk : (b : Int) ∈ kids xs (p : Nat) := mem_kids.2 ⟨b, h1, h2, rfl⟩
  obtain ⟨m1, m2⟩ := heavy_max hk
  rcases heavyR_ok xs (p : Nat) with hh | ⟨i, i1, i2, i3⟩
  · omega
  rw [i3, sizeR_cnt V i i1, sizeR_cnt V b h1] at m2
  rw [cnt_eq V hp]
  have hib : i ≠ b := fun he => by subst he; exact h3 i3
  have : cnt xs i + cnt xs b ≤ ((kidN xs p).map fun k => cnt xs k).sum := by
    have m1 : i ∈ kidN xs p := mem_kidN.2 ⟨i1, i2⟩
    have m2 : b ∈ kidN xs p := mem_kidN.2 ⟨h1, h2⟩
    revert m1 m2
    generalize kidN xs p = l
    have one : ∀ (l : List Nat) (x : Nat), x ∈ l → cnt xs x ≤ (l.map fun k => cnt xs k).sum := by
      intro l x
      induction l with
      | nil => intro h; cases h
      | cons y l ih =>
        intro h
        rw [List.map_cons, List.sum_cons]
        rcases List.mem_cons.1 h with rfl | h
        · omega
        · have := ih h; omega
    induction l with
    | nil => intro h; cases h
    | cons y l ih =>
      intro m1 m2
      rw [List.map_cons, List.sum_cons]
      have m1' := m1
      rcases List.mem_cons.1 m1 with rfl | m1
      · rcases List.mem_cons.1 m2 with h | m2
        · exact absurd h.symm hib
        · have := one l b m2; omega
      · rcases List.mem_cons.1 m2 with rfl | m2
        · rcases List.mem_cons.1 m1' with h | m1''
          · exact absurd h hib
          · have := one l i m1''; omega
        · have := ih m1 m2; omega
  omega
theorem heavy_le {xs : List RB} (V : Vals xs) {p b : Nat} (hp : p < xs.length) (hb : b < xs.length) (h : up xs b = (p : Int)) : cnt xs b ≤ cnt xs p := by
  rw [cnt_eq V hp]
  have m : b ∈ kidN xs p := mem_kidN.2 ⟨hb, h⟩
  revert m
  generalize kidN xs p = l
  intro m
  have : cnt xs b ≤ (l.map fun k => cnt xs k).sum := by
    induction l with
    | nil => cases m
    | cons y l ih =>
      rw [List.map_cons, List.sum_cons]
      rcases List.mem_cons.1 m with rfl | m
      · omega
      · have := ih m; omega
  omega
/-- b is a light child -/
def isLt (xs : List RB) (b : Int) : Bool := (List.range xs.length).any fun p => (lightN xs p).any fun k => decide (b = (k : Int))
theorem isLt_iff {xs : List RB} {b : Nat} : isLt xs (b : Nat) = true ↔ ∃ p, p < xs.length ∧ b ∈ lightN xs p := by
  simp only [isLt, List.any_eq_true, List.mem_range, decide_eq_true_eq]
  constructor
  · rintro ⟨p, h1, k, h2, h3⟩
    obtain rfl : b = k := by omega
    exact ⟨p, h1, h2⟩
  · rintro ⟨p, h1, h2⟩
    exact ⟨p, h1, b, h2, rfl⟩
theorem isLt_false {xs : List RB} {b : Nat} (h : ¬∃ p, p < xs.length ∧ b ∈ lightN xs p) : isLt xs (b : Nat) = false := by
  cases hb : isLt xs (b : Nat)
  · rfl
  · exact absurd (isLt_iff.1 hb) h
/-- how many light ones among b and the bags above it -/
def lcnt (xs : List RB) (b : Nat) : Nat := (((b : Int) :: ab xs b).map fun k => ind (isLt xs k)).sum
theorem lcnt_le {xs : List RB} (V : Vals xs) : ∀ b, b < xs.length → 2 ^ lcnt xs b * cnt xs b ≤ xs.length := by
  refine tree_ind V (fun b hb hu => ?_) (fun b p hb hp hu ih => ?_)
  · have : lcnt xs b = 0 := by
      rw [lcnt, ab_root (by omega), List.map_cons, isLt_false]; · rfl
      rintro ⟨p, _, h⟩
      have := (mem_lightN.1 h).2.1
      omega
    rw [this]
    have := cnt_le xs b
    omega
  · have e : lcnt xs b = ind (isLt xs (b : Nat)) + lcnt xs p := by
      rw [lcnt, (ab_step V hb hu).1, List.map_cons, List.sum_cons]; rfl
    rw [e]
    by_cases h : b ∈ lightN xs p
    · have h2 : isLt xs (b : Nat) = true := isLt_iff.2 ⟨p, hp, h⟩
      rw [h2]
      have := light_half V hp h
      calc 2 ^ (1 + lcnt xs p) * cnt xs b = 2 ^ lcnt xs p * (2 * cnt xs b) := by rw [Nat.pow_add, Nat.pow_one, Nat.mul_comm 2, Nat.mul_assoc]
        _ ≤ 2 ^ lcnt xs p * cnt xs p := Nat.mul_le_mul_left _ this
        _ ≤ _ := ih
    · have h2 : isLt xs (b : Nat) = false := isLt_false (by
        rintro ⟨q, _, h'⟩
        have := (mem_lightN.1 h').2.1
        obtain rfl : q = p := by omega
        exact h h')
      rw [h2]
      have := heavy_le V hp hb hu
      calc 2 ^ (0 + lcnt xs p) * cnt xs b ≤ 2 ^ (0 + lcnt xs p) * cnt xs p := Nat.mul_le_mul_left _ this
        _ = 2 ^ lcnt xs p * cnt xs p := by rw [Nat.zero_add]
        _ ≤ _ := ih
/-- the number of binary digits -/
def digits : Nat → Nat
  | 0 => 0
  | n + 1 => digits ((n + 1) / 2) + 1
theorem digits_lt : ∀ n, n < 2 ^ digits n
  | 0 => by rw [digits]; decide
  | n + 1 => by
    rw [digits, Nat.pow_succ]
    have := digits_lt ((n + 1) / 2)
    omega
theorem lcnt_digits {xs : List RB} (V : Vals xs) {b : Nat} (hb : b < xs.length) : lcnt xs b ≤ digits xs.length := by
  have h1 := lcnt_le V b hb
  have h2 := cnt_pos V hb
  have h3 := digits_lt xs.length
  have h4 : 2 ^ lcnt xs b < 2 ^ digits xs.length := by
    have : 2 ^ lcnt xs b * 1 ≤ 2 ^ lcnt xs b * cnt xs b := Nat.mul_le_mul_left _ h2
    omega
  exact Nat.le_of_lt ((Nat.pow_lt_pow_iff_right (by decide)).1 h4)
end Go.Mono

set_option linter.unusedVariables false
namespace Go.Mono
open Go Go.Proofs Go.RowKit

theorem fway_spec {G : Nat → Prop} (F : Fm) (xs : List RB) (V : Vals xs) (hx : xs.length = F.1.length) (hh : ∀ j : Nat, j < xs.length → (ofF F (j : Int)).2.2.2.1 = heavyR xs (j : Nat)) (b : Int) (v : Value) (W : World) (h : (Dv (ptE frE) G (some F)).p v W)
    (hn : F.2.1.length = F.1.length) (hl : F.1.length ≤ 4096) :
    Calls Tryd.prog 28 #[v, I b] W (Post (Dv (slE intE) (fun b => b < W.heap.size) (if inT F.1 b then wayR xs b else [])) W) := by
  have hG : ∀ b, b < W.heap.size → b < W.heap.size := fun b hb => hb
  refine enter (args := [v, I b]) (As := [Dv (ptE frE) (GB W Go.Mono.G0) (some F), E (I b)]) Tryd.func28 rfl Tryd.ntmps28 (Nat.le_of_ble_eq_true rfl) ?_ (fun a hf => ?_) (Nat.le_of_ble_eq_true rfl)
  rotate_left
  dsimp only [params, Nat.reduceAdd] at hf
  rotate_right
  · exact arg2 (Dv.toB (Dv.weak h fun b _ hb => hb.elim)) rfl
  have e := Ext.rfl' W
  repeat refine seq ?_
  refine regn0 ?_
  refine tl_as hf rfl (by decide) fun a hf => ?_
  refine tl_nil ?_
  repeat refine seq ?_
  refine regn0 ?_
  refine tl_as hf rfl (by decide) fun a hf => ?_
  refine tl_nil ?_
  have Ho : OwR intE 3 W.heap.size (fun b => b < W.heap.size) W [] (.slice none 0 0) := OwR.nil intE _ (Nat.le_refl _) hG
  replace hf := hf.keep [0, 1, 5]
  dsimp only [keep, List.filterMap, look, Nat.beq, Option.map] at hf
  repeat refine seq ?_
  refine blk (loopN (fun f a w => ∃ (c : Int) (out : List Int) (u : Value), f + out.length = xs.length + 2 ∧ (∀ j : Nat, j < xs.length → c = (j : Int) → xs.length + 1 - depthR xs j < f) ∧ Fr 17 a w [(0, Dv (ptE frE) (GB W Go.Mono.G0) (some F)), (1, E (I c)), (5, E u)] ∧ Ext W w ∧
    (if inT F.1 b then wayR xs b else []) = out ++ (if inT F.1 c then wayF xs f c else []) ∧ OwR intE 3 W.heap.size (fun b => b < W.heap.size) w out u) (xs.length + 2) ⟨b, [], _, rfl, fun j h1 h2 => by omega, hf, e, rfl, Ho⟩ ?_)
  clear hf e Ho
  rintro f a w ⟨c, out, u, hf0, hc, hf, e, ha, Ho⟩
  repeat refine seq ?_
  refine regn 3 hf (by decide +kernel) ?_
  refine st (mv rfl) ?_
  refine st (mv rfl) ?_
  refine st (call2 En91 rfl rfl (fun v u w he h h' => by cases h'; exact fis_spec F _ _ w h)) ?_
  refine en fun a w e' hf => ?_
  replace e := Ext.tr e e'
  replace Ho := Ho.ext e'
  clear e'
  refine tl_nil ?_
  repeat refine seq ?_
  refine ifc hf rfl (fun hb => wskip ?_) (fun hb => wexit ?_)
  · have hb2 : 0 ≤ c ∧ c < (F.1.length : Nat) := by simpa [inT] using hb
    obtain ⟨j, rfl⟩ : ∃ j : Nat, c = (j : Int) := ⟨c.toNat, by omega⟩
    have hj : j < xs.length := by omega
    have hcj := hc j hj rfl
    obtain ⟨f, rfl⟩ : ∃ g, f = g + 1 := ⟨f - 1, by omega⟩
    have hstep : wayF xs (f + 1) (j : Int) = (j : Int) :: wayF xs f (heavyR xs (j : Nat)) := by rw [wayF, if_neg (by omega)]
    rw [if_pos (c := inT F.1 (j : Int) = true) hb, hstep] at ha
    repeat refine seq ?_
    refine blk ?_
    replace hf := hf.keep [0, 1, 5]
    dsimp only [keep, List.filterMap, look, Nat.beq, Option.map] at hf
    repeat refine seq ?_
    refine regn 3 hf (by decide +kernel) ?_
    refine st (mv rfl) ?_
    refine st (mv rfl) ?_
    refine st (bsl1 Tryd.underlying43 I3 rfl (by decide) rfl Ho.avs (isI rfl)) ?_
    refine en fun a w e' hf => ?_
    replace e := Ext.tr e e'
    replace Ho := Ho.ext e'
    clear e'
    haveI hin : ∀ G0, InR (GB W G0) _ := OwR.inGB Ho (Nat.le_refl _)
    refine tl_app Tryd.underlying43 I3 rfl rfl hf (by decide) rfl Ho (isR rfl) (by simp only [List.length_singleton]; omega) (by simp only [List.length_singleton, maxLen]; omega) fun a v w hg hat Hn hf => ?_
    replace e := e.gro hg (Ho.row (Nat.le_refl _))
    replace Ho := Hn; clear Hn hg hat hin
    refine tl_as hf rfl (by decide) fun a hf => ?_
    refine tl_nil ?_
    replace hf := hf.keep [0, 1, 5]
    dsimp only [keep, List.filterMap, look, Nat.beq, Option.map] at hf
    try simp only [Exit.then, Exit.inBlock, ↓reduceIte]
    repeat refine seq ?_
    refine regn 3 hf (by decide +kernel) ?_
    refine st (mv rfl) ?_
    refine st (mv rfl) ?_
    refine st ((call2 En50 rfl rfl (fun v u w he h h' => by cases h'; exact fheavy_spec F _ _ w h hn)).eq (congrArg (Value.int .i64) (hh j hj))) ?_
    refine en fun a w e' hf => ?_
    replace e := Ext.tr e e'
    replace Ho := Ho.ext e'
    clear e'
    refine tl_as hf rfl (by decide) fun a hf => ?_
    refine tl_nil ?_
    replace hf := hf.keep [0, 1, 5]
    dsimp only [keep, List.filterMap, look, Nat.beq, Option.map] at hf
    refine ⟨f, Nat.lt_succ_self _, heavyR xs (j : Nat), out ++ [(j : Int)], _, ?_, ?_, hf, e, ?_, Ho⟩
    · simp only [List.length_append, List.length_singleton]; omega
    · intro i h1 h2
      rcases heavyR_ok xs (j : Nat) with h | ⟨i', i1, i2, i3⟩
      · omega
      · obtain rfl : i = i' := by omega
        have := depth_step V i1 i2
        have := depth_le V i1
        omega
    · rw [ha, List.append_assoc, List.singleton_append]
      congr 2
      by_cases hin : inT F.1 (heavyR xs (j : Nat)) = true
      · rw [if_pos hin]
      · rw [if_neg hin]
        rcases heavyR_ok xs (j : Nat) with h | ⟨i', i1, i2, i3⟩
        · exact wayF_neg _ _ (by omega)
        · exact absurd (by simp [inT]; omega) hin
  · simp only [Exit.then, Exit.inBlock, ↓reduceIte]
    rw [if_neg (c := inT F.1 c = true) (by rw [hb]; decide), List.append_nil] at ha
    repeat refine seq ?_
    refine regn 1 hf (by decide +kernel) ?_
    refine st (mv rfl) ?_
    refine en fun a w e' hf => ?_
    replace e := Ext.tr e e'
    replace Ho := Ho.ext e'
    clear e'
    refine tl_as hf rfl (by decide) fun a hf => ?_
    refine tl_nil ?_
    refine wret ?_
    try simp only [Exit.then, Exit.inBlock]
    refine ret1 rfl hf rfl ?_
    rintro _ rfl
    exact ⟨_, rfl, e, (by rw [ha]; exact Ho.sl)⟩

/-- the index of the first number for which p holds, or -1 -/
def fstI (p : Int → Bool) (l : List Int) : Int := fstN (fun i => p (gi l i)) l.length

theorem indexFuncI_spec {G : Nat → Prop} (l : List Int) (v : Value) (id : FuncId) (caps : Array Value) (p : Int → Bool) (W : World) (hen : Proofs.Enters Tryd.prog id) (h : (Dv (slE intE) G l).p v W)
    (hp : ∀ w x, Ext W w → Calls Tryd.prog id (#[I x] ++ caps) w (Post (E (B (p x))) w)) (hl : l.length ≤ 4096) :
    Calls Tryd.prog 144 #[v, .func (.func id) #[] caps] W (Post (E (I (fstI p l))) W) := by
  refine enter (args := [v, .func (.func id) #[] caps]) (As := [Dv (slE intE) G l, E (.func (.func id) #[] caps)]) Tryd.func144 rfl Tryd.ntmps144 (Nat.le_of_ble_eq_true rfl) ?_ (fun a hf => ?_) (Nat.le_of_ble_eq_true rfl)
  rotate_left
  dsimp only [params, Nat.reduceAdd] at hf
  rotate_right
  · exact arg2 h rfl
  have e := Ext.rfl' W
  repeat refine seq ?_
  refine regn0 ?_
  refine tl_as hf rfl (by decide) fun a hf => ?_
  refine tl_nil ?_
  repeat refine seq ?_
  refine regn 3 hf (by decide +kernel) ?_
  refine st (mv rfl) ?_
  refine st (lenD Tryd.underlying43 (isR rfl)) ?_
  refine st (mv rfl) ?_
  refine en fun a w e' hf => ?_
  replace e := Ext.tr e e'
  clear e'
  refine tl_nil ?_
  replace hf := hf.keep [0, 1, 7, 8]
  dsimp only [keep, List.filterMap, look, Nat.beq, Option.map] at hf
  repeat refine seq ?_
  refine blk (loopN (fun r0 a w => ∃ (k : Nat) , r0 = l.length - k ∧ k ≤ l.length ∧ Fr 19 a w [(0, Dv (slE intE) G l), (1, E (.func (.func id) #[] caps)), (7, E (I (l.length : Nat))), (8, E (I k))] ∧ Ext W w ∧ ∀ i, i < k → p (gi l i) = false) l.length ⟨0, rfl, by omega, hf, e, (fun i hi => by omega)⟩ ?_)
  clear hf e; try clear Ho
  rintro r0 a w ⟨k, rfl, hk, hf, e, Ho⟩
  repeat refine seq ?_
  refine regn 1 hf (by decide +kernel) ?_
  refine st (lss rfl rfl) ?_
  refine en fun a w e' hf => ?_
  replace e := Ext.tr e e'
  clear e'
  refine tl_nil ?_
  repeat refine seq ?_
  refine ifc hf rfl (fun hc => wskip ?_) (fun hc => wexit ?_)
  rotate_left
  rotate_left
  · have hlt : k < l.length := by have := of_decide_eq_true hc; (try dsimp only at this); omega
    clear hc
    replace hf := hf.keep [0, 1, 7, 8]
    dsimp only [keep, List.filterMap, look, Nat.beq, Option.map] at hf
    repeat refine seq ?_
    refine blk ?_
    repeat refine seq ?_
    refine regn 1 hf (by decide +kernel) ?_
    refine st (mv rfl) ?_
    refine en fun a w e' hf => ?_
    replace e := Ext.tr e e'
    clear e'
    refine tl_as hf rfl (by decide) fun a hf => ?_
    refine tl_nil ?_
    repeat refine seq ?_
    refine regn 6 hf (by decide +kernel) ?_
    refine st (mv rfl) ?_
    refine st (mv rfl) ?_
    refine st (mv rfl) ?_
    refine st (idxD Tryd.underlying43 S3 (isR rfl) rfl (by omega) (gi_get hlt)) ?_
    refine st (ldI T3 (isR rfl)) ?_
    refine st (callV1 hen rfl rfl (fun v w he h => by cases h; exact hp w _ (Ext.tr e he))) ?_
    refine en fun a w e' hf => ?_
    replace e := Ext.tr e e'
    clear e'
    refine tl_nil ?_
    repeat refine seq ?_
    refine ifc hf rfl (fun hb => ?_) (fun hb => ?_)
    · repeat refine seq ?_
      refine regn 1 hf (by decide +kernel) ?_
      refine st (mv rfl) ?_
      refine en fun a w e' hf => ?_
      replace e := Ext.tr e e'
      clear e'
      refine tl_as hf rfl (by decide) fun a hf => ?_
      refine tl_nil ?_
      refine wret ?_
      try simp only [Exit.then, Exit.inBlock]
      refine ret1 rfl hf rfl ?_
      rintro _ rfl
      exact ⟨_, rfl, e, congrArg I (fstN_hit hlt Ho hb).symm⟩
    · refine wskip ?_
      try simp only [Exit.then, Exit.inBlock, ↓reduceIte]
      try simp only [Exit.then, Exit.inBlock, ↓reduceIte]
      repeat refine seq ?_
      refine regn 1 hf (by decide +kernel) ?_
      refine st ((add rfl rfl (by omega)).eq (congrArg (Value.int .i64) (show (k : Int) + 1 = ((k + 1 : Nat) : Int) from rfl))) ?_
      refine en fun a w e' hf => ?_
      replace e := Ext.tr e e'
      clear e'
      refine tl_op hf (by decide) (mv rfl) fun a w e' hf => ?_
      replace e := Ext.tr e e'
      clear e'
      refine tl_nil ?_
      replace hf := hf.keep [0, 1, 7, 8]
      dsimp only [keep, List.filterMap, look, Nat.beq, Option.map] at hf
      refine ⟨_, ?_, k + 1, rfl, by omega, hf, e, ?_⟩
      · omega
      intro i hi
      by_cases hk : i = k
      · subst hk; exact hb
      · exact Ho i (by omega)
  · obtain rfl : k = l.length := by have := of_decide_eq_false hc; (try dsimp only at this); omega
    clear hc
    simp only [Exit.then, Exit.inBlock, ↓reduceIte]
    repeat refine seq ?_
    refine regn0 ?_
    refine tl_as hf rfl (by decide) fun a hf => ?_
    refine tl_nil ?_
    refine wret ?_
    try simp only [Exit.then, Exit.inBlock]
    refine ret1 rfl hf rfl ?_
    rintro _ rfl
    exact ⟨_, rfl, e, congrArg I (fstN_none Ho).symm⟩
end Go.Mono

set_option linter.unusedVariables false
set_option linter.unusedSimpArgs false
namespace Go.Mono
open Go Go.RowKit

/-- the operation that changes blocks of S: it runs once, ahead of it the world has but grown -/
structure XOpZ (P : Program) (w0 : World) (S : Nat → Prop) (F : World → Prop) (L : Env) (o : Oper) (A : VA) : Prop where
  out : ∀ ρ w, Ext w0 w → (∀ x ∈ o.op.operands, ∀ B, opd L x = some B → B.p (ρ x) w) → OpR P o ρ w (fun v w' => Chg S w w' ∧ A.p v w' ∧ F w')
/-- the operations in the order of the text; fr: which are free; L: for the operations, L2: for what stands behind -/
def RegZ (P : Program) (ops : Array Oper) (w0 : World) (S : Nat → Prop) (F : World → Prop) : List Bool → List Oper → (Env → Prop) → Env → Env → Prop
  | [], [o], K, L, L2 => o.guard = none ∧ ∃ A, XOpZ P w0 S F L o A ∧ K (push o.dst A L2)
  | true :: fr, o :: rest, K, L, L2 => ∃ A, (∀ w1, Chg S w0 w1 → GOp P ops w1 L o A) ∧ AvS S A ∧ RegZ P ops w0 S F fr rest K (push o.dst A L) (push o.dst A L2)
  | false :: fr, o :: rest, K, L, L2 => ∃ A, GOp P ops w0 L o A ∧ RegZ P ops w0 S F fr rest K (push o.dst A L) (push o.dst Any L2)
  | _, _, _, _, _ => False

section
variable {P : Program} {ops : Array Oper} {Q : Exit → Act → World → Prop} {w0 : World} {n : Nat} {ds : List Deferred} {r : Option Nat}

def frF (fr : List Bool) (j : Nat) : Bool := fr.getD j false
theorem RegZ_As {S : Nat → Prop} {F : World → Prop} {K : Env → Prop} : ∀ (M : List Oper) (fr : List Bool) (k : Nat) (L L2 : Env), (∀ j, j < M.length → ops[k + j]? = M[j]?) → RegZ P ops w0 S F fr M K L L2 →
    ∃ As : Nat → VA, M.length = fr.length + 1 ∧ (∀ j o, j < fr.length → ops[k + j]? = some o → (frF fr j = false → GOp P ops w0 (envF ops L As k j) o (As j)) ∧ (frF fr j = true → (∀ w1, Chg S w0 w1 → GOp P ops w1 (envF ops L As k j) o (As j)) ∧ AvS S (As j))) ∧
      (∀ o, ops[k + fr.length]? = some o → o.guard = none ∧ XOpZ P w0 S F (envF ops L As k fr.length) o (As fr.length)) ∧ K (envF ops L2 (fun j => if frF fr j = true ∨ j = fr.length then As j else Any) k M.length)
  | [], [], _, _, _, _, h => h.elim
  | [], _ :: _, _, _, _, _, h => by
    rename_i f fr _ _ _ _
    cases f <;> exact h.elim
  | [o], [], k, L, L2, hM, ⟨hg, A, h1, h2⟩ => by
    have h0 : ops[k]? = some o := by simpa using hM 0 (by simp)
    have hd : dstOf ops k = o.dst := by simp [dstOf, h0]
    refine ⟨fun _ => A, rfl, fun j o hj => by simp at hj, fun o' ho' => ?_, ?_⟩
    · rw [List.length_nil, Nat.add_zero, h0] at ho'
      obtain rfl := Option.some.inj ho'
      exact ⟨hg, h1⟩
    · have : envF ops L2 (fun j => if frF [] j = true ∨ j = ([] : List Bool).length then A else Any) k 1 = push o.dst A L2 := by
        have := envFY_cons (ops := ops) L2 A (fun _ => Any) k 0
        rw [hd] at this
        show _ = envF ops (push o.dst A L2) (fun _ => Any) (k + 1) 0
        rw [← this]
        rfl
      rw [List.length_singleton, this]
      exact h2
  | o :: o2 :: M, [], _, _, _, _, h => h.elim
  | o :: M, f :: fr, k, L, L2, hM, h => by
    have h0 : ops[k]? = some o := by simpa using hM 0 (by simp)
    have hd : dstOf ops k = o.dst := by simp [dstOf, h0]
    obtain ⟨A, hA, hr⟩ : ∃ A, ((f = false → GOp P ops w0 L o A) ∧ (f = true → (∀ w1, Chg S w0 w1 → GOp P ops w1 L o A) ∧ AvS S A)) ∧ RegZ P ops w0 S F fr M K (push o.dst A L) (push o.dst (if f = true then A else Any) L2) := by
      cases f with
      | true =>
        obtain ⟨A, h1, h2, h3⟩ := h
        exact ⟨A, ⟨(fun h => by cases h), (fun _ => ⟨h1, h2⟩)⟩, h3⟩
      | false =>
        obtain ⟨A, h1, h3⟩ := h
        exact ⟨A, ⟨(fun _ => h1), (fun h => by cases h)⟩, h3⟩
    obtain ⟨As, h1, h2, h3, h4⟩ := RegZ_As M fr (k + 1) _ _ (fun j hj => by
      have := hM (j + 1) (by simpa using hj)
      rw [show k + 1 + j = k + (j + 1) by omega]
      simpa using this) hr
    refine ⟨consFY A As, by simp [h1], ?_, ?_, ?_⟩
    · intro j o' hj ho'
      cases j with
      | zero =>
        rw [Nat.add_zero, h0] at ho'
        obtain rfl := Option.some.inj ho'
        exact hA
      | succ j =>
        rw [envFY_cons, hd]
        exact h2 j o' (by simpa using hj) (by rw [show k + 1 + j = k + (j + 1) by omega]; exact ho')
    · intro o' ho'
      rw [List.length_cons, envFY_cons, hd]
      exact h3 o' (by rw [show k + 1 + fr.length = k + (fr.length + 1) by omega]; exact ho')
    · have e : (fun j => if frF (f :: fr) j = true ∨ j = fr.length + 1 then consFY A As j else Any) = consFY (if f = true then A else Any) (fun j => if frF fr j = true ∨ j = fr.length then As j else Any) := by
        funext j
        cases j with
        | zero =>
          show (if f = true ∨ 0 = fr.length + 1 then A else Any) = (if f = true then A else Any)
          have : ¬ 0 = fr.length + 1 := by omega
          simp [this]
        | succ j =>
          show (if frF fr j = true ∨ j + 1 = fr.length + 1 then As j else Any) = _
          simp [consFY]
      rw [List.length_cons, List.length_cons, e, envFY_cons, hd]
      exact h4

structure InvZ (ops : Array Oper) (m x : Nat) (fr : Nat → Bool) (S : Nat → Prop) (F : World → Prop) (n : Nat) (ds : List Deferred) (w0 : World) (L : Env) (As : Nat → VA) (listed : Array Bool) (a : Act) (w : World) : Prop where
  ext : Chg S w0 w
  pre : listed.getD x true = false → Ext w0 w
  post : listed.getD x false = true → F w
  size : a.tmps.size = n
  defers : a.defers = ds
  hL : ∀ t A, look L t = some A → (∀ j, j < m → dstOf ops j ≠ some t) → A.p (a.eval (.tmp t)) w
  hA : ∀ i, i < m → listed.getD i false = true → (listed.getD x true = false ∨ fr i = true ∨ i = x) → ∀ d, dstOf ops i = some d → (As i).p (a.eval (.tmp d)) w

theorem wpAny_mainZ {m x : Nat} {fr : Nat → Bool} {S : Nat → Prop} {F : World → Prop} (hx0 : x < m) (hFst : ∀ w w', Ext w w' → F w → F w') {L : Env} {As : Nat → VA} (hm : m ≤ ops.size) (hchk : ∀ i, i < m → chkOp ops m n i = true) (hchk2 : ∀ i, m ≤ i → i < ops.size → chkTail ops i = true)
    (hanc : ∀ j, j < m → j ≠ x → fr j = false → covers ops 12 x j = true)
    (hfree : ∀ i o, i < m → i ≠ x → fr i = true → ops[i]? = some o → ∀ t, (t ∈ tmpsOf o ∨ gdst ops o = some t) → ∀ j, j < m → dstOf ops j = some t → fr j = true ∧ j ≠ x)
    (hops : ∀ j o, j < m → j ≠ x → ops[j]? = some o → (fr j = false → GOp P ops w0 (envF ops L As 0 j) o (As j)) ∧ (fr j = true → (∀ w1, Chg S w0 w1 → GOp P ops w1 (envF ops L As 0 j) o (As j)) ∧ AvS S (As j)))
    (hX : ∀ o, ops[x]? = some o → o.guard = none ∧ XOpZ P w0 S F (envF ops L As 0 x) o (As x)) (hLav : AvSL S L)
    (hend : ∀ a w, Chg S w0 w → F w → FrD n ds a w (envF ops L (fun j => if fr j = true ∨ j = x then As j else Any) 0 m) → wpListIn (FW r) 0 P ops Q (ops.toList.drop m) a w) :
    ∀ (c : Nat) (listed : Array Bool) (a : Act) (w : World), (List.range m).countP (fun i => !listed.getD i true) = c → listed.size = ops.size →
      (∀ j, m ≤ j → j < ops.size → listed.getD j true = false) → LD ops listed → InvZ ops m x fr S F n ds w0 L As listed a w → wpAnyIn (FW r) 0 P .any ops Q (c + (ops.size - m)) listed a w
  | 0, listed, a, w, hc, hsz, hun, hld, hi => by
    have hall : ∀ j, j < m → listed.getD j false = true := by
      intro j hj
      have := (List.countP_eq_zero.1 hc) j (List.mem_range.2 hj)
      have hjl : j < listed.size := by omega
      simpa [hjl] using this
    rw [Nat.zero_add]
    refine wpAny_tail m hchk2 (ops.size - m) m (by omega) (Nat.le_refl _) listed a w hall hun hsz hld (hend a w hi.ext (hi.post (hall x hx0)) ⟨hi.size, hi.defers, fun t A ht => ?_⟩)
    rcases look_envF L _ t A m ht with ⟨j, hj, hd, rfl⟩ | ⟨hn, hl⟩
    · by_cases hk : fr j = true ∨ j = x
      · rw [if_pos hk]
        exact hi.hA j hj (hall j hj) (.inr hk) t hd
      · rw [if_neg hk]; trivial
    · exact hi.hL t A hl hn
  | c + 1, listed, a, w, hc, hsz, hun, hld, hi => by
    have facts : ∀ i o, i < m → ops[i]? = some o → (∀ e ∈ o.after, Region.binds .any e = true → e.on < i) ∧ (∀ d, o.dst = some d → d < n) ∧
        (∀ t, t ∈ tmpsOf o ∨ gdst ops o = some t → ∀ j, j < m → dstOf ops j = some t → bnd ops i j = true) ∧ (∀ j, j < m → j ≠ i → ∀ d, o.dst = some d → dstOf ops j ≠ some d) := by
      intro i o hlt ho
      have := hchk i hlt
      simp only [chkOp, ho, Bool.and_eq_true, Array.all_eq_true_iff_forall_mem, Bool.or_eq_true, Bool.not_eq_true', List.all_eq_true, List.mem_range, List.mem_append, Option.mem_toList] at this
      obtain ⟨⟨⟨h1, h2⟩, h3⟩, h4⟩ := this
      refine ⟨fun e he hb => ?_, fun d hd => ?_, fun t ht j hj hd => ?_, fun j hj hne d hd hd' => ?_⟩
      · rcases h1 e he with h | h
        · rw [hb] at h; cases h
        · simpa [Nat.blt_eq] using h
      · simpa [hd, Nat.blt_eq] using h2
      · have := h3 t ht j hj
        rcases this with h | h
        · rw [hd] at h; simp at h
        · exact h
      · have := h4 j hj
        rcases this with h | h
        · exact hne (Nat.eq_of_beq_eq_true h)
        · rw [hd, hd'] at h; simp at h
    have prog : ∃ i, i < m ∧ listed.getD i true = false ∧ ∀ j, j < i → listed.getD j true = true := by
      have hex : ∃ i, i < m ∧ listed.getD i true = false := by
        have hpos : 0 < (List.range m).countP (fun i => !listed.getD i true) := by omega
        obtain ⟨i, hi, hb⟩ := List.countP_pos_iff.1 hpos
        exact ⟨i, List.mem_range.1 hi, by simpa using hb⟩
      obtain ⟨i, hlt, hb⟩ := hex
      induction i using Nat.strongRecOn with
      | _ i ih =>
        by_cases h : ∃ j, j < i ∧ listed.getD j true = false
        · obtain ⟨j, hj, hjb⟩ := h
          exact ih j hj (by omega) hjb
        · refine ⟨i, hlt, hb, fun j hj => ?_⟩
          cases hjb : listed.getD j true with
          | true => rfl
          | false => exact absurd ⟨j, hj, hjb⟩ h
    obtain ⟨i0, hi0, hu0, hbelow⟩ := prog
    have hready : i0 ∈ Region.ready .any ops listed := by
      have ho : ops[i0]? = some (ops[i0]'(by omega)) := by simp
      refine mem_ready.2 ⟨hu0, _, ho, fun e he hb => ?_⟩
      have hlt := (facts i0 _ hi0 ho).1 e he hb
      have := hbelow _ hlt
      have hjl : e.on < listed.size := by omega
      simpa [hjl] using this
    rw [show c + 1 + (ops.size - m) = (c + (ops.size - m)) + 1 by omega]
    refine ⟨fun h0 => (by rw [h0] at hready; cases hready), fun i hir => ?_⟩
    obtain ⟨hu, o, ho, hall⟩ := mem_ready.1 hir
    have hilt : i < ops.size := (Array.getElem?_eq_some_iff.1 ho).1
    have listed_of_bnd : ∀ j, bnd ops i j = true → listed.getD j false = true := by
      intro j hb
      simp only [bnd, ho] at hb
      obtain ⟨e, he, hb⟩ := Array.any_eq_true'.1 hb
      simp only [Bool.and_eq_true] at hb
      have := hall e he hb.1
      rwa [Nat.eq_of_beq_eq_true hb.2] at this
    have him : i < m := by
      rcases Nat.lt_or_ge i m with h | h
      · exact h
      · have hc := hchk2 i h hilt
        simp only [chkTail, ho, Bool.and_eq_true, List.all_eq_true, List.mem_range] at hc
        have := cov hld 12 i i0 (hc.2 i0 (by omega)) (fun o' ho' e he hb => by
          rw [ho] at ho'
          obtain rfl := Option.some.inj ho'
          exact hall e he hb)
        rw [not_listed hu0] at this
        cases this
    obtain ⟨f1, f2, f3, f4⟩ := facts i o him ho
    have hxun : i ≠ x → fr i = false → listed.getD x true = false := by
      intro hix hfr
      cases hlx : listed.getD x true with
      | false => rfl
      | true =>
        have hxl : x < listed.size := by omega
        have hlx' : listed.getD x false = true := by simpa [hxl] using hlx
        have := cov hld 12 x i (hanc i him hix hfr) (fun o' ho' e he hb => hld x o' hlx' ho' e he hb)
        rw [not_listed hu] at this
        cases this
    have hcond : ∀ j, j < m → (∃ t, (t ∈ tmpsOf o ∨ gdst ops o = some t) ∧ dstOf ops j = some t) → (listed.getD x true = false ∨ fr j = true ∨ j = x) := by
      rintro j hj ⟨t, ht, hd⟩
      by_cases hix : i = x
      · exact .inl (hix ▸ hu)
      · cases hfr : fr i with
        | true => exact .inr (.inl (hfree i o him hix hfr ho t ht j hj hd).1)
        | false => exact .inl (hxun hix hfr)
    have byLook : ∀ t, (t ∈ tmpsOf o ∨ gdst ops o = some t) → ∀ B, look (envF ops L As 0 i) t = some B → B.p (a.eval (.tmp t)) w := by
      intro t ht B hB
      rcases look_envF L As t B i hB with ⟨j, hj, hd, rfl⟩ | ⟨hn, hl⟩
      · exact hi.hA j (by omega) (listed_of_bnd j (f3 t ht j (by omega) hd)) (hcond j (by omega) ⟨t, ht, hd⟩) t hd
      · refine hi.hL t B hl fun j hj hd => ?_
        have hb := f3 t ht j hj hd
        simp only [bnd, ho] at hb
        obtain ⟨e, he, hb⟩ := Array.any_eq_true'.1 hb
        simp only [Bool.and_eq_true] at hb
        have hlt := f1 e he hb.1
        rw [Nat.eq_of_beq_eq_true hb.2] at hlt
        exact hn j hlt hd
    have ops1 : ∀ x ∈ o.op.operands, ∀ B, opd (envF ops L As 0 i) x = some B → B.p (a.eval x) w := fun x hx B hB => by
      cases x with
      | tmp t => exact byLook t (.inl (List.mem_filterMap.2 ⟨.tmp t, by simpa using hx, rfl⟩)) B hB
      | const v => simp [opd] at hB; subst hB; rfl
      | global g => simp [opd] at hB; subst hB; rfl
      | func f => simp [opd] at hB; subst hB; rfl
    have hdst : dstOf ops i = o.dst := by simp [dstOf, ho]
    have step : ∀ v w', Chg S w w' → (i ≠ x → Ext w w') → (i = x → ∀ j, j < m → j ≠ x → fr j = true → AvS S (As j)) → (As i).p v w' → (i = x → F w') → wpAnyIn (FW r) 0 P .any ops Q (c + (ops.size - m)) (listed.setIfInBounds i true) (a.put o.dst v) w' := by
      intro v w' hx hxe hxa hv hvF
      have stab : ∀ (A : VA) u, AvS S A → A.p u w → A.p u w' := fun A u hA h => hA.av _ _ _ hx h
      refine wpAny_mainZ hx0 hFst hm hchk hchk2 hanc hfree hops hX hLav hend c _ _ _ ?_ (by simpa using hsz) ?_ ?_ ?_
      · have := countP_upd m (fun j => !listed.getD j true) (fun j => !(listed.setIfInBounds i true).getD j true) i him (by simp only [hu, Bool.not_false])
          (by have hjl : i < listed.size := by omega
              simp [hjl]) (fun j hj => by simp only [getD_set_ne true (Ne.symm hj)])
        omega
      · intro j hj hj'
        rw [getD_set_ne true (by omega)]
        exact hun j hj hj'
      · exact hld.set fun o' ho' e he hb => by
          rw [ho] at ho'
          obtain rfl := Option.some.inj ho'
          exact hall e he hb
      · refine ⟨Chg.tr hi.ext hx, fun hl => ?_, fun hl => ?_, by simp [hi.size], by simp [hi.defers], fun t A ht hn => ?_, fun j hj hl hcj d hd => ?_⟩
        · have hix : i ≠ x := by
            rintro rfl
            have hjl : i < listed.size := by omega
            simp [hjl] at hl
          rw [getD_set_ne true hix] at hl
          exact Ext.tr (hi.pre hl) (hxe hix)
        · by_cases hix : i = x
          · exact hvF hix
          · rw [getD_set_ne false hix] at hl
            exact hFst _ _ (hxe hix) (hi.post hl)
        · have h0 := stab A _ ⟨hLav.av t A ht⟩ (hi.hL t A ht hn)
          cases hod : o.dst with
          | none => exact h0
          | some d =>
            have : d ≠ t := fun e => hn i him (by rw [hdst, hod, e])
            rw [eval_put_ne this]
            exact h0
        · by_cases hji : j = i
          · subst hji
            rw [hdst] at hd
            rw [hd, eval_put_same (by rw [hi.size]; exact f2 d hd)]
            exact hv
          · have hl' : listed.getD j false = true := by rwa [getD_set_ne false (Ne.symm hji)] at hl
            have hcj' : listed.getD x true = false ∨ fr j = true ∨ j = x := by
              by_cases hix : i = x
              · exact .inl (hix ▸ hu)
              · rw [getD_set_ne true hix] at hcj
                exact hcj
            have h1 := hi.hA j hj hl' hcj' d hd
            have h0 : (As j).p (a.eval (.tmp d)) w' := by
              by_cases hix : i = x
              · refine stab _ _ (hxa hix j hj (fun h => hji (h.trans hix.symm)) ?_) h1
                rcases hcj with h | h | h
                · have hxl : x < listed.size := by omega
                  subst hix
                  simp [hxl] at h
                · exact h
                · exact absurd (h.trans hix.symm) hji
              · exact (As j).st _ _ _ (hxe hix) h1
            cases hod : o.dst with
            | none => exact h0
            | some d' =>
              have : d' ≠ d := fun e => f4 j hj hji d' hod (by rw [hd, e])
              rw [eval_put_ne this]
              exact h0
    unfold wpOpIn
    simp only [ho]
    by_cases hix : i = x
    · obtain ⟨hgd, hxo⟩ := hX o (hix ▸ ho)
      have hw : Region.wanted o (yielded ops a.tmps) = true := by unfold Region.wanted; rw [hgd]
      rw [if_pos hw]
      have hpre : Ext w0 w := hi.pre (hix ▸ hu)
      exact (hxo.out a.eval w hpre (hix ▸ ops1)).wp fun v w' hv => step v w' hv.1 (fun h => absurd hix h) (fun _ j hj hjx => by
        have hoj : ops[j]? = some (ops[j]'(by omega)) := by simp
        exact fun hfj => ((hops j _ hj hjx hoj).2 hfj).2) (hix ▸ hv.2.1) (fun _ => hv.2.2)
    · have hg : if Region.wanted o (yielded ops a.tmps) then OpR P o a.eval w (fun v w' => Ext w w' ∧ (As i).p v w') else (As i).p undef w := by
        cases hfr : fr i with
        | true => exact ((hops i o him hix ho).2 hfr).1 w hi.ext a w (Ext.rfl' w) ops1 (fun d B hd hB => byLook d (.inr hd) B hB)
        | false => exact (hops i o him hix ho).1 hfr a w (hi.pre (hxun hix hfr)) ops1 (fun d B hd hB => byLook d (.inr hd) B hB)
      split
      · rename_i hw
        rw [if_pos hw] at hg
        exact (hg.wp fun v w' hv => step v w' (Ext.chg hv.1 S) (fun _ => hv.1) (fun h => absurd h hix) hv.2 (fun h => absurd h hix))
      · rename_i hw
        rw [if_neg hw] at hg
        exact ⟨fun _ _ => trivial, step undef w (Chg.rfl' S w) (fun _ => Ext.rfl' _) (fun h => absurd h hix) hg (fun h => absurd h hix)⟩

def chkZ (ops : Array Oper) (m : Nat) (fr : List Bool) : Bool :=
  ((List.range (m - 1)).all fun j => frF fr j || covers ops 12 (m - 1) j) &&
  ((List.range (m - 1)).all fun i => !frF fr i || match ops[i]? with
    | none => false
    | some o => (tmpsOf o ++ (gdst ops o).toList).all fun t => (List.range m).all fun j => (match dstOf ops j with | some d => !Nat.beq d t | none => true) || (frF fr j && Nat.blt j (m - 1)))
/-- THE RULE: m operations first, the last of them changes blocks of S -/
theorem regZ {id : Nat} {ops : Array Oper} {L : Env} {a : Act} {w : World} (m : Nat) (fr : List Bool) (S : Nat → Prop) (F : World → Prop) (hFst : ∀ w w', Ext w w' → F w → F w') (hmix : P.follows .mixedOrders = true) (hf : FrD n ds a w L) [hL : AvSL S L] (hchk : chk ops m n = true) (hchkZ : chkZ ops m fr = true)
    (h : RegZ P ops w S F fr (ops.toList.take m) (fun L' => ∀ a' w', Chg S w w' → F w' → FrD n ds a' w' L' → wpListIn (FW r) 0 P ops Q (ops.toList.drop m) a' w') L L) : (Code.region id ops true).wpIn (FW r) 0 P Q a w := by
  simp only [chk, Bool.and_eq_true, List.all_eq_true, List.mem_range, Bool.or_eq_true, Nat.ble_eq] at hchk
  obtain ⟨⟨hm, h1⟩, h2⟩ := hchk
  refine wpIn_region_any hmix ?_
  have hlen : (ops.toList.take m).length = m := by simp; omega
  obtain ⟨As, hfl, hAs, hX, hK⟩ := RegZ_As (ops := ops) (ops.toList.take m) fr 0 L L (fun j hj => by
    rw [hlen] at hj
    rw [Nat.zero_add, List.getElem?_take, if_pos hj]; simp) h
  rw [hlen] at hK hfl
  have hxm : fr.length = m - 1 := by omega
  have hx : m - 1 < m := by omega
  rw [hxm] at hK hX hAs
  simp only [chkZ, Bool.and_eq_true, List.all_eq_true, List.mem_range, Bool.or_eq_true] at hchkZ
  obtain ⟨z1, z2⟩ := hchkZ
  have hext : Ext w { w with drawn := w.drawn + 1 } := Ext.drew w
  have := wpAny_mainZ (P := P) (ops := ops) (Q := Q) (w0 := w) (n := n) (ds := ds) (m := m) (x := m - 1) (fr := frF fr) (S := S) (r := r) (L := L) (As := As) hx hFst hm h1 (fun i hi hi' => by
      rcases h2 i hi' with h | h
      · simp only [Nat.blt_eq] at h; omega
      · exact h) (fun j hj hjx hfj => by
      rcases z1 j (by omega) with h | h
      · rw [hfj] at h; cases h
      · exact h) (fun i o hi hix hfi ho t ht j hj hd => by
      have := z2 i (by omega)
      rw [hfi, ho] at this
      simp only [Bool.not_true, Bool.false_eq_true, false_or, List.all_eq_true, List.mem_append, Option.mem_toList, List.mem_range, Bool.or_eq_true] at this
      rcases this t ht j hj with h | h
      · rw [hd] at h; simp at h
      · rw [Bool.and_eq_true, Nat.blt_eq] at h
        exact ⟨h.1, by omega⟩) (fun j o hj hjx ho => hAs j o (by omega) (by simpa using ho)) (fun o ho => hX o (by simpa using ho)) hL (fun a w hx hF hf => hK a w hx hF hf) m
    (Array.replicate ops.size false) a { w with drawn := w.drawn + 1 } ?_ (by simp) ?_ ?_ ⟨hext.chg S, fun _ => hext, fun hl => ?_, hf.size, hf.defers, fun t A ht _ => A.st _ _ _ hext (hf.val t A ht), fun i hi hl => ?_⟩
  · rwa [show m + (ops.size - m) = ops.size by omega] at this
  · have : (List.range m).countP (fun i => !(Array.replicate ops.size false).getD i true) = (List.range m).length := by
      refine List.countP_eq_length.2 fun i hi => ?_
      have := List.mem_range.1 hi
      have hlt : i < ops.size := by omega
      simp [hlt]
    simpa using this
  · intro j _ hj
    simp [hj]
  · intro i o hl
    have : (Array.replicate ops.size false).getD i false = false := by
      by_cases hlt : i < ops.size <;> simp [hlt]
    rw [this] at hl; cases hl
  · have : (Array.replicate ops.size false).getD (m - 1) false = false := by
      by_cases hlt : m - 1 < ops.size <;> simp [hlt]
    rw [this] at hl; cases hl
  · have : (Array.replicate ops.size false).getD i false = false := by
      by_cases hlt : i < ops.size <;> simp [hlt]
    rw [this] at hl; cases hl
end
section
variable {P : Program} {w0 : World} {L L2 : Env} {ty : TypeId} {pos : String} {aft : Array Edge}
variable {ops : Array Oper} {rest : List Oper} {K : Env → Prop} {A : VA} {op : Op} {dd : Nat} {S : Nat → Prop} {F : World → Prop} {fr : List Bool}
theorem zf (h : ∀ w1, Chg S w0 w1 → OpC P w1 L ⟨some dd, op, ty, pos, aft, none⟩ A) [hA : AvS S A] (k : RegZ P ops w0 S F fr rest K ((dd, A) :: L) ((dd, A) :: L2)) : RegZ P ops w0 S F (true :: fr) (⟨some dd, op, ty, pos, aft, none⟩ :: rest) K L L2 :=
  ⟨A, fun w1 h1 a w he hv _ => by simp only [Region.wanted, if_true]; exact (h w1 h1).out _ w he hv, hA, k⟩
theorem za (h : OpC P w0 L ⟨some dd, op, ty, pos, aft, none⟩ A) (k : RegZ P ops w0 S F fr rest K ((dd, A) :: L) ((dd, Any) :: L2)) : RegZ P ops w0 S F (false :: fr) (⟨some dd, op, ty, pos, aft, none⟩ :: rest) K L L2 :=
  ⟨A, fun a w he hv _ => by simp only [Region.wanted, if_true]; exact h.out _ w he hv, k⟩
theorem zx {d : Option Nat} (h : XOpZ P w0 S F L ⟨d, op, ty, pos, aft, none⟩ A) (k : K (push d A L2)) : RegZ P ops w0 S F [] [⟨d, op, ty, pos, aft, none⟩] K L L2 := ⟨rfl, A, h, k⟩
end
end Go.Mono
namespace Go.Mono
open Go Go.RowKit
section
variable {P : Program} {w0 : World} {L : Env} {dst : Option Tmp} {ty : TypeId} {pos : String} {aft : Array Edge} {S : Nat → Prop} {F : World → Prop}
theorem xcall2Z {f : FuncId} {x y : Operand} {tys : Array TypeId} {A B C : VA} (hf : Proofs.Enters P f) (hx : opd L x = some B) (hy : opd L y = some C)
    (h : ∀ v u w, Ext w0 w → B.p v w → C.p u w → Calls P f #[v, u] w (fun e w' => ∃ r, e = .returned r ∧ Chg S w w' ∧ A.p r w' ∧ F w')) :
    XOpZ P w0 S F L ⟨dst, .call ⟨.value (.func f), #[x, y], tys⟩, ty, pos, aft, none⟩ A := by
  refine ⟨fun ρ w he hv => ?_⟩
  have hfv : ρ (.func f) = .func (.func f) #[] #[] := hv (.func f) (by simp [Op.operands, Call.operands]) _ rfl
  have hrun : (execOp ρ ⟨dst, .call ⟨.value (.func f), #[x, y], tys⟩, ty, pos, aft, none⟩).run P w = .ok (.enter f (#[x, y].map ρ)) w := by
    simp [execOp, resolve, hfv, Deferred.ofValue, invoke, hf #[ρ x, ρ y] w]
  simp only [OpR, hrun]
  have := h (ρ x) (ρ y) w he (hv x (by simp [Op.operands, Call.operands]) _ hx) (hv y (by simp [Op.operands, Call.operands]) _ hy)
  simpa using this
/-- an own slice as an assertion -/
def OwA {α : Type} (e : Enc α) (ty : TypeId) (B : Nat) (G : Nat → Prop) (xs : List α) : VA := ⟨fun v w => OwR e ty B G w xs v, fun v w w' k h => h.ext k⟩
end
end Go.Mono

set_option linter.unusedVariables false
namespace Go.Mono
open Go Go.Proofs Go.RowKit

theorem cloneO_spec {G : Nat → Prop} (t : List Int) (v : Value) (W : World) (h : (Dv (slE intE) G t).p v W) (hl : t.length ≤ 4096) :
    Calls Tryd.prog 97 #[v] W (Post (OwA intE 3 W.heap.size Go.Mono.G0 t) W) := by
  have hG : ∀ b, Go.Mono.G0 b → b < W.heap.size := fun b hb => hb.elim
  have HV : (Dv (slE intE) (GB W Go.Mono.G0) t).p v W := Dv.toB (Dv.weak h fun b _ hb => hb.elim)
  have hv : ∃ ao n c, v = .slice ao n c ∧ (ao = none → t = [] ∧ v = .slice none 0 0) := by
    rcases Dv.sl.1 h with ⟨rfl, rfl⟩ | ⟨ad, cap, cs, rfl, _⟩
    · exact ⟨none, 0, 0, rfl, fun _ => ⟨rfl, rfl⟩⟩
    · exact ⟨_, _, _, rfl, fun h => by cases h⟩
  obtain ⟨ao, n, c, hv1, hv2⟩ := hv
  refine enter (args := [v]) (As := [E v]) Tryd.func97 rfl Tryd.ntmps97 (Nat.le_of_ble_eq_true rfl) ?_ (fun a hf => ?_) (Nat.le_of_ble_eq_true rfl)
  rotate_left
  dsimp only [params, Nat.reduceAdd] at hf
  rotate_right
  · exact arg1 rfl
  have e := Ext.rfl' W
  rw [hv1] at hf
  repeat refine seq ?_
  refine regn0 ?_
  refine tl_as hf rfl (by decide) fun a hf => ?_
  refine tl_nil ?_
  repeat refine seq ?_
  refine regn 2 hf (by decide +kernel) ?_
  refine st (mv rfl) ?_
  refine st (eqlNil Tryd.underlying43 rfl) ?_
  refine en fun a w e' hf => ?_
  replace HV := Dv.ex HV e'
  replace e := Ext.tr e e'
  clear e'
  refine tl_nil ?_
  repeat refine seq ?_
  refine ifc hf rfl (fun hb => ?_) (fun hb => ?_)
  · have hn : ao = none := by cases ao <;> simp at hb ⊢
    obtain ⟨h1, _⟩ := hv2 hn
    subst h1
    repeat refine seq ?_
    refine regn0 ?_
    refine tl_as hf rfl (by decide) fun a hf => ?_
    refine tl_nil ?_
    refine wret ?_
    try simp only [Exit.then, Exit.inBlock]
    refine ret1 rfl hf rfl ?_
    rintro _ rfl
    exact ⟨_, rfl, e, (OwR.nil intE _ e.size hG)⟩
  · refine wskip ?_
    try simp only [Exit.then, Exit.inBlock, ↓reduceIte]
    repeat refine seq ?_
    refine regn0 ?_
    refine tl_bsl0 W.heap.size Go.Mono.G0 intE Tryd.underlying43 S3 hf (by decide) e.size hG fun a v w e' hov Ho hf => ?_
    replace HV := Dv.ex HV e'
    replace e := Ext.tr e e'
    clear e'
    refine tl_op hf (by decide) (mv rfl) fun a w e' hf => ?_
    replace HV := Dv.ex HV e'
    replace e := Ext.tr e e'
    replace Ho := Ho.ext e'
    clear e'
    haveI hin : ∀ G0, InR (GB W G0) _ := OwR.inGB Ho (Nat.le_refl _)
    refine tl_app Tryd.underlying43 I3 rfl rfl hf (by decide) rfl Ho (isE rfl (by rw [← hv1]; exact Dv.weak HV fun b _ hb => hb.elim (fun h => h.elim) (fun h => .inr (Ho.row (Nat.le_refl _) b h)))) (by simp only [List.length_nil]; omega) (by simp only [List.length_nil, maxLen]; omega) fun a v w hg hat Hn hf => ?_
    replace e := e.gro hg (Ho.row (Nat.le_refl _))
    replace Ho := Hn; clear Hn hg hat hin
    refine tl_as hf rfl (by decide) fun a hf => ?_
    refine tl_nil ?_
    refine wret ?_
    try simp only [Exit.then, Exit.inBlock]
    refine ret1 rfl hf rfl ?_
    rintro _ rfl
    exact ⟨_, rfl, e, (by have := Ho; rw [List.nil_append] at this; exact this)⟩

theorem gi_mem {l : List Int} {x : Int} (h : x ∈ l) : ∃ i, i < l.length ∧ gi l i = x := by
  obtain ⟨i, hi⟩ := List.mem_iff_getElem?.1 h
  exact ⟨i, (List.getElem?_eq_some_iff.1 hi).1, by simp [gi, hi]⟩
/-- what the row holds while DeleteFunc runs: of the first j numbers those that stay, then the rest as it was -/
structure Del (q : Int → Bool) (l : List Int) (cap j i : Nat) (cur : Array Value) : Prop where
  size : cur.size = cap
  ni : ((l.take j).filter q).length = i
  low : cur.toList.take i = ((l.take j).filter q).map (Value.int .i64)
  high : ∀ k, j ≤ k → k < l.length → cur[k]? = some (I (gi l k))
  lt : i < j
theorem Del.keep {q : Int → Bool} {l : List Int} {cap j i : Nat} {cur : Array Value} (h : Del q l cap j i cur) (hj : j < l.length) (hc : l.length ≤ cap) (hq : q (gi l j) = true) : Del q l cap (j + 1) (i + 1) (cur.setIfInBounds i (I (gi l j))) := by
  have hlt := h.lt
  refine ⟨by simp [h.size], ?_, ?_, fun k h1 h2 => ?_, by omega⟩
  · rw [filter_take q hj, if_pos hq, List.length_append, h.ni]; rfl
  · have hil : i < cur.toList.length := by rw [Array.length_toList, h.size]; omega
    rw [filter_take q hj, if_pos hq, List.map_append, ← h.low, Array.toList_setIfInBounds, List.take_succ_eq_append_getElem (by simpa using hil), List.take_set_of_le (Nat.le_refl _)]
    simp
  · rw [Array.getElem?_setIfInBounds_ne (by omega)]
    exact h.high k (by omega) h2
theorem Del.drop {q : Int → Bool} {l : List Int} {cap j i : Nat} {cur : Array Value} (h : Del q l cap j i cur) (hj : j < l.length) (hq : q (gi l j) = false) : Del q l cap (j + 1) i cur :=
  ⟨h.size, by rw [filter_take q hj, if_neg (by rw [hq]; decide), h.ni], by rw [filter_take q hj, if_neg (by rw [hq]; decide), h.low], fun k h1 h2 => h.high k (by omega) h2, by have := h.lt; omega⟩
theorem intC_eq {G : Nat → Prop} {w : World} : ∀ {l : List Int} {cs : List Value}, Cells intE G w l cs → cs = l.map (Value.int .i64)
  | [], cs, h => h
  | x :: l, cs, ⟨c, d, h, h1, h2⟩ => by
    have : c = [I x] := h1
    subst this
    rw [h, intC_eq h2]; rfl

theorem deleteFuncI_spec (l : List Int) (Bz : Nat) (v : Value) (id : FuncId) (caps : Array Value) (p : Int → Bool) (W : World) (hen : Proofs.Enters Tryd.prog id) (ho : OwR intE 3 Bz Go.Mono.G0 W l v)
    (hp : ∀ w x, Chg (fun b => Bz ≤ b) W w → Calls Tryd.prog id (#[I x] ++ caps) w (Post (E (B (p x))) w)) (hl : l.length ≤ 4096) :
    Calls Tryd.prog 108 #[v, .func (.func id) #[] caps] W (fun e w' => ∃ u, e = .returned u ∧ Chg (fun b => Bz ≤ b) W w' ∧ (Dv (slE intE) (fun b => b < Bz) (l.filter fun x => !p x)).p u w' ∧ True) := by
  obtain ⟨q, hq⟩ : ∃ q : Int → Bool, q = fun x => !p x := ⟨_, rfl⟩
  refine enter (args := [v, .func (.func id) #[] caps]) (As := [E v, E (.func (.func id) #[] caps)]) Tryd.func108 rfl Tryd.ntmps108 (Nat.le_of_ble_eq_true rfl) ?_ (fun a hf => ?_) (Nat.le_of_ble_eq_true rfl)
  rotate_left
  dsimp only [params, Nat.reduceAdd] at hf
  rotate_right
  · exact arg2 rfl rfl
  have e := Ext.rfl' W
  repeat refine seq ?_
  refine regn0 ?_
  refine tl_as hf rfl (by decide) fun a hf => ?_
  refine tl_nil ?_
  repeat refine seq ?_
  refine regn 3 hf (by decide +kernel) ?_
  refine st (mv rfl) ?_
  refine st (mv rfl) ?_
  refine st (call2 En144 rfl rfl (fun v u w he h h' => by cases h; cases h'; exact indexFuncI_spec l _ id caps p w hen (ho.ext he).sl (fun w' x he' => hp w' x ((Ext.tr e (Ext.tr he he')).chg _)) hl)) ?_
  refine en fun a w e' hf => ?_
  replace ho := ho.ext e'
  replace e := Ext.tr e e'
  clear e'
  refine tl_as hf rfl (by decide) fun a hf => ?_
  refine tl_nil ?_
  rcases fstN_cases (fun i => p (gi l i)) l.length with ⟨hi, hall⟩ | ⟨i0, hi0, hi, hit, hall⟩
  · repeat refine seq ?_
    refine regn 2 hf (by decide +kernel) ?_
    refine st (mv rfl) ?_
    refine st ((eql rfl rfl).eq (congrArg Value.bool (show (fstI p l == -1) = true from by rw [fstI, hi]; rfl))) ?_
    refine en fun a w e' hf => ?_
    replace ho := ho.ext e'
    replace e := Ext.tr e e'
    clear e'
    refine tl_nil ?_
    repeat refine seq ?_
    refine ifc hf rfl (fun _ => ?_) (fun h => by cases h)
    have hfl : (l.filter fun x => !p x) = l := List.filter_eq_self.2 fun x hx => by
      obtain ⟨i, h1, h2⟩ := gi_mem hx
      have := hall i h1
      simp only [h2] at this
      rw [this]; rfl
    repeat refine seq ?_
    refine regn 1 hf (by decide +kernel) ?_
    refine st (mv rfl) ?_
    refine en fun a w e' hf => ?_
    replace ho := ho.ext e'
    replace e := Ext.tr e e'
    clear e'
    refine tl_as hf rfl (by decide) fun a hf => ?_
    refine tl_nil ?_
    refine wret ?_
    try simp only [Exit.then, Exit.inBlock]
    refine ret1 rfl hf rfl ?_
    rintro _ rfl
    exact ⟨_, rfl, e.chg _, by rw [hfl]; exact (OwR.reG ho fun b hb => hb).sl, trivial⟩
  · repeat refine seq ?_
    refine regn 2 hf (by decide +kernel) ?_
    refine st (mv rfl) ?_
    refine st ((eql rfl rfl).eq (congrArg Value.bool (show (fstI p l == -1) = false from by rw [fstI, hi]; simp))) ?_
    refine en fun a w e' hf => ?_
    replace ho := ho.ext e'
    replace e := Ext.tr e e'
    clear e'
    refine tl_nil ?_
    repeat refine seq ?_
    refine ifc hf rfl (fun h => by cases h) (fun _ => ?_)
    refine wskip ?_
    try simp only [Exit.then, Exit.inBlock, ↓reduceIte]
    obtain ⟨cs, ⟨_, hrow⟩, hcs⟩ := ho.own
    rcases hrow with ⟨_, hn⟩ | ⟨g, cap, cur, rfl, hB, hg0, hn, hm, hs, ht⟩
    · omega
    have hcs' := intC_eq hcs
    subst hcs'
    simp only [show (intE).k = 1 from rfl, Nat.mul_one] at hs ht
    have BG : Blk w g cur 3 := hg0
    have D : Del q l cap (i0 + 1) i0 cur := by
      have hcu : ∀ k, k < l.length → cur[k]? = some (I (gi l k)) := fun k hk => by
        have : (cur.toList.take l.length)[k]? = (l.map (Value.int .i64))[k]? := by rw [ht]
        rw [List.getElem?_take, if_pos hk, List.getElem?_map, gi_get hk] at this
        simpa using this
      have hft : ∀ k, k ≤ i0 → (l.take k).filter q = l.take k := fun k hk => List.filter_eq_self.2 fun x hx => by
        obtain ⟨i, hx'⟩ := List.mem_iff_getElem?.1 hx
        rw [List.getElem?_take] at hx'
        split at hx'
        · have := hall i (by omega)
          rw [hq]
          simp only [gi, hx'] at this
          simp [this]
        · cases hx'
      have hf1 : (l.take (i0 + 1)).filter q = l.take i0 := by
        rw [filter_take q hi0, if_neg (by rw [hq]; simp [hit]), hft i0 (Nat.le_refl _)]
      refine ⟨hs, by rw [hf1, List.length_take]; omega, ?_, fun k _ hk => hcu k hk, Nat.lt_succ_self _⟩
      rw [hf1, List.map_take, ← ht, List.take_take, Nat.min_eq_left (by omega)]
    have c : Chg (fun b => Bz ≤ b) W w := e.chg _
    clear ht hs hg0 hcs
    rw [show fstI p l = (i0 : Int) from hi] at hf
    replace hf := hf.keep [0, 1, 5]
    dsimp only [keep, List.filterMap, look, Nat.beq, Option.map] at hf
    repeat refine seq ?_
    refine regn 2 hf (by decide +kernel) ?_
    refine st (mv rfl) ?_
    refine st ((add rfl rfl (by omega)).eq (congrArg (Value.int .i64) (show (i0 : Int) + 1 = ((i0 + 1 : Nat) : Int) from rfl))) ?_
    refine en fun a w e' hf => ?_
    replace c := c.ext e'
    replace BG := BG.ext e'
    clear e'
    refine tl_as hf rfl (by decide) fun a hf => ?_
    refine tl_nil ?_
    replace hf := hf.keep [0, 1, 5, 6]
    dsimp only [keep, List.filterMap, look, Nat.beq, Option.map] at hf
    clear ho e
    repeat refine seq ?_
    refine blk (loopN (fun r0 a w => ∃ (j i : Nat) (cur : Array Value), r0 = l.length - j ∧ j ≤ l.length ∧ Fr 42 a w [(0, E (.slice (some ⟨g, 0, none⟩) l.length cap)), (1, E (.func (.func id) #[] caps)), (5, E (I (i : Nat))), (6, E (I (j : Nat)))] ∧ Chg (fun b => Bz ≤ b) W w ∧ Blk w g cur 3 ∧ Del q l cap j i cur) (l.length - (i0 + 1)) ⟨i0 + 1, i0, cur, rfl, by omega, hf, c, BG, D⟩ ?_)
    clear hf c BG D
    rintro r0 a w ⟨j, i, cur, rfl, hj, hf, c, BG, D⟩
    have hij := D.lt
    repeat refine seq ?_
    refine regn 4 hf (by decide +kernel) ?_
    refine st (mv rfl) ?_
    refine st (mv rfl) ?_
    refine st (lenE Tryd.underlying43 rfl) ?_
    refine st (lss rfl rfl) ?_
    refine en fun a w e' hf => ?_
    replace c := c.ext e'
    replace BG := BG.ext e'
    clear e'
    refine tl_nil ?_
    repeat refine seq ?_
    refine ifc hf rfl (fun hb => wskip ?_) (fun hb => wexit ?_)
    · have hlt : j < l.length := by have := of_decide_eq_true hb; omega
      repeat refine seq ?_
      refine blk ?_
      replace hf := hf.keep [0, 1, 5, 6]
      dsimp only [keep, List.filterMap, look, Nat.beq, Option.map] at hf
      repeat refine seq ?_
      refine regn 4 hf (by decide +kernel) ?_
      refine st (mv rfl) ?_
      refine st (mv rfl) ?_
      refine st (idxS Tryd.underlying43 S3 rfl rfl (by omega)) ?_
      refine st (ld1 T3 rfl BG (show cur[0 + (j : Int).toNat * 1]? = some (I (gi l j)) from by rw [Nat.zero_add, Nat.mul_one]; exact D.high j (Nat.le_refl _) hlt)) ?_
      refine en fun a w e' hf => ?_
      replace c := c.ext e'
      replace BG := BG.ext e'
      clear e'
      refine tl_as hf rfl (by decide) fun a hf => ?_
      refine tl_nil ?_
      repeat refine seq ?_
      refine regn 4 hf (by decide +kernel) ?_
      refine st (mv rfl) ?_
      refine st (mv rfl) ?_
      refine st (callV1 hen rfl rfl (fun v w he h => by cases h; exact hp w _ (c.ext he))) ?_
      refine st (notp rfl) ?_
      refine en fun a w e' hf => ?_
      replace c := c.ext e'
      replace BG := BG.ext e'
      clear e'
      refine tl_nil ?_
      repeat refine seq ?_
      refine ifc hf rfl (fun hb => ?_) (fun hb => ?_)
      · have hqj : q (gi l j) = true := by rw [hq]; exact hb
        replace hf := hf.keep [0, 1, 5, 6, 7]
        dsimp only [keep, List.filterMap, look, Nat.beq, Option.map] at hf
        repeat refine seq ?_
        refine regn 4 hf (by decide +kernel) ?_
        refine st (mv rfl) ?_
        refine st (mv rfl) ?_
        refine st (mv rfl) ?_
        refine st (idxS Tryd.underlying43 S3 rfl rfl (by omega)) ?_
        refine en fun a w e' hf => ?_
        replace c := c.ext e'
        replace BG := BG.ext e'
        clear e'
        refine tl_st1 T3 hf rfl rfl rfl BG (by rw [D.size]; omega) fun w hg hsz BG hf => ?_
        replace c := c.gr hg (.inl hB)
        clear hg
        refine tl_nil ?_
        rw [show 0 + ((i : Nat) : Int).toNat * 1 = i by omega] at BG
        have D' := D.keep hlt hn hqj
        repeat refine seq ?_
        refine regn 2 hf (by decide +kernel) ?_
        refine st (mv rfl) ?_
        refine st ((add rfl rfl (by omega)).eq (congrArg (Value.int .i64) (show (i : Int) + 1 = ((i + 1 : Nat) : Int) from rfl))) ?_
        refine en fun a w e' hf => ?_
        replace c := c.ext e'
        replace BG := BG.ext e'
        clear e'
        refine tl_as hf rfl (by decide) fun a hf => ?_
        refine tl_nil ?_
        try simp only [Exit.then, Exit.inBlock, ↓reduceIte]
        replace hf := hf.keep [0, 1, 5, 6]
        dsimp only [keep, List.filterMap, look, Nat.beq, Option.map] at hf
        repeat refine seq ?_
        refine regn 2 hf (by decide +kernel) ?_
        refine st (mv rfl) ?_
        refine st ((add rfl rfl (by omega)).eq (congrArg (Value.int .i64) (show (j : Int) + 1 = ((j + 1 : Nat) : Int) from rfl))) ?_
        refine en fun a w e' hf => ?_
        replace c := c.ext e'
        replace BG := BG.ext e'
        clear e'
        refine tl_as hf rfl (by decide) fun a hf => ?_
        refine tl_nil ?_
        replace hf := hf.keep [0, 1, 5, 6]
        dsimp only [keep, List.filterMap, look, Nat.beq, Option.map] at hf
        exact ⟨l.length - (j + 1), by omega, j + 1, i + 1, _, rfl, by omega, hf, c, BG, D'⟩
      · have hqj : q (gi l j) = false := by rw [hq]; exact hb
        have D' := D.drop hlt hqj
        refine wskip ?_
        try simp only [Exit.then, Exit.inBlock, ↓reduceIte]
        replace hf := hf.keep [0, 1, 5, 6]
        dsimp only [keep, List.filterMap, look, Nat.beq, Option.map] at hf
        repeat refine seq ?_
        refine regn 2 hf (by decide +kernel) ?_
        refine st (mv rfl) ?_
        refine st ((add rfl rfl (by omega)).eq (congrArg (Value.int .i64) (show (j : Int) + 1 = ((j + 1 : Nat) : Int) from rfl))) ?_
        refine en fun a w e' hf => ?_
        replace c := c.ext e'
        replace BG := BG.ext e'
        clear e'
        refine tl_as hf rfl (by decide) fun a hf => ?_
        refine tl_nil ?_
        replace hf := hf.keep [0, 1, 5, 6]
        dsimp only [keep, List.filterMap, look, Nat.beq, Option.map] at hf
        exact ⟨l.length - (j + 1), by omega, j + 1, i, cur, rfl, by omega, hf, c, BG, D'⟩
    · obtain rfl : j = l.length := by have := of_decide_eq_false hb; omega
      simp only [Exit.then, Exit.inBlock, ↓reduceIte]
      replace hf := hf.keep [0, 1, 5, 6]
      dsimp only [keep, List.filterMap, look, Nat.beq, Option.map] at hf
      have hsz := D.size
      repeat refine seq ?_
      refine regn 3 hf (by decide +kernel) ?_
      refine st (mv rfl) ?_
      refine st (mv rfl) ?_
      refine st (slcLo Tryd.underlying43 S3 rfl rfl (by omega) (by omega)) ?_
      refine en fun a w e' hf => ?_
      replace c := c.ext e'
      replace BG := BG.ext e'
      clear e'
      refine tl_clear Tryd.underlying43 I3 rfl rfl hf rfl BG (by omega) (by omega) (fun k hk => by first | cases hk | (cases hk; decide)) fun a w hg hsz BG hf => ?_
      replace c := c.gr hg (.inl hB)
      clear hg
      refine tl_nil ?_
      replace hf := hf.keep [0, 1, 5, 6]
      dsimp only [keep, List.filterMap, look, Nat.beq, Option.map] at hf
      repeat refine seq ?_
      refine regn 3 hf (by decide +kernel) ?_
      refine st (mv rfl) ?_
      refine st (mv rfl) ?_
      refine st (slcHi Tryd.underlying43 S3 rfl rfl (by omega)) ?_
      refine en fun a w e' hf => ?_
      replace c := c.ext e'
      replace BG := BG.ext e'
      clear e'
      refine tl_as hf rfl (by decide) fun a hf => ?_
      refine tl_nil ?_
      refine wret ?_
      try simp only [Exit.then, Exit.inBlock]
      refine ret1 rfl hf rfl ?_
      rintro _ rfl
      have hlow := D.low
      have hni := D.ni
      rw [List.take_length] at hlow hni
      rw [← hq]
      refine ⟨_, rfl, c, Dv.sl.2 (.inr ⟨⟨g, 0, none⟩, cap, (l.filter q).map (Value.int .i64), ?_, by omega, by show ¬ g < Bz; omega, BG.lt, ints_cells _, fun k u hu => ?_⟩), trivial⟩
      · rw [hni]
      · rw [Addr.add_lit, Nat.zero_add, BG.cell k, List.getElem?_toArray, Nat.zero_add]
        have hk : k < i := by have := (List.getElem?_eq_some_iff.1 hu).1; rw [List.length_map, hni] at this; exact this
        rw [← hlow] at hu
        rw [List.append_assoc, List.getElem?_append_left (by rw [List.length_take, Array.length_toList]; omega)]
        exact hu
end Go.Mono

set_option linter.unusedVariables false
set_option linter.unusedSimpArgs false
namespace Go.Mono
open Go Go.Proofs Go.RowKit

/-- the cells of node i -/
def NdC (G : Nat → Prop) (w : World) (cells : Array Value) (i : Nat) (x : Nd) : Prop :=
  ∃ kv lv, cells[0 + i * 5 + 0]? = some kv ∧ cells[0 + i * 5 + 1]? = some lv ∧ cells[0 + i * 5 + 2]? = some (I x.2.2.1) ∧ cells[0 + i * 5 + 3]? = some (I x.2.2.2.1) ∧ cells[0 + i * 5 + 4]? = some (I x.2.2.2.2) ∧
    (Dv (slE intE) G x.1).p kv w ∧ (Dv (slE intE) G x.2.1).p lv w
structure NS (n : Nat) (G : Nat → Prop) (nd : Nat → Nd) (cells : Array Value) (w : World) : Prop where
  size : cells.size = n * 5
  nd : ∀ i, i < n → NdC G w cells i (nd i)
section
variable {n : Nat} {G G' : Nat → Prop} {nd : Nat → Nd} {cells : Array Value} {w w' W : World} {i : Nat}
theorem NS.map (h : NS n G nd cells w) (hd : ∀ (l : List Int) v, (Dv (slE intE) G l).p v w → (Dv (slE intE) G' l).p v w') : NS n G' nd cells w' :=
  ⟨h.size, fun i hi => by
    obtain ⟨kv, lv, h1, h2, h3, h4, h5, h6, h7⟩ := h.nd i hi
    exact ⟨kv, lv, h1, h2, h3, h4, h5, hd _ _ h6, hd _ _ h7⟩⟩
theorem NS.ext (h : NS n G nd cells w) (e : Ext w w') : NS n G nd cells w' := h.map fun l v hv => Dv.ex hv e
theorem NS.gr (h : NS n G nd cells w) {b : Nat} (hg : w.grownBy w' (some b)) (hb : G b) : NS n G nd cells w' := h.map fun l v hv => Dv.gr hv hg hb
theorem NS.ch (h : NS n G nd cells w) {S : Nat → Prop} (k : Chg S w w') (hS : ∀ b, S b → G b) : NS n G nd cells w' := h.map fun l v hv => Dv.ch hv k hS
theorem NS.toB (h : NS n G nd cells W) : NS n (GB W G) nd cells W := h.map fun l v hv => Dv.toB hv
theorem NS.weak (h : NS n G nd cells w) (hG : ∀ b, b < w.heap.size → G' b → G b) : NS n G' nd cells w := h.map fun l v hv => Dv.weak hv hG
theorem NS.congr {nd' : Nat → Nd} (h : NS n G nd cells w) (hn : ∀ i, i < n → nd i = nd' i) : NS n G nd' cells w := ⟨h.size, fun i hi => hn i hi ▸ h.nd i hi⟩
theorem NS.size_at (h : NS n G nd cells w) (hi : i < n) : cells[0 + i * 5 + 2]? = some (I (nd i).2.2.1) := by obtain ⟨kv, lv, h1, h2, h3, h4, h5, h6, h7⟩ := h.nd i hi; exact h3
theorem NS.heavy_at (h : NS n G nd cells w) (hi : i < n) : cells[0 + i * 5 + 3]? = some (I (nd i).2.2.2.1) := by obtain ⟨kv, lv, h1, h2, h3, h4, h5, h6, h7⟩ := h.nd i hi; exact h4
theorem NS.deep_at (h : NS n G nd cells w) (hi : i < n) : cells[0 + i * 5 + 4]? = some (I (nd i).2.2.2.2) := by obtain ⟨kv, lv, h1, h2, h3, h4, h5, h6, h7⟩ := h.nd i hi; exact h5
theorem NS.kids_at (h : NS n G nd cells w) (hi : i < n) : ∃ kv, cells[0 + i * 5 + 0]? = some kv ∧ (Dv (slE intE) G (nd i).1).p kv w := by obtain ⟨kv, lv, h1, h2, h3, h4, h5, h6, h7⟩ := h.nd i hi; exact ⟨kv, h1, h6⟩
/-- node i is x -/
def un (nd : Nat → Nd) (i : Nat) (x : Nd) : Nat → Nd := fun j => if j = i then x else nd j
theorem un_same {x : Nd} : un nd i x i = x := if_pos rfl
theorem un_ne {j : Nat} {x : Nd} (h : j ≠ i) : un nd i x j = nd j := if_neg h
theorem un_un {x y : Nd} : un (un nd i x) i y = un nd i y := by
  funext j
  unfold un
  split <;> rfl
theorem NS.set (h : NS n G nd cells w) {f : Nat} {v : Value} {x : Nd} (hf : f < 5) (hx : NdC G w (cells.setIfInBounds (0 + i * 5 + f) v) i x) : NS n G (un nd i x) (cells.setIfInBounds (0 + i * 5 + f) v) w := by
  refine ⟨by simp [h.size], fun j hj => ?_⟩
  by_cases hji : j = i
  · subst hji; rw [un_same]; exact hx
  · rw [un_ne hji]
    obtain ⟨kv, lv, h1, h2, h3, h4, h5, h6, h7⟩ := h.nd j hj
    refine ⟨kv, lv, ?_, ?_, ?_, ?_, ?_, h6, h7⟩
    all_goals rw [Array.getElem?_setIfInBounds_ne (by omega)]; assumption
theorem NS.bd (h : NS n G nd cells w) (hi : i < n) {f : Nat} (hf : f < 5) : 0 + i * 5 + f < cells.size := by rw [h.size]; omega
theorem NS.set_kids (h : NS n G nd cells w) (hi : i < n) {v : Value} {l : List Int} (hv : (Dv (slE intE) G l).p v w) : NS n G (un nd i (l, (nd i).2)) (cells.setIfInBounds (0 + i * 5 + 0) v) w := by
  obtain ⟨kv, lv, h1, h2, h3, h4, h5, h6, h7⟩ := h.nd i hi
  have hb := h.bd hi (f := 0) (by decide)
  refine h.set (by decide) ⟨v, lv, ?_, ?_, ?_, ?_, ?_, hv, h7⟩
  · simp [Array.getElem?_setIfInBounds]; omega
  all_goals rw [Array.getElem?_setIfInBounds_ne (by omega)]; assumption
theorem NS.set_light (h : NS n G nd cells w) (hi : i < n) {v : Value} {l : List Int} (hv : (Dv (slE intE) G l).p v w) : NS n G (un nd i ((nd i).1, l, (nd i).2.2)) (cells.setIfInBounds (0 + i * 5 + 1) v) w := by
  obtain ⟨kv, lv, h1, h2, h3, h4, h5, h6, h7⟩ := h.nd i hi
  have hb := h.bd hi (f := 1) (by decide)
  refine h.set (by decide) ⟨kv, v, ?_, ?_, ?_, ?_, ?_, h6, hv⟩
  rotate_left
  · simp [Array.getElem?_setIfInBounds]; omega
  all_goals rw [Array.getElem?_setIfInBounds_ne (by omega)]; assumption
theorem NS.set_size (h : NS n G nd cells w) (hi : i < n) (s : Int) : NS n G (un nd i ((nd i).1, (nd i).2.1, s, (nd i).2.2.2)) (cells.setIfInBounds (0 + i * 5 + 2) (I s)) w := by
  obtain ⟨kv, lv, h1, h2, h3, h4, h5, h6, h7⟩ := h.nd i hi
  have hb := h.bd hi (f := 2) (by decide)
  refine h.set (by decide) ⟨kv, lv, ?_, ?_, ?_, ?_, ?_, h6, h7⟩
  rotate_left 2
  · simp [Array.getElem?_setIfInBounds]; omega
  all_goals rw [Array.getElem?_setIfInBounds_ne (by omega)]; assumption
theorem NS.set_heavy (h : NS n G nd cells w) (hi : i < n) (s : Int) : NS n G (un nd i ((nd i).1, (nd i).2.1, (nd i).2.2.1, s, (nd i).2.2.2.2)) (cells.setIfInBounds (0 + i * 5 + 3) (I s)) w := by
  obtain ⟨kv, lv, h1, h2, h3, h4, h5, h6, h7⟩ := h.nd i hi
  have hb := h.bd hi (f := 3) (by decide)
  refine h.set (by decide) ⟨kv, lv, ?_, ?_, ?_, ?_, ?_, h6, h7⟩
  rotate_left 3
  · simp [Array.getElem?_setIfInBounds]; omega
  all_goals rw [Array.getElem?_setIfInBounds_ne (by omega)]; assumption
theorem NS.set_deep (h : NS n G nd cells w) (hi : i < n) (s : Int) : NS n G (un nd i ((nd i).1, (nd i).2.1, (nd i).2.2.1, (nd i).2.2.2.1, s)) (cells.setIfInBounds (0 + i * 5 + 4) (I s)) w := by
  obtain ⟨kv, lv, h1, h2, h3, h4, h5, h6, h7⟩ := h.nd i hi
  have hb := h.bd hi (f := 4) (by decide)
  refine h.set (by decide) ⟨kv, lv, ?_, ?_, ?_, ?_, ?_, h6, h7⟩
  rotate_left 4
  · simp [Array.getElem?_setIfInBounds]; omega
  all_goals rw [Array.getElem?_setIfInBounds_ne (by omega)]; assumption
theorem un_self (nd : Nat → Nd) (i : Nat) : un nd i (nd i) = nd := by
  funext j
  unfold un
  split
  · subst_vars; rfl
  · rfl
theorem NS.size' {k l : List Int} {s hv d : Int} (h : NS n G (un nd i (k, l, s, hv, d)) cells w) (hi : i < n) (s' : Int) : NS n G (un nd i (k, l, s', hv, d)) (cells.setIfInBounds (0 + i * 5 + 2) (I s')) w := by
  have := h.set_size hi s'
  rw [un_un] at this
  simpa only [un_same] using this
theorem NS.heavy' {k l : List Int} {s hv d : Int} (h : NS n G (un nd i (k, l, s, hv, d)) cells w) (hi : i < n) (s' : Int) : NS n G (un nd i (k, l, s, s', d)) (cells.setIfInBounds (0 + i * 5 + 3) (I s')) w := by
  have := h.set_heavy hi s'
  rw [un_un] at this
  simpa only [un_same] using this
theorem NS.light' {k l l' : List Int} {s hv d : Int} {v : Value} (h : NS n G (un nd i (k, l, s, hv, d)) cells w) (hi : i < n) (hl : (Dv (slE intE) G l').p v w) : NS n G (un nd i (k, l', s, hv, d)) (cells.setIfInBounds (0 + i * 5 + 1) v) w := by
  have := h.set_light hi hl
  rw [un_un] at this
  simpa only [un_same] using this
end

theorem new31_spec (x : Int) (b3 bn off : Nat) (hv : Int) (cells : Array Value) (W : World) (B3 : Blk W b3 #[.pointer (some ⟨bn, off, none⟩)] 119) (BN : Blk W bn cells 107) (hc : cells[off + 3]? = some (I hv)) :
    Calls Tryd.prog 109 #[I x, .pointer (some ⟨b3, 0, none⟩)] W (Post (E (B (x == hv))) W) := by
  refine enter (args := [I x, .pointer (some ⟨b3, 0, none⟩)]) (As := [E (I x), E (.pointer (some ⟨b3, 0, none⟩))]) Tryd.func109 rfl Tryd.ntmps109 (Nat.le_of_ble_eq_true rfl) ?_ (fun a hf => ?_) (Nat.le_of_ble_eq_true rfl)
  rotate_left
  dsimp only [params, Nat.reduceAdd] at hf
  rotate_right
  · exact arg2 rfl rfl
  have e := Ext.rfl' W
  repeat refine seq ?_
  refine regn0 ?_
  refine tl_as hf rfl (by decide) fun a hf => ?_
  refine tl_nil ?_
  repeat refine seq ?_
  refine regn 6 hf (by decide +kernel) ?_
  refine st (mv rfl) ?_
  refine st (ld1 T119 rfl B3 rfl) ?_
  refine st (nilE rfl) ?_
  refine st (fldA Tryd.underlying107 rfl T3 (by decide) rfl) ?_
  refine st (ld1 T3 rfl BN hc) ?_
  refine st (eql rfl rfl) ?_
  refine en fun a w e' hf => ?_
  replace e := Ext.tr e e'
  replace B3 := B3.ext e'
  replace BN := BN.ext e'
  clear e'
  refine tl_as hf rfl (by decide) fun a hf => ?_
  refine tl_nil ?_
  refine wret ?_
  try simp only [Exit.then, Exit.inBlock]
  refine ret1 rfl hf rfl ?_
  rintro _ rfl
  exact ⟨_, rfl, e, rfl⟩
end Go.Mono

set_option linter.unusedVariables false
set_option linter.unusedSimpArgs false
namespace Go.Mono
open Go Go.RowKit
theorem wf_small {n : Nat} (h : n ≤ 1000000) : (Lit.int .i64 (n : Int)).wf = true := by
  have h1 : IntKind.i64.min = -9223372036854775808 := by decide
  have h2 : IntKind.i64.max = 9223372036854775807 := by decide
  simp only [Lit.wf, h1, h2, Bool.and_eq_true, decide_eq_true_eq]
  omega
section
variable {P : Program} {k e : TypeId} {w w' : World} {b : Nat} {m : Int → Option Int}
theorem MapR.ext {n : Nat} (h : MapR P k e w b n m) (e' : Ext w w') : MapR P k e w' b n m := h.pres (e'.block b h.lt)
theorem MapR.gr {n : Nat} (h : MapR P k e w b n m) {c : Nat} (hg : w.grownBy w' (some c)) (hne : b ≠ c) : MapR P k e w' b n m := h.pres (hg.block b h.lt (by simpa using hne))
theorem MapR.ch {n : Nat} (h : MapR P k e w b n m) {S : Nat → Prop} (c : Chg S w w') (hS : ¬S b) : MapR P k e w' b n m := h.pres (c.block b h.lt hS)
end
section tail
variable {P : Program} {L : Env} {ty : TypeId} {pos : String} {aft : Array Edge} {r : Option Nat} {ds : List Deferred}
variable {ops : Array Oper} {rest : List Oper} {Q : Exit → Act → World → Prop} {n : Nat} {a : Act} {w : World} {x y z : Operand} {k e : TypeId}
/-- m[i] = c -/
theorem tl_mput {t : TypeId} {bm nn : Nat} {m : Int → Option Int} {i c : Int} (hk : P.underlying k = some (.int .i64)) (he : P.underlying e = some (.int .i64)) (ht : P.underlying t = some (.map k e)) (hf : FrD n ds a w L) [hL : AvL bm L] (hx : opd L x = some (E (.map (some bm))))
    (hy : opd L y = some (E (.int .i64 i))) (hz : opd L z = some (E (.int .i64 c))) (hM : MapR P k e w bm nn m) (hn : nn < maxLen) (hi : (Lit.int .i64 i).wf = true) (hc : (Lit.int .i64 c).wf = true)
    (kk : ∀ w', w.grownBy w' (some bm) → MapR P k e w' bm (nn + 1) (fun y => if y = i then some c else m y) → FrD n ds a w' L → wpListIn (FW r) 0 P ops Q rest a w') :
    wpListIn (FW r) 0 P ops Q (⟨none, .mapUpdate t x y z, ty, pos, aft, none⟩ :: rest) a w :=
  wpListIn_plain rfl fun K hK => by
    have hxv : a.eval x = .map (some bm) := hf.opd x _ hx
    have hyv : a.eval y = .int .i64 i := hf.opd y _ hy
    have hzv : a.eval z = .int .i64 c := hf.opd z _ hz
    obtain ⟨w', h1, h2, h3⟩ := run_mapPut hM hk he ht hn hi hc
    refine OpR.wp (R := fun _ w1 => w1 = w') ?_ ?_
    · simp only [OpR, execOp, hxv, hyv, hzv, Sem.run_bind, h1, Result.andThen_ok, Sem.run_pure]
    · rintro _ w1 rfl
      exact hK _ _ (kk _ h3 h2 (hf.gr h3))
end tail
end Go.Mono
namespace Go.Mono
open Go Go.RowKit
section
variable {P : Program} {w0 : World} {L : Env} {dst : Option Tmp} {ty : TypeId} {pos : String} {aft : Array Edge} {g : Option (Nat × Bool)} {t : TypeId}
/-- a struct of three parts, one cell each -/
def B3A (A0 A1 A2 : VA) : VA := ⟨fun v w => ∃ u0 u1 u2, v = .agg #[u0, u1, u2] ∧ A0.p u0 w ∧ A1.p u1 w ∧ A2.p u2 w, fun v w w' e ⟨u0, u1, u2, h, h0, h1, h2⟩ => ⟨u0, u1, u2, h, A0.st _ _ _ e h0, A1.st _ _ _ e h1, A2.st _ _ _ e h2⟩⟩
theorem bld3 {i0 i1 i2 : Operand} {A0 A1 A2 : VA} (h0 : opd L i0 = some A0) (h1 : opd L i1 = some A1) (h2 : opd L i2 = some A2) (hb : ∀ u0 u1 u2 w, A0.p u0 w → A1.p u1 w → A2.p u2 w → P.built t [(0, u0), (1, u1), (2, u2)] = some #[u0, u1, u2]) :
    OpC P w0 L ⟨dst, .build t #[(0, i0), (1, i1), (2, i2)], ty, pos, aft, g⟩ (B3A A0 A1 A2) :=
  opc_pure fun ρ w he hv => by
    have a0 := hv i0 (by simp [Op.operands]) _ h0
    have a1 := hv i1 (by simp [Op.operands]) _ h1
    have a2 := hv i2 (by simp [Op.operands]) _ h2
    refine ⟨.agg #[ρ i0, ρ i1, ρ i2], ?_, _, _, _, rfl, a0, a1, a2⟩
    simp only [execOp, List.map_toArray, List.map_cons, List.map_nil, Sem.run_bind, run_build w t _ _ (by simpa using hb _ _ _ _ a0 a1 a2), Result.andThen_ok, Sem.run_pure]
theorem xcall4Z {S : Nat → Prop} {F : World → Prop} {f : FuncId} {x y z u : Operand} {tys : Array TypeId} {A B C D E' : VA} (hf : Proofs.Enters P f) (hx : opd L x = some B) (hy : opd L y = some C) (hz : opd L z = some D) (hu : opd L u = some E')
    (h : ∀ v1 v2 v3 v4 w, Ext w0 w → B.p v1 w → C.p v2 w → D.p v3 w → E'.p v4 w → Calls P f #[v1, v2, v3, v4] w (fun e w' => ∃ r, e = .returned r ∧ Chg S w w' ∧ A.p r w' ∧ F w')) :
    XOpZ P w0 S F L ⟨dst, .call ⟨.value (.func f), #[x, y, z, u], tys⟩, ty, pos, aft, none⟩ A := by
  refine ⟨fun ρ w he hv => ?_⟩
  have hfv : ρ (.func f) = .func (.func f) #[] #[] := hv (.func f) (by simp [Op.operands, Call.operands]) _ rfl
  have hrun : (execOp ρ ⟨dst, .call ⟨.value (.func f), #[x, y, z, u], tys⟩, ty, pos, aft, none⟩).run P w = .ok (.enter f (#[x, y, z, u].map ρ)) w := by
    simp [execOp, resolve, hfv, Deferred.ofValue, invoke, hf #[ρ x, ρ y, ρ z, ρ u] w]
  simp only [OpR, hrun]
  have := h (ρ x) (ρ y) (ρ z) (ρ u) w he (hv x (by simp [Op.operands, Call.operands]) _ hx) (hv y (by simp [Op.operands, Call.operands]) _ hy) (hv z (by simp [Op.operands, Call.operands]) _ hz) (hv u (by simp [Op.operands, Call.operands]) _ hu)
  simpa using this
theorem Dv.r1 {α : Type} {e : Enc α} {G : Nat → Prop} {x : α} {v : Value} {w : World} (ha : e.agg = false) (h : (Dv e G x).p v w) : e.r G w x [v] := by
  obtain ⟨cs, h1, h2⟩ := h
  have hl := e.len h1
  rw [e.k1 ha] at hl
  match cs, hl with
  | [u], _ =>
    rw [Enc.pack, ha] at h2
    have : v = u := h2
    rw [this]; exact h1
theorem Dv.slF {α : Type} {e : Enc α} {G : Nat → Prop} {xs : List α} {v : Value} {w : World} (h : (Dv (slE e) G xs).p v w) : ∃ ao n c, v = .slice ao n c := by
  rcases Dv.sl.1 h with ⟨rfl, _⟩ | ⟨ad, cap, cs, rfl, _⟩
  · exact ⟨_, _, _, rfl⟩
  · exact ⟨_, _, _, rfl⟩
end
theorem madeCells_get {z : Array Value} {k n i f : Nat} (hz : z.size = k) (hf : f < k) (hi : i < n) : (madeCells z (n * k))[0 + i * k + f]? = z[f]? := by
  have hlt : i * k + f < n * k := by
    have : (i + 1) * k ≤ n * k := Nat.mul_le_mul_right _ hi
    rw [Nat.add_mul, Nat.one_mul] at this
    omega
  have hm : (0 + i * k + f) % z.size = f := by rw [hz, Nat.zero_add, Nat.mul_comm, Nat.mul_add_mod]; exact Nat.mod_eq_of_lt hf
  have hfz : f < z.size := by omega
  rw [madeCells, Array.getElem?_map, Array.getElem?_range, if_pos (by omega)]
  simp only [Option.map_some, hm]
  simp [hfz]
end Go.Mono
namespace Go.Mono
open Go Go.RowKit
/-- a new variable -/
def AlA (B : Nat) (z : Value) (e : TypeId) : VA := ⟨fun v w => ∃ b, B ≤ b ∧ v = .pointer (some ⟨b, 0, none⟩) ∧ Blk w b z.cells e, fun v w w' k ⟨b, h1, h2, h3⟩ => ⟨b, h1, h2, h3.ext k⟩⟩
theorem alD {P : Program} {w0 : World} {L : Env} {dst : Option Tmp} {ty : TypeId} {pos : String} {aft : Array Edge} {g : Option (Nat × Bool)} {e : TypeId} {z : Value} {sz bz : Nat} (hz : (P.info? e).map (fun i => (i.zero, i.size, i.bytes)) = some (some z, sz, bz)) :
    OpC P w0 L ⟨dst, .alloc e, ty, pos, aft, g⟩ (AlA w0.heap.size z e) := by
  refine ⟨fun ρ w he hv => ?_⟩
  obtain ⟨i, hi, hzi, _, _⟩ := info_parts hz
  simp only [OpR, execOp, Instr.alloc, zeroValue, typeInfo, hi, hzi, Sem.run_bind, Sem.run_pure, run_newVar, Result.andThen_ok]
  simp [hi, hzi, run_newVar]
  exact ⟨ext_alloc _ _, _, he.size, rfl, blk_alloc _ _ _⟩
theorem Blk.ne {w : World} {a b : Nat} {cs cs' : Array Value} {t t' : TypeId} (h : Blk w a cs t) (h' : Blk w b cs' t') (ht : t ≠ t') : a ≠ b := by
  rintro rfl
  unfold Blk at h h'
  rw [h] at h'
  simp at h'
  exact ht h'.2
theorem Blk.neM {P : Program} {w : World} {a b : Nat} {cs : Array Value} {t k e : TypeId} {n : Nat} {m : Int → Option Int} (h : Blk w a cs t) (h' : MapR P k e w b n m) : a ≠ b := by
  rintro rfl
  obtain ⟨D, ⟨es, clock, h3, _⟩, _⟩ := h'
  unfold Blk at h
  rw [h] at h3; cases h3
end Go.Mono

set_option linter.unusedVariables false
namespace Go.Mono
open Go Go.Proofs Go.RowKit

theorem below2_spec {G G2 : Nat → Prop} (t : List (Int × BS)) (v : Value) (W : World) (h : (Dv treeE G t).p v W) (hG : ∀ b, G2 b → b < W.heap.size) (hl : t.length ≤ 4096) (hr : Rng t) :
    Calls Tryd.prog 141 #[v] W (Post (Dv (slE (slE intE)) G2 (belowT t)) W) := by
  refine enter (args := [v]) (As := [Dv treeE (GB W G) t]) Tryd.func141 rfl Tryd.ntmps141 (Nat.le_of_ble_eq_true rfl) ?_ (fun a hf => ?_) (Nat.le_of_ble_eq_true rfl)
  rotate_left
  dsimp only [params, Nat.reduceAdd] at hf
  rotate_right
  · exact arg1 (Dv.toB h)
  have e := Ext.rfl' W
  repeat refine seq ?_
  refine regn0 ?_
  refine tl_as hf rfl (by decide) fun a hf => ?_
  refine tl_nil ?_
  repeat refine seq ?_
  refine regn 2 hf (by decide +kernel) ?_
  refine st (mv rfl) ?_
  refine st (lenD Tryd.underlying23 (isR rfl)) ?_
  refine en fun a w e' hf => ?_
  replace e := Ext.tr e e'
  clear e'
  refine tl_mk Tryd.underlying112 I43 rfl hf (by decide) rfl (by omega) (by decide) fun a b8 w e' hb8 hs8 B8 hf => ?_
  have hle8 := Nat.le_trans e.size (Nat.le_of_eq hb8.symm)
  replace e := Ext.tr e e'
  clear e'
  refine tl_as hf rfl (by decide) fun a hf => ?_
  refine tl_nil ?_
  have HR : Rows 3 W.heap.size G2 w b8 (belowTo t 0) (List.replicate t.length (.slice none 0 0)) := by rw [belowTo_zero]; exact Rows.nil e.size hG
  have hlen : (List.replicate t.length (Value.slice none 0 0)).length = t.length := by simp
  repeat refine seq ?_
  refine regn 3 hf (by decide +kernel) ?_
  refine st (mv rfl) ?_
  refine st (lenD Tryd.underlying23 (isR rfl)) ?_
  refine st (mv rfl) ?_
  refine en fun a w e' hf => ?_
  replace e := Ext.tr e e'
  replace B8 := B8.ext e'
  replace HR := HR.ext e'
  clear e'
  refine tl_nil ?_
  replace hf := hf.keep [3, 9, 10, 11]
  dsimp only [keep, List.filterMap, look, Nat.beq, Option.map] at hf
  repeat refine seq ?_
  refine blk (loopN (fun r0 a w => ∃ (k : Nat) (vs : List Value), r0 = t.length - k ∧ k ≤ t.length ∧ Fr 33 a w [(3, E (.slice (some ⟨b8, 0, none⟩) t.length t.length)), (9, Dv treeE (GB W G) t), (10, E (I (t.length : Nat))), (11, E (I k))] ∧ Ext W w ∧ Blk w b8 vs.toArray 43 ∧ vs.length = t.length ∧ Rows 3 W.heap.size G2 w b8 (belowTo t k) vs) t.length ⟨0, _, rfl, by omega, hf, e, B8, hlen, HR⟩ ?_)
  clear hf e; try clear B8; try clear hlen; try clear HR
  rintro r0 a w ⟨k, vs, rfl, hk, hf, e, B8, hlen, HR⟩
  repeat refine seq ?_
  refine regn 1 hf (by decide +kernel) ?_
  refine st (lss rfl rfl) ?_
  refine en fun a w e' hf => ?_
  replace e := Ext.tr e e'
  replace B8 := B8.ext e'
  replace HR := HR.ext e'
  clear e'
  refine tl_nil ?_
  repeat refine seq ?_
  refine ifc hf rfl (fun hc => wskip ?_) (fun hc => wexit ?_)
  rotate_left
  rotate_left
  · have hlt : k < t.length := by have := of_decide_eq_true hc; (try dsimp only at this); omega
    clear hc
    replace hf := hf.keep [3, 9, 10, 11]
    dsimp only [keep, List.filterMap, look, Nat.beq, Option.map] at hf
    repeat refine seq ?_
    refine blk ?_
    have hx := bg_get hlt
    have hrk := hr k hlt
    repeat refine seq ?_
    refine regn0 ?_
    refine tl_op hf (by decide) (mv rfl) fun a w e' hf => ?_
    replace e := Ext.tr e e'
    replace B8 := B8.ext e'
    replace HR := HR.ext e'
    clear e'
    refine tl_op hf (by decide) (idxD Tryd.underlying23 S86 (isR rfl) rfl (by omega) (hx)) fun a w e' hf => ?_
    replace e := Ext.tr e e'
    replace B8 := B8.ext e'
    replace HR := HR.ext e'
    clear e'
    refine tl_op hf (by decide) (ldBag T86 (isR rfl)) fun a w e' hf => ?_
    replace e := Ext.tr e e'
    replace B8 := B8.ext e'
    replace HR := HR.ext e'
    clear e'
    refine tl_alloc I86 hf (by decide) fun a b5 w e' hb5 hs5 B5 hf => ?_
    have hle5 := Nat.le_trans e.size (Nat.le_of_eq hb5.symm)
    have ne5_HR := HR.ne_new hb5
    have lt5_B8 := B8.lt
    replace e := Ext.tr e e'
    replace B8 := B8.ext e'
    replace HR := HR.ext e'
    clear e'
    refine tl_as hf rfl (by decide) fun a hf => ?_
    haveI hinr : ∀ G0, InR (GB W G0) (some b5) := fun G0 => InR.gb (by omega)
    refine tl_stW T86 hf rfl rfl (bagC_one _) B5 rfl (bagC_size _) fun w hg hsz B5 hf => ?_
    replace e := e.gr hg (by omega)
    replace B8 := B8.gr hg (by omega)
    replace HR := HR.gr hg (by assumption)
    clear hg
    refine tl_nil ?_
    repeat refine seq ?_
    refine regn 3 hf (by decide +kernel) ?_
    refine st (fldA Tryd.underlying86 rfl T3 (by decide) rfl) ?_
    refine st (ld1 T3 rfl B5 (bagC_0 _)) ?_
    refine st (neq rfl rfl) ?_
    refine en fun a w e' hf => ?_
    replace e := Ext.tr e e'
    replace B8 := B8.ext e'
    replace HR := HR.ext e'
    replace B5 := B5.ext e'
    clear e'
    refine tl_nil ?_
    repeat refine seq ?_
    refine ifc hf rfl (fun hb => ?_) (fun hb => ?_)
    · have hne : (bg t k).1 ≠ -1 := by simpa using hb
      obtain ⟨p, hp⟩ : ∃ p : Nat, (bg t k).1 = (p : Int) := ⟨(bg t k).1.toNat, by omega⟩
      have hpl : p < t.length := by omega
      have hvp : vs[p]? = some (vs[p]'(by omega)) := by simp
      obtain ⟨u, hu⟩ : ∃ u, u = vs[p]'(by omega) := ⟨_, rfl⟩
      rw [← hu] at hvp
      obtain ⟨Ho, hob⟩ := HR.at' p u _ hvp (belowTo_get hpl)
      have n5 : u.ownBlock ≠ some b5 := ne5_HR p u hvp
      have hsel := selN_len (fun i => decide ((bg t i).1 = (p : Int))) k
      haveI hin : ∀ G0, InR (GB W G0) u.ownBlock := OwR.inGB Ho (Nat.le_refl _)
      replace hf := hf.keep [3, 4, 5, 9, 10, 11]
      dsimp only [keep, List.filterMap, look, Nat.beq, Option.map] at hf
      have h8 := B8.lt
      repeat refine seq ?_
      refine regX 12 10 u.ownBlock (by decide) Mix.mix hf (by decide +kernel) ?_
      refine xm (fun w1 h1 => mv rfl) ?_
      refine xm (fun w1 h1 => fldA Tryd.underlying86 rfl T3 (by decide) rfl) ?_
      refine xm (fun w1 h1 => (ld1 T3 rfl (B5.gro h1 n5) (bagC_0 _)).eq (congrArg (Value.int .i64) hp)) ?_
      refine xm (fun w1 h1 => mv rfl) ?_
      refine xm (fun w1 h1 => fldA Tryd.underlying86 rfl T3 (by decide) rfl) ?_
      refine xm (fun w1 h1 => (ld1 T3 rfl (B5.gro h1 n5) (bagC_0 _)).eq (congrArg (Value.int .i64) hp)) ?_
      refine xm (fun w1 h1 => idxS Tryd.underlying112 S43 rfl rfl (by omega)) ?_
      refine xm (fun w1 h1 => ld1 T43 rfl (B8.gro h1 hob) (get_arr hvp)) ?_
      refine xm (fun w1 h1 => mv rfl) ?_
      refine xm (fun w1 h1 => bsl1 Tryd.underlying43 I3 rfl (by decide) rfl (fun b hb => Nat.lt_of_lt_of_le (Ho.avs b hb) h1.size) (isI rfl)) ?_
      refine xx (xapp Tryd.underlying43 I3 rfl rfl rfl Ho rfl (by simp only [List.length_singleton, kidT]; omega) (by simp only [List.length_singleton, kidT, maxLen]; omega)) ?_
      refine xn (fun w1 h1 => idxS Tryd.underlying112 S43 rfl rfl (by omega)) ?_
      refine xe fun a w hg hf => ?_
      obtain ⟨v', ⟨Hn, hat⟩, hf⟩ := hf.fix 29 rfl
      replace e := e.gro hg (Ho.row (Nat.le_refl _))
      replace HR := HR.upd hvp hg Hn hat h8
      replace B8 := B8.gro hg hob
      have hone := Hn.one
      have hbo := HR.ne_bo
      clear Ho Hn hg hat B5
      rw [← belowTo_succ hp hpl] at HR
      replace hf := hf.keep [3, 9, 10, 11, 29, 30]
      dsimp only [keep, List.filterMap, look, Nat.beq, Option.map] at hf
      haveI hinr : ∀ G0, InR (GB W G0) (some b8) := fun G0 => InR.gb (by omega)
      refine tl_st1 T43 hf rfl rfl hone B8 (by simp; omega) fun w hg hsz B8 hf => ?_
      replace e := e.gr hg (by omega)
      replace HR := HR.gr hg hbo
      rw [set_arr] at B8
      refine tl_nil ?_
      try simp only [Exit.then, Exit.inBlock, ↓reduceIte]
      repeat refine seq ?_
      refine regn 1 hf (by decide +kernel) ?_
      refine st ((add rfl rfl (by omega)).eq (congrArg (Value.int .i64) (show (k : Int) + 1 = ((k + 1 : Nat) : Int) from rfl))) ?_
      refine en fun a w e' hf => ?_
      replace e := Ext.tr e e'
      replace B8 := B8.ext e'
      replace HR := HR.ext e'
      clear e'
      refine tl_op hf (by decide) (mv rfl) fun a w e' hf => ?_
      replace e := Ext.tr e e'
      replace B8 := B8.ext e'
      replace HR := HR.ext e'
      clear e'
      refine tl_nil ?_
      replace hf := hf.keep [3, 9, 10, 11]
      dsimp only [keep, List.filterMap, look, Nat.beq, Option.map] at hf
      refine ⟨_, ?_, k + 1, vs.set p v', rfl, by omega, hf, e, ?_⟩
      · omega
      exact ⟨B8, by simpa using hlen, HR⟩
    · have hne : (bg t k).1 = -1 := by simpa using hb
      refine wskip ?_
      try simp only [Exit.then, Exit.inBlock, ↓reduceIte]
      try simp only [Exit.then, Exit.inBlock, ↓reduceIte]
      repeat refine seq ?_
      refine regn 1 hf (by decide +kernel) ?_
      refine st ((add rfl rfl (by omega)).eq (congrArg (Value.int .i64) (show (k : Int) + 1 = ((k + 1 : Nat) : Int) from rfl))) ?_
      refine en fun a w e' hf => ?_
      replace e := Ext.tr e e'
      replace B5 := B5.ext e'
      replace B8 := B8.ext e'
      replace HR := HR.ext e'
      clear e'
      refine tl_op hf (by decide) (mv rfl) fun a w e' hf => ?_
      replace e := Ext.tr e e'
      replace B5 := B5.ext e'
      replace B8 := B8.ext e'
      replace HR := HR.ext e'
      clear e'
      refine tl_nil ?_
      replace hf := hf.keep [3, 9, 10, 11]
      dsimp only [keep, List.filterMap, look, Nat.beq, Option.map] at hf
      refine ⟨_, ?_, k + 1, vs, rfl, by omega, hf, e, ?_⟩
      · omega
      exact ⟨B8, hlen, by rw [belowTo_none hne]; exact HR⟩
  · obtain rfl : k = t.length := by have := of_decide_eq_false hc; (try dsimp only at this); omega
    clear hc
    simp only [Exit.then, Exit.inBlock, ↓reduceIte]
    repeat refine seq ?_
    refine regn 1 hf (by decide +kernel) ?_
    refine st (mv rfl) ?_
    refine en fun a w e' hf => ?_
    replace e := Ext.tr e e'
    replace B8 := B8.ext e'
    replace HR := HR.ext e'
    clear e'
    refine tl_as hf rfl (by decide) fun a hf => ?_
    refine tl_nil ?_
    have hd := HR.dv B8 (fun hg => by have := hG _ hg; omega) (Nat.le_of_eq (belowTo_len t _))
    rw [belowTo_len] at hd
    refine wret ?_
    try simp only [Exit.then, Exit.inBlock]
    refine ret1 rfl hf rfl ?_
    rintro _ rfl
    exact ⟨_, rfl, e, hd⟩
theorem children2_spec {G G2 : Nat → Prop} (t : List (Int × BS)) (f : Nat) (v : Value) (W : World) (h : (Dv treeE G t).p v W) (hG : ∀ b, G2 b → b < W.heap.size) (hl : t.length ≤ 4096)
    (hd : Rng t → (rootN t).length = 1 → Dp t f) (hr : Rng t) (hc : chkT t f = 0) :
    Calls Tryd.prog 101 #[v] W (Post (Dv (slE (slE intE)) G2 (belowT t)) W) := by
  refine enter (args := [v]) (As := [Dv treeE G t]) Tryd.func101 rfl Tryd.ntmps101 (Nat.le_of_ble_eq_true rfl) ?_ (fun a hf => ?_) (Nat.le_of_ble_eq_true rfl)
  rotate_left
  dsimp only [params, Nat.reduceAdd] at hf
  rotate_right
  · exact arg1 h
  have e := Ext.rfl' W
  repeat refine seq ?_
  refine regn0 ?_
  refine tl_as hf rfl (by decide) fun a hf => ?_
  refine tl_nil ?_
  repeat refine seq ?_
  refine regn 3 hf (by decide +kernel) ?_
  refine st (mv rfl) ?_
  refine st (call1 En98 rfl (fun v w he h => chkT_spec t f _ w h hl hd)) ?_
  refine st ((neq rfl rfl).eq (congrArg Value.bool (show (chkT t f != 0) = false from by rw [hc]; rfl))) ?_
  refine en fun a w e' hf => ?_
  replace e := Ext.tr e e'
  clear e'
  refine tl_nil ?_
  repeat refine seq ?_
  refine ifc hf rfl (fun h => by cases h) (fun _ => ?_)
  refine wskip ?_
  try simp only [Exit.then, Exit.inBlock, ↓reduceIte]
  repeat refine seq ?_
  refine regn 2 hf (by decide +kernel) ?_
  refine st (mv rfl) ?_
  refine st (call1 En141 rfl (fun v w he h => below2_spec (G2 := G2) t _ w h (fun b hb => Nat.lt_of_lt_of_le (hG b hb) (Nat.le_trans e.size he.size)) hl hr)) ?_
  refine en fun a w e' hf => ?_
  replace e := Ext.tr e e'
  clear e'
  refine tl_as hf rfl (by decide) fun a hf => ?_
  refine tl_nil ?_
  refine wret ?_
  try simp only [Exit.then, Exit.inBlock]
  refine ret1 rfl hf rfl ?_
  intro v hv
  exact ⟨_, rfl, e, hv⟩

theorem cloneTO_spec {G : Nat → Prop} (t : List (Int × BS)) (v : Value) (W : World) (h : (Dv (slE bagE) G t).p v W) (hl : t.length ≤ 4096) :
    Calls Tryd.prog 140 #[v] W (Post (OwA bagE 86 W.heap.size Go.Mono.G0 t) W) := by
  have hG : ∀ b, Go.Mono.G0 b → b < W.heap.size := fun b hb => hb.elim
  have HV : (Dv (slE bagE) (GB W Go.Mono.G0) t).p v W := Dv.toB (Dv.weak h fun b _ hb => hb.elim)
  have hv : ∃ ao n c, v = .slice ao n c ∧ (ao = none → t = [] ∧ v = .slice none 0 0) := by
    rcases Dv.sl.1 h with ⟨rfl, rfl⟩ | ⟨ad, cap, cs, rfl, _⟩
    · exact ⟨none, 0, 0, rfl, fun _ => ⟨rfl, rfl⟩⟩
    · exact ⟨_, _, _, rfl, fun h => by cases h⟩
  obtain ⟨ao, n, c, hv1, hv2⟩ := hv
  refine enter (args := [v]) (As := [E v]) Tryd.func140 rfl Tryd.ntmps140 (Nat.le_of_ble_eq_true rfl) ?_ (fun a hf => ?_) (Nat.le_of_ble_eq_true rfl)
  rotate_left
  dsimp only [params, Nat.reduceAdd] at hf
  rotate_right
  · exact arg1 rfl
  have e := Ext.rfl' W
  rw [hv1] at hf
  repeat refine seq ?_
  refine regn0 ?_
  refine tl_as hf rfl (by decide) fun a hf => ?_
  refine tl_nil ?_
  repeat refine seq ?_
  refine regn 2 hf (by decide +kernel) ?_
  refine st (mv rfl) ?_
  refine st (eqlNil Tryd.underlying23 rfl) ?_
  refine en fun a w e' hf => ?_
  replace HV := Dv.ex HV e'
  replace e := Ext.tr e e'
  clear e'
  refine tl_nil ?_
  repeat refine seq ?_
  refine ifc hf rfl (fun hb => ?_) (fun hb => ?_)
  · have hn : ao = none := by cases ao <;> simp at hb ⊢
    obtain ⟨h1, _⟩ := hv2 hn
    subst h1
    repeat refine seq ?_
    refine regn0 ?_
    refine tl_as hf rfl (by decide) fun a hf => ?_
    refine tl_nil ?_
    refine wret ?_
    try simp only [Exit.then, Exit.inBlock]
    refine ret1 rfl hf rfl ?_
    rintro _ rfl
    exact ⟨_, rfl, e, (OwR.nil bagE _ e.size hG)⟩
  · refine wskip ?_
    try simp only [Exit.then, Exit.inBlock, ↓reduceIte]
    repeat refine seq ?_
    refine regn0 ?_
    refine tl_bsl0 W.heap.size Go.Mono.G0 bagE Tryd.underlying23 S86 hf (by decide) e.size hG fun a v w e' hov Ho hf => ?_
    replace HV := Dv.ex HV e'
    replace e := Ext.tr e e'
    clear e'
    refine tl_op hf (by decide) (mv rfl) fun a w e' hf => ?_
    replace HV := Dv.ex HV e'
    replace e := Ext.tr e e'
    replace Ho := Ho.ext e'
    clear e'
    haveI hin : ∀ G0, InR (GB W G0) _ := OwR.inGB Ho (Nat.le_refl _)
    refine tl_app Tryd.underlying23 I86 rfl rfl hf (by decide) rfl Ho (isE rfl (by rw [← hv1]; exact Dv.weak HV fun b _ hb => hb.elim (fun h => h.elim) (fun h => .inr (Ho.row (Nat.le_refl _) b h)))) (by simp only [List.length_nil]; omega) (by simp only [List.length_nil, maxLen]; omega) fun a v w hg hat Hn hf => ?_
    replace e := e.gro hg (Ho.row (Nat.le_refl _))
    replace Ho := Hn; clear Hn hg hat hin
    refine tl_as hf rfl (by decide) fun a hf => ?_
    refine tl_nil ?_
    refine wret ?_
    try simp only [Exit.then, Exit.inBlock]
    refine ret1 rfl hf rfl ?_
    rintro _ rfl
    exact ⟨_, rfl, e, (by have := Ho; rw [List.nil_append] at this; exact this)⟩


theorem OwR.lower {α : Type} {e : Enc α} {ty : TypeId} {B B' : Nat} {G : Nat → Prop} {w : World} {xs : List α} {v : Value} (h : OwR e ty B G w xs v) (hB : B' ≤ B) (hG : ∀ b, G b → b < B') : OwR e ty B' G w xs v := by
  obtain ⟨cs, h1, h2⟩ := h.own
  refine ⟨⟨cs, ⟨h1.1, ?_⟩, h2⟩, hG, Nat.le_trans hB h.base⟩
  rcases h1.2 with h | ⟨g, cap, cur, a1, a2, a3⟩
  · exact .inl h
  · exact .inr ⟨g, cap, cur, a1, Nat.le_trans hB a2, a3⟩
theorem treeCloneO_spec {G : Nat → Prop} (B : Nat) (t : List (Int × BS)) (v : Value) (W : World) (h : (Dv treeE G t).p v W) (hl : t.length ≤ 4096) (hB : B ≤ W.heap.size) :
    Calls Tryd.prog 100 #[v] W (Post (OwA bagE 86 B Go.Mono.G0 t) W) := by
  refine enter (args := [v]) (As := [Dv treeE G t]) Tryd.func100 rfl Tryd.ntmps100 (Nat.le_of_ble_eq_true rfl) ?_ (fun a hf => ?_) (Nat.le_of_ble_eq_true rfl)
  rotate_left
  dsimp only [params, Nat.reduceAdd] at hf
  rotate_right
  · exact arg1 h
  have e := Ext.rfl' W
  repeat refine seq ?_
  refine regn0 ?_
  refine tl_as hf rfl (by decide) fun a hf => ?_
  refine tl_nil ?_
  repeat refine seq ?_
  refine regn 2 hf (by decide +kernel) ?_
  refine st (mv rfl) ?_
  refine st (call1 (A := OwA bagE 86 B Go.Mono.G0 t) En140 rfl (fun v w he h => Calls.mono (cloneTO_spec _ _ w h hl) (fun en w' ⟨u, h1, h2, h3⟩ => ⟨u, h1, h2, OwR.lower (B' := B) h3 (Nat.le_trans hB (Nat.le_trans e.size he.size)) (fun b hb => hb.elim)⟩))) ?_
  refine en fun a w e' hf => ?_
  replace e := Ext.tr e e'
  clear e'
  refine tl_as hf rfl (by decide) fun a hf => ?_
  refine tl_nil ?_
  refine wret ?_
  try simp only [Exit.then, Exit.inBlock]
  refine ret1 rfl hf rfl ?_
  intro v hv
  exact ⟨_, rfl, e, hv⟩
theorem OwR.neB {α : Type} {e : Enc α} {ty : TypeId} {B : Nat} {G : Nat → Prop} {w : World} {xs : List α} {v : Value} (h : OwR e ty B G w xs v) {b : Nat} {cs : Array Value} {t : TypeId} (hb : Blk w b cs t) (ht : t ≠ ty) : v.ownBlock ≠ some b := fun hv => by
  obtain ⟨cs', h1, _⟩ := h.own
  rcases h1.2 with ⟨rfl, _⟩ | ⟨g, cap, cur, rfl, _, hg, _⟩
  · simp [Value.ownBlock] at hv
  · simp only [Value.ownBlock, Option.some.injEq] at hv
    subst hv
    exact (Blk.ne hb hg ht) rfl
theorem OwR.neM {α : Type} {e : Enc α} {ty : TypeId} {B : Nat} {G : Nat → Prop} {w : World} {xs : List α} {v : Value} (h : OwR e ty B G w xs v) {P : Program} {b n : Nat} {k el : TypeId} {m : Int → Option Int} (hb : MapR P k el w b n m) : v.ownBlock ≠ some b := fun hv => by
  obtain ⟨cs', h1, _⟩ := h.own
  rcases h1.2 with ⟨rfl, _⟩ | ⟨g, cap, cur, rfl, _, hg, _⟩
  · simp [Value.ownBlock] at hv
  · simp only [Value.ownBlock, Option.some.injEq] at hv
    subst hv
    exact (Blk.neM (t := ty) (cs := cur) hg hb) rfl
theorem OwR.chE {α : Type} {e : Enc α} [FlE e] {ty : TypeId} {B : Nat} {G : Nat → Prop} {w w' : World} {xs : List α} {v : Value} {S : Nat → Prop} (h : OwR e ty B G w xs v) (c : Chg S w w') (hS : ∀ b, v.ownBlock = some b → ¬S b) : OwR e ty B G w' xs v := by
  obtain ⟨cs, h1, h2⟩ := h.own
  refine ⟨⟨cs, ⟨h1.1, ?_⟩, Cells.fl h2⟩, h.av, Nat.le_trans h.base c.size⟩
  rcases h1.2 with h3 | ⟨g, cap, cur, a1, a2, a3, a4⟩
  · exact .inl h3
  · refine .inr ⟨g, cap, cur, a1, a2, ?_, a4⟩
    rw [c.block g (Array.getElem?_eq_some_iff.1 a3).1 (hS g (by rw [a1]; rfl))]
    exact a3
end Go.Mono
