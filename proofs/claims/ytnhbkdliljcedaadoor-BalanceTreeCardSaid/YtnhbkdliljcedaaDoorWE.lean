/-
  Walks and plain facts, in this order: Bal2, Out, Bal3, Bal4, Bal5, Split, Centre, Path, Splitter, Bal, BelowS.
  No condition.
-/
import Derived.Test.YtnhbkdliljcedaaDoorWD
import Derived.Test.YtnhbkdliljcedaaDoorWC
set_option linter.unusedVariables false
set_option linter.unusedSimpArgs false
set_option linter.unusedVariables false
set_option linter.unusedSimpArgs false
namespace Go.Mono

abbrev bits (S : BS) : Nat → Prop := fun i => S.getLsbD i = true
theorem bit_lt {S : BS} {i : Nat} (h : S.getLsbD i = true) : i < 1024 := Classical.byContradiction fun hn => by
  rw [BitVec.getLsbD_of_ge _ _ (by omega)] at h; cases h
theorem bit_diff (S T : BS) (i : Nat) : (S &&& ~~~T).getLsbD i = true ↔ S.getLsbD i = true ∧ ¬T.getLsbD i = true := by
  rw [BitVec.getLsbD_and, BitVec.getLsbD_not, Bool.and_eq_true, Bool.and_eq_true]
  constructor
  · rintro ⟨h1, _, h2⟩; exact ⟨h1, by simpa using h2⟩
  · rintro ⟨h1, h2⟩; exact ⟨h1, by simpa using bit_lt h1, by simpa using h2⟩
theorem bit_and (S T : BS) (i : Nat) : (S &&& T).getLsbD i = true ↔ S.getLsbD i = true ∧ T.getLsbD i = true := by
  rw [BitVec.getLsbD_and, Bool.and_eq_true]
theorem bit_or (S T : BS) (i : Nat) : (S ||| T).getLsbD i = true ↔ S.getLsbD i = true ∨ T.getLsbD i = true := by
  rw [BitVec.getLsbD_or, Bool.or_eq_true]
theorem bit_zero (i : Nat) : ¬(0 : BS).getLsbD i = true := by simp
theorem bit_ins (S : BS) {p i : Nat} (hp : p < 1024) : (ins S (p : Int)).getLsbD i = true ↔ S.getLsbD i = true ∨ i = p := by
  by_cases hi : i < 1024
  · rw [ins_bit _ _ _ hi, Bool.or_eq_true, decide_eq_true_eq]
    constructor
    · rintro (h | h)
      · exact .inl h
      · exact .inr (by omega)
    · rintro (h | h)
      · exact .inl h
      · exact .inr (by omega)
  · constructor
    · intro h; exact absurd (bit_lt h) hi
    · rintro (h | h)
      · exact absurd (bit_lt h) hi
      · omega
theorem bit_del (S : BS) {p i : Nat} (hp : p < 1024) : (del S (p : Int)).getLsbD i = true ↔ S.getLsbD i = true ∧ i ≠ p := by
  unfold del
  rw [if_pos (fitsB_iff.2 (by omega)), bit_diff, Int.toNat_natCast]
  constructor
  · rintro ⟨h1, h2⟩
    refine ⟨h1, fun e => h2 ?_⟩
    rw [sgl_bit _ _ hp, e]; simp
  · rintro ⟨h1, h2⟩
    refine ⟨h1, fun h => h2 ?_⟩
    rw [sgl_bit _ _ hp] at h
    exact of_decide_eq_true h
theorem set_ext' {S T : BS} (h : ∀ k, S.getLsbD k = true ↔ T.getLsbD k = true) : S = T := set_ext fun k _ => h k
theorem has_bit (S : BS) (p : Nat) : has S (p : Int) = true ↔ S.getLsbD p = true := by
  rw [has, Bool.and_eq_true, fitsB_iff, Int.toNat_natCast]
  exact ⟨fun h => h.2, fun h => ⟨by have := bit_lt h; omega, h⟩⟩

/-! ### how many -/
theorem countP_le' {α : Type} {p q : α → Bool} : ∀ {l : List α}, (∀ x ∈ l, p x = true → q x = true) → l.countP p ≤ l.countP q
  | [], _ => Nat.le_refl _
  | x :: l, h => by
    have ih := countP_le' (l := l) fun y hy => h y (by simp [hy])
    rw [List.countP_cons, List.countP_cons]
    by_cases hx : p x = true
    · rw [if_pos hx, if_pos (h x (by simp) hx)]; omega
    · rw [if_neg hx]; split <;> omega
theorem countP_lt' {α : Type} {p q : α → Bool} {z : α} : ∀ {l : List α}, (∀ x ∈ l, p x = true → q x = true) → z ∈ l → q z = true → ¬p z = true → l.countP p < l.countP q
  | [], _, hz, _, _ => by cases hz
  | x :: l, h, hz, h1, h2 => by
    have ih := countP_le' (p := p) (q := q) (l := l) fun y hy => h y (by simp [hy])
    rw [List.countP_cons, List.countP_cons]
    rcases List.mem_cons.1 hz with rfl | hz
    · rw [if_neg h2, if_pos h1]; omega
    · have ih := countP_lt' (l := l) (fun y hy => h y (by simp [hy])) hz h1 h2
      by_cases hx : p x = true
      · rw [if_pos hx, if_pos (h x (by simp) hx)]; omega
      · rw [if_neg hx]; split <;> omega
theorem countP_add' {α : Type} {p q r : α → Bool} : ∀ {l : List α}, (∀ x ∈ l, r x = true ↔ p x = true ∨ q x = true) → (∀ x ∈ l, ¬(p x = true ∧ q x = true)) → l.countP r = l.countP p + l.countP q
  | [], _, _ => rfl
  | x :: l, h, hd => by
    have ih := countP_add' (l := l) (p := p) (q := q) (r := r) (fun y hy => h y (by simp [hy])) fun y hy => hd y (by simp [hy])
    rw [List.countP_cons, List.countP_cons, List.countP_cons, ih]
    have h1 := h x (by simp)
    have h2 := hd x (by simp)
    by_cases hp : p x = true
    · have hq : ¬q x = true := fun hq => h2 ⟨hp, hq⟩
      rw [if_pos hp, if_neg hq, if_pos (h1.2 (.inl hp))]; omega
    · by_cases hq : q x = true
      · rw [if_neg hp, if_pos hq, if_pos (h1.2 (.inr hq))]; omega
      · rw [if_neg hp, if_neg hq, if_neg (fun hr => (h1.1 hr).elim hp hq)]; omega
theorem card_mono {S T : BS} (h : ∀ i, S.getLsbD i = true → T.getLsbD i = true) : card S ≤ card T := countP_le' fun i _ hi => h i hi
theorem card_lt {S T : BS} {z : Nat} (h : ∀ i, S.getLsbD i = true → T.getLsbD i = true) (h1 : T.getLsbD z = true) (h2 : ¬S.getLsbD z = true) : card S < card T :=
  countP_lt' (fun i _ hi => h i hi) (List.mem_range.2 (bit_lt h1)) h1 h2
theorem card_add {S T U : BS} (h : ∀ i, U.getLsbD i = true ↔ S.getLsbD i = true ∨ T.getLsbD i = true) (hd : ∀ i, ¬(S.getLsbD i = true ∧ T.getLsbD i = true)) : card U = card S + card T :=
  countP_add' (fun i _ => h i) fun i _ => hd i
theorem card_elems (S : BS) : (elems S).length = card S := by rw [elems, card, List.countP_eq_length_filter]
theorem card_zero : card 0 = 0 := by rw [← card_elems, elems_zero]; rfl
theorem countP_lt_range (n : Nat) : ∀ m, (List.range m).countP (fun i => decide (i < n)) ≤ n
  | 0 => by simp
  | m + 1 => by
    rw [List.range_succ, List.countP_append]
    have ih := countP_lt_range n m
    by_cases h : m < n
    · have := List.countP_le_length (p := fun i => decide (i < n)) (l := List.range m)
      rw [List.length_range] at this
      simp [h]; omega
    · simp [h]; omega
theorem card_le_n {S : BS} {n : Nat} (h : ∀ i, S.getLsbD i = true → i < n) : card S ≤ n :=
  Nat.le_trans (countP_le' fun i _ hi => decide_eq_true (h i hi)) (countP_lt_range n 1024)
theorem card_one {S : BS} {p : Nat} (h : ∀ i, S.getLsbD i = true ↔ i = p) : card S = 1 := by
  have hp : p < 1024 := bit_lt ((h p).2 rfl)
  have : ∀ m, (List.range m).countP (fun i => S.getLsbD i) = if p < m then 1 else 0 := by
    intro m
    induction m with
    | zero => simp
    | succ m ih =>
      rw [List.range_succ, List.countP_append, ih]
      by_cases hm : m = p
      · subst hm
        simp [(h m).2 rfl]
      · have : ¬S.getLsbD m = true := fun hh => hm ((h m).1 hh)
        rw [List.countP_singleton, if_neg this]
        split <;> split <;> omega
  rw [card, this, if_pos hp]
theorem card_pos {S : BS} {p : Nat} (h : S.getLsbD p = true) : 0 < card S := by
  rw [← card_elems]
  exact List.length_pos_of_mem (mem_elems.2 ⟨bit_lt h, h⟩)
theorem minOf_mem {S : BS} {k : Nat} (h : minOf S = some k) : S.getLsbD k = true := (minOf_some.1 h).2.1
theorem minOf_is {S : BS} {p : Nat} (h : S.getLsbD p = true) : ∃ k, minOf S = some k ∧ k ≤ p := by
  cases hm : minOf S with
  | none => rw [minOf_none.1 hm] at h; exact absurd h (bit_zero p)
  | some k =>
    refine ⟨k, rfl, Classical.byContradiction fun hn => ?_⟩
    have := (minOf_some.1 hm).2.2 p (by omega)
    rw [this] at h; cases h

/-! ### forests that stand for trees -/
structure Fo (fs : List BS) (T : Tr) : Prop where
  len : fs.length = T.n
  le : T.n ≤ 1000
  adj : ∀ {j i}, j < T.n → ((sg fs j).getLsbD i = true ↔ i < T.n ∧ T.adj j i)
theorem Fo.lt {fs : List BS} {T : Tr} (F : Fo fs T) {j : Nat} (hj : j < fs.length) : ∀ i, (sg fs j).getLsbD i = true → i < fs.length := fun i h => by
  rw [F.len] at hj ⊢
  exact ((F.adj hj).1 h).1

theorem compF_ok {fs : List BS} {T : Tr} (F : Fo fs T) {inn : BS} {p : Nat} (hin : ∀ i, inn.getLsbD i = true → i < T.n) : ∀ (f : Nat) (S : BS) (R : List Int), S.getLsbD p = true → (∀ i, S.getLsbD i = true → T.cn (bits inn) p i) →
    (∀ r ∈ R, ∃ q : Nat, r = (q : Int) ∧ S.getLsbD q = true) → (∀ i, S.getLsbD i = true → (i : Int) ∉ R → ∀ k, T.adj i k → inn.getLsbD k = true → S.getLsbD k = true) → R.length + T.n ≤ f + card S →
    ∃ Z, compF fs inn f S R = some Z ∧ ∀ i, Z.getLsbD i = true ↔ T.cn (bits inn) p i := by
  intro f
  induction f with
  | zero =>
    intro S R h1 h2 h3 h4 h5
    have hc := card_le_n fun i hi => (h2 i hi).2.1
    have : R = [] := List.eq_nil_of_length_eq_zero (by omega)
    subst this
    refine ⟨S, rfl, fun i => ⟨h2 i, fun h => h.ind (S := bits S) h1 fun a b ha hb pa pb hs hab => h4 a hs (by simp) b hab pb⟩⟩
  | succ f ih =>
    intro S R h1 h2 h3 h4 h5
    cases R with
    | nil => exact ⟨S, rfl, fun i => ⟨h2 i, fun h => h.ind (S := bits S) h1 fun a b ha hb pa pb hs hab => h4 a hs (by simp) b hab pb⟩⟩
    | cons r R =>
      obtain ⟨q, rfl, hq⟩ := h3 r (by simp)
      have hqn := (h2 q hq).2.1
      have hX : ∀ i, (((sg fs q &&& inn) &&& ~~~S)).getLsbD i = true ↔ (i < T.n ∧ T.adj q i) ∧ inn.getLsbD i = true ∧ ¬S.getLsbD i = true := fun i => by
        rw [bit_diff, bit_and, F.adj hqn, and_assoc]
      rw [compF, Int.toNat_natCast]
      generalize (sg fs q &&& inn) &&& ~~~S = X at hX
      have hU : ∀ i, (S ||| X).getLsbD i = true ↔ S.getLsbD i = true ∨ X.getLsbD i = true := bit_or S X
      have hel : ∀ i : Nat, (i : Int) ∈ elI X ↔ X.getLsbD i = true := fun i => by
        by_cases hi : i < 1024
        · exact mem_elI hi
        · constructor
          · intro h
            rw [elI, List.mem_map] at h
            obtain ⟨j, hj, he⟩ := h
            have := (mem_elems.1 hj).1
            omega
          · intro h; exact absurd (bit_lt h) hi
      refine ih (S ||| X) (R ++ elI X) ((hU p).2 (.inl h1)) (fun i hi => ?_) (fun x hx => ?_) (fun i hi hn k hk hik => ?_) ?_
      · rcases (hU i).1 hi with h | h
        · exact h2 i h
        · have := (hX i).1 h
          exact (h2 q hq).trans (Tr.cn.of_adj hqn this.1.1 (h2 q hq).2.2.2.1 this.2.1 this.1.2)
      · rcases List.mem_append.1 hx with h | h
        · obtain ⟨q', e, h'⟩ := h3 x (by simp [h])
          exact ⟨q', e, (hU q').2 (.inl h')⟩
        · rw [elI, List.mem_map] at h
          obtain ⟨j, hj, rfl⟩ := h
          exact ⟨j, rfl, (hU j).2 (.inr (mem_elems.1 hj).2)⟩
      · have hiX : ¬X.getLsbD i = true := fun h => hn (List.mem_append.2 (.inr ((hel i).2 h)))
        have hiS := ((hU i).1 hi).resolve_right hiX
        by_cases hiq : i = q
        · subst hiq
          by_cases hkS : S.getLsbD k = true
          · exact (hU k).2 (.inl hkS)
          · exact (hU k).2 (.inr ((hX k).2 ⟨⟨hin k hik, hk⟩, hik, hkS⟩))
        · refine (hU k).2 (.inl (h4 i hiS (fun h => ?_) k hk hik))
          rcases List.mem_cons.1 h with h | h
          · omega
          · exact hn (List.mem_append.2 (.inl h))
      · have hc := card_add hU (fun i h => ((hX i).1 h.2).2.2 h.1)
        have hl : (elI X).length = card X := by rw [elI, List.length_map, card_elems]
        rw [List.length_append, hl, hc]
        simp only [List.length_cons] at h5
        omega
/-- the component of p in inn -/
def compB (fs : List BS) (inn : BS) (p : Nat) : BS := (compF fs inn (1 + fs.length) (ins 0 (p : Int)) [(p : Int)]).getD 0
theorem comp_some {fs : List BS} {T : Tr} (F : Fo fs T) {inn : BS} {p : Nat} (hin : ∀ i, inn.getLsbD i = true → i < T.n) (hp : inn.getLsbD p = true) :
    compF fs inn (1 + fs.length) (ins 0 (p : Int)) [(p : Int)] = some (compB fs inn p) ∧ ∀ i, (compB fs inn p).getLsbD i = true ↔ T.cn (bits inn) p i := by
  have hpn := hin p hp
  have hle := F.le
  have hb : ∀ i, (ins 0 (p : Int)).getLsbD i = true ↔ i = p := fun i => by
    rw [bit_ins 0 (by omega)]
    exact ⟨fun h => h.resolve_left (bit_zero i), .inr⟩
  obtain ⟨Z, h1, h2⟩ := compF_ok F hin (1 + fs.length) (ins 0 (p : Int)) [(p : Int)] ((hb p).2 rfl) (fun i hi => by rw [(hb i).1 hi]; exact Tr.cn.refl hpn hp)
    (fun r hr => ⟨p, by simpa using hr, (hb p).2 rfl⟩) (fun i hi hn => by rw [(hb i).1 hi] at hn; simp at hn) (by have := F.len; simp; omega)
  have : compB fs inn p = Z := by rw [compB, h1]; rfl
  rw [this]
  exact ⟨h1, h2⟩
theorem comp_sub {fs : List BS} {T : Tr} (F : Fo fs T) {inn : BS} {p : Nat} (hin : ∀ i, inn.getLsbD i = true → i < T.n) (hp : inn.getLsbD p = true) : ∀ i, (compB fs inn p).getLsbD i = true → inn.getLsbD i = true :=
  fun i hi => (((comp_some F hin hp).2 i).1 hi).2.2.2.1
theorem comp_self {fs : List BS} {T : Tr} (F : Fo fs T) {inn : BS} {p : Nat} (hin : ∀ i, inn.getLsbD i = true → i < T.n) (hp : inn.getLsbD p = true) : (compB fs inn p).getLsbD p = true :=
  ((comp_some F hin hp).2 p).2 (Tr.cn.refl (hin p hp) hp)
/-- a set that is connected is the component of each of its bags -/
theorem comp_conn {fs : List BS} {T : Tr} (F : Fo fs T) {inn : BS} {p : Nat} (hin : ∀ i, inn.getLsbD i = true → i < T.n) (hp : inn.getLsbD p = true) : compB fs inn p = inn ↔ T.conn (bits inn) := by
  constructor
  · intro h
    have := Tr.conn_comp (T := T) (A := bits inn) (x := p)
    have e : (fun y => T.cn (bits inn) p y) = bits inn := by
      funext y
      apply propext
      rw [← (comp_some F hin hp).2 y, h]
    rwa [e] at this
  · intro h
    refine set_ext' fun k => ?_
    rw [(comp_some F hin hp).2 k]
    exact ⟨fun h' => h'.2.2.2.1, fun h' => h p k (hin p hp) (hin k h') hp h'⟩

/-! ### parts -/
def oEl {α : Type} (o : Option Nat) (a : α) (g : Nat → α) : α := match o with
  | none => a
  | some k => g k
def splitF (fs : List BS) : Nat → BS → Option (List BS)
  | 0, left => oEl (minOf left) (some []) fun _ => none
  | f + 1, left => oEl (minOf left) (some []) fun k => (splitF fs f (left &&& ~~~compB fs left k)).map (compB fs left k :: ·)
theorem splitF_nil {fs : List BS} {left : BS} (h : minOf left = none) (f : Nat) : splitF fs f left = some [] := by
  cases f with
  | zero => rw [splitF, h]; rfl
  | succ f => rw [splitF, h]; rfl
theorem splitF_cons {fs : List BS} {left : BS} {k : Nat} (h : minOf left = some k) (f : Nat) : splitF fs (f + 1) left = (splitF fs f (left &&& ~~~compB fs left k)).map (compB fs left k :: ·) := by
  rw [splitF, h, oEl]
theorem splitF_zero {fs : List BS} {left : BS} {k : Nat} (h : minOf left = some k) : splitF fs 0 left = none := by
  rw [splitF, h, oEl]
/-- what is left when a component is taken away is connected as before -/
theorem cn_rest {fs : List BS} {T : Tr} (F : Fo fs T) {left : BS} {k x y : Nat} (hin : ∀ i, left.getLsbD i = true → i < T.n) (hk : left.getLsbD k = true) (hx : (left &&& ~~~compB fs left k).getLsbD x = true) :
    T.cn (bits (left &&& ~~~compB fs left k)) x y ↔ T.cn (bits left) x y := by
  have hC := (comp_some F hin hk).2
  constructor
  · intro h; exact h.mono fun i _ hi => ((bit_diff _ _ i).1 hi).1
  · intro h
    refine h.ind (S := fun i => T.cn (bits (left &&& ~~~compB fs left k)) x i) (Tr.cn.refl h.1 hx) fun a b ha hb pa pb hs hab => ?_
    have ha' := (bit_diff _ _ a).1 hs.2.2.2.1
    have hb' : (left &&& ~~~compB fs left k).getLsbD b = true := (bit_diff _ _ b).2 ⟨pb, fun hh => ha'.2 ((hC a).2 (((hC b).1 hh).trans (Tr.cn.of_adj hb ha pb pa hab.symm)))⟩
    exact hs.trans (Tr.cn.of_adj ha hb hs.2.2.2.1 hb' hab)
/-- THE PARTS: connected, apart, all there -/
theorem splitF_ok {fs : List BS} {T : Tr} (F : Fo fs T) : ∀ (f : Nat) (left : BS), (∀ i, left.getLsbD i = true → i < T.n) → card left ≤ f →
    ∃ l, splitF fs f left = some l ∧ l.length ≤ card left ∧ (∀ C ∈ l, ∃ k, left.getLsbD k = true ∧ C = compB fs left k) ∧ ∀ k, left.getLsbD k = true → compB fs left k ∈ l := by
  intro f
  induction f with
  | zero =>
    intro left hin hc
    cases hm : minOf left with
    | none =>
      refine ⟨[], splitF_nil hm _, by simp, fun C hC => by (cases hC), fun k hk => ?_⟩
      rw [minOf_none.1 hm] at hk; exact absurd hk (bit_zero k)
    | some k => have := card_pos (minOf_mem hm); omega
  | succ f ih =>
    intro left hin hc
    cases hm : minOf left with
    | none =>
      refine ⟨[], splitF_nil hm _, by simp, fun C hC => by (cases hC), fun k hk => ?_⟩
      rw [minOf_none.1 hm] at hk; exact absurd hk (bit_zero k)
    | some k =>
      have hk := minOf_mem hm
      have hlt : card (left &&& ~~~compB fs left k) < card left := card_lt (fun i hi => ((bit_diff _ _ i).1 hi).1) hk fun h => ((bit_diff _ _ k).1 h).2 (comp_self F hin hk)
      have hin' : ∀ i, (left &&& ~~~compB fs left k).getLsbD i = true → i < T.n := fun i hi => hin i ((bit_diff _ _ i).1 hi).1
      have same : ∀ x, (left &&& ~~~compB fs left k).getLsbD x = true → compB fs (left &&& ~~~compB fs left k) x = compB fs left x := fun x hx => by
        have hxl := ((bit_diff _ _ x).1 hx).1
        refine set_ext' fun i => ?_
        rw [(comp_some F hin' hx).2 i, (comp_some F hin hxl).2 i]
        exact cn_rest F hin hk hx
      obtain ⟨l, h1, h2, h3, h4⟩ := ih _ hin' (by omega)
      refine ⟨compB fs left k :: l, by rw [splitF_cons hm, h1]; rfl, by simp; omega, fun C hC => ?_, fun x hx => ?_⟩
      · rcases List.mem_cons.1 hC with rfl | hC
        · exact ⟨k, hk, rfl⟩
        · obtain ⟨x, hx, rfl⟩ := h3 C hC
          exact ⟨x, ((bit_diff _ _ x).1 hx).1, same x hx⟩
      · by_cases hxC : (compB fs left k).getLsbD x = true
        · have : compB fs left x = compB fs left k := by
            have hkx := ((comp_some F hin hk).2 x).1 hxC
            refine set_ext' fun i => ?_
            rw [(comp_some F hin hk).2 i, (comp_some F hin hx).2 i]
            exact ⟨fun h => hkx.trans h, fun h => hkx.symm.trans h⟩
          rw [this]; simp
        · have hx' := (bit_diff _ _ x).2 ⟨hx, hxC⟩
          rw [← same x hx']
          exact List.mem_cons_of_mem _ (h4 x hx')
end Go.Mono

set_option linter.unusedVariables false
set_option linter.unusedSimpArgs false
namespace Go.Mono
open Go Go.Proofs Go.RowKit

/-- blocks and what they hold -/
def BlkL (w : World) : List (Nat × Array Value × TypeId) → Prop
  | [] => True
  | x :: K => Blk w x.1 x.2.1 x.2.2 ∧ BlkL w K
def LtL (B : Nat) : List (Nat × Array Value × TypeId) → Prop
  | [] => True
  | x :: K => x.1 < B ∧ LtL B K
theorem BlkL.kp {B : Nat} {w w' : World} (k : Kp B w w') : ∀ {K : List (Nat × Array Value × TypeId)}, BlkL w K → LtL B K → BlkL w' K
  | [], _, _ => trivial
  | x :: K, h, l => ⟨h.1.kp k (fun hh => by have := hh.1; have := l.1; omega), BlkL.kp k h.2 l.2⟩
theorem BlkL.lt {w : World} : ∀ {K : List (Nat × Array Value × TypeId)}, BlkL w K → LtL w.heap.size K
  | [], _ => trivial
  | x :: K, h => ⟨h.1.lt, BlkL.lt h.2⟩
/-- what holds between the rounds of a loop over a set -/
structure RJ (W : World) (fs : List BS) (fv : Value) (K : List (Nat × Array Value × TypeId)) (D : List Nat) (w : World) : Prop where
  e : Ext W w
  t : Tab w
  hv : (Dv (slE setE) (GB W Go.Mono.G0) fs).p fv w
  bl : BlkL w K
  ds : Ds D w
theorem RJ.kp {W : World} {fs : List BS} {fv : Value} {K : List (Nat × Array Value × TypeId)} {D : List Nat} {B : Nat} {w w' : World} (h : RJ W fs fv K D w) (k : Kp B w w') (hW : W.heap.size ≤ B) (h0 : 0 < B) (hK : LtL B K) (hD : ∀ d ∈ D, d < B) : RJ W fs fv K D w' :=
  ⟨h.e.kp k hW, h.t.kp k h0, Dv.ch h.hv k.chg (fun b hb => .inr (by have := hb.1; omega)), h.bl.kp k hK, h.ds.ch k.chg fun d hd hh => by have := hh.1; have := hD d hd; omega⟩

def outTo (fs : List BS) (s : List Nat) : BS := s.foldl (fun r n => r ||| sg fs n) 0
def outM (fs : List BS) (part : BS) : BS := outTo fs (elems part) &&& ~~~part

theorem out_spec {G : Nat → Prop} (fs : List BS) (part : BS) (fv : Value) (W : World) (hT : Tab W) (h : (Dv (slE setE) G fs).p fv W) (hp : ∀ i ∈ elems part, i < fs.length) :
    Calls Tryd.prog 117 #[fv, setV part] W (Post (E (setV (outM fs part))) W) := by
  have HV : (Dv (slE setE) (GB W Go.Mono.G0) fs).p fv W := Dv.toB (Dv.weak h fun b _ hb => hb.elim)
  clear h
  have hT0 := hT.lt
  have h1 := one_cells (Dv.slOne HV)
  refine enterM (args := [fv, setV part]) (As := [E fv, E (setV part)]) Tryd.func117 rfl Tryd.ntmps117 (Nat.le_of_ble_eq_true rfl) ?_ (fun a hf => ?_) (Nat.le_of_ble_eq_true rfl)
  · exact arg2 rfl rfl
  dsimp only [params, Nat.reduceAdd] at hf
  have e := Ext.rfl' W
  repeat refine seq ?_
  refine regn0 ?_
  refine tl_box hf rfl (by decide) fun a b2 w v2 hv2 e' hb2 hs2 B2 hf => ?_
  have hle2 := Nat.le_trans e.size (Nat.le_of_eq hb2.symm)
  replace hT := hT.ext e'
  replace HV := Dv.ex HV e'
  replace e := Ext.tr e e'
  clear e'
  refine tl_box hf rfl (by decide) fun a b3 w v3 hv3 e' hb3 hs3 B3 hf => ?_
  have hle3 := Nat.le_trans e.size (Nat.le_of_eq hb3.symm)
  have lt3_B2 := B2.lt
  replace hT := hT.ext e'
  replace HV := Dv.ex HV e'
  replace e := Ext.tr e e'
  replace B2 := B2.ext e'
  clear e'
  refine tl_alloc I37 hf (by decide) fun a b4 w e' hb4 hs4 B4 hf => ?_
  have hle4 := Nat.le_trans e.size (Nat.le_of_eq hb4.symm)
  have lt4_B2 := B2.lt
  have lt4_B3 := B3.lt
  replace hT := hT.ext e'
  replace HV := Dv.ex HV e'
  replace e := Ext.tr e e'
  replace B2 := B2.ext e'
  replace B3 := B3.ext e'
  clear e'
  refine tl_nil ?_
  cases hv2
  cases hv3
  rw [h1] at B2
  replace B3 : Blk w b3 (setC part) 37 := B3
  simp only [Value.cells, zeroC] at B4
  replace hf := hf.keep [2, 3, 4]
  dsimp only [keep, List.filterMap, look, Nat.beq, Option.map] at hf
  repeat refine seq ?_
  refine regn0 ?_
  refine tl_alloc I37 hf (by decide) fun a b5 w e' hb5 hs5 B5 hf => ?_
  have hle5 := Nat.le_trans e.size (Nat.le_of_eq hb5.symm)
  have lt5_B2 := B2.lt
  have lt5_B3 := B3.lt
  have lt5_B4 := B4.lt
  replace hT := hT.ext e'
  replace HV := Dv.ex HV e'
  replace e := Ext.tr e e'
  replace B2 := B2.ext e'
  replace B3 := B3.ext e'
  replace B4 := B4.ext e'
  clear e'
  refine tl_nil ?_
  simp only [Value.cells, zeroC] at B5
  have l2 := B2.lt
  have l3 := B3.lt
  have l4 := B4.lt
  have n5 : b5 ≠ b2 ∧ b5 ≠ b3 ∧ b5 ≠ b4 ∧ b4 ≠ b3 ∧ b4 ≠ b2 ∧ W.heap.size ≤ b5 ∧ W.heap.size ≤ b4 := by omega
  replace hf := hf.keep [2, 3, 4, 5]
  dsimp only [keep, List.filterMap, look, Nat.beq, Option.map] at hf
  obtain ⟨Nz, hNz⟩ : ∃ Nz, Nz = w.heap.size := ⟨_, rfl⟩
  repeat refine seq ?_
  refine regn 2 hf (by decide +kernel) ?_
  refine st (ldW T37 rfl B3 rfl) ?_
  refine st (call1 (A := SeqA Nz part) En106 rfl (fun v w' he h => by cases h; exact Calls.mono (all_spec _ w') (fun en w2 ⟨u, h1, h2, b', h3, h4, h5⟩ => ⟨u, h1, h2, b', by have := he.size; omega, h4, h5⟩))) ?_
  refine en fun a w e' hf => ?_
  replace hT := hT.ext e'
  replace HV := Dv.ex HV e'
  replace e := Ext.tr e e'
  replace B2 := B2.ext e'
  replace B3 := B3.ext e'
  replace B4 := B4.ext e'
  replace B5 := B5.ext e'
  clear e'
  refine tl_nil ?_
  obtain ⟨v, ⟨b8, h8, rfl, BS⟩, hf⟩ := hf.fix 8 rfl
  replace hf := hf.keep [2, 3, 4, 5, 8]
  dsimp only [keep, List.filterMap, look, Nat.beq, Option.map] at hf
  have hBW : W.heap.size ≤ w.heap.size := e.size
  have h0w : 0 < w.heap.size := hT.lt
  have kL : LtL w.heap.size [(b2, #[fv], 125), (b3, setC part, 37), (b4, setC 0, 37), (b5, setC 0, 37)] := ⟨B2.lt, B3.lt, B4.lt, B5.lt, trivial⟩
  have l5' := B5.lt
  repeat refine seq ?_
  refine blk ?_
  refine range_all3 (S := part) hf rfl BS (by decide) (fun s w1 => RJ W fs fv [(b2, #[fv], 125), (b3, setC part, 37), (b4, setC 0, 37), (b5, setC (outTo fs s), 37)] [] w1) (fun _ _ => False) (fun s w1 h => h.t)
    ⟨e, hT, HV, ⟨B2, B3, B4, B5, trivial⟩, Ds.nil _⟩ (fun s w1 w2 h hs k => h.kp k hBW h0w ⟨kL.1, kL.2.1, kL.2.2.1, kL.2.2.2.1, trivial⟩ (fun d hd => by cases hd)) (fun _ _ _ h => h.elim) ?_ ?_ (fun _ _ _ _ _ _ h => h.elim)
  · intro l s x rest a1 w1 hs hJ hlw hf
    have hx : x < fs.length := hp x (by rw [hs]; simp)
    generalize hBz : w.heap.size = Bz at *
    refine regn0 ?_
    refine tl_as hf rfl (by decide) fun a hf => ?_
    refine tl_nil ?_
    simp only [Exit.then]
    refine ⟨Kh.rfl' _ _, fun w3 k3 hsz3 => ?_⟩
    have hJ3 := hJ.kp k3 hBW h0w ⟨kL.1, kL.2.1, kL.2.2.1, kL.2.2.2.1, trivial⟩ (fun d hd => by cases hd)
    clear e hT HV B2 B3 B4 B5 BS
    replace hf := hf.pure w3
    obtain ⟨e, hT, HV, ⟨B2, B3, B4, B5, _⟩, _⟩ := hJ3
    have kh := Kh.rfl' Bz w3
    replace hf := hf.keep [2, 5, 6]
    dsimp only [keep, List.filterMap, look, Nat.beq, Option.map] at hf
    repeat refine seq ?_
    refine blk ?_
    repeat refine seq ?_
    refine reg 6 Mix.mix hf (by decide +kernel) ?_
    refine st (ldW T37 rfl B5 rfl) ?_
    refine st (ld1 (v := fv) T125 rfl B2 rfl) ?_
    refine st (mv rfl) ?_
    refine st (idxD Tryd.underlying125 S37 (isE rfl HV) rfl (by omega) (sg_get hx)) ?_
    refine st (ldS T37 (isR rfl)) ?_
    refine st (call2 En80 rfl rfl (fun v u w he h h' => by cases h; cases h'; exact union_spec _ _ w)) ?_
    refine en fun a w e' hf => ?_
    replace hT := hT.ext e'
    replace HV := Dv.ex HV e'
    replace kh := kh.tr (Kh.ext e')
    replace e := Ext.tr e e'
    replace B2 := B2.ext e'
    replace B3 := B3.ext e'
    replace B4 := B4.ext e'
    replace B5 := B5.ext e'
    clear e'
    haveI hinr : ∀ G0, InR (GB W G0) (some b5) := fun G0 => InR.gb (by omega)
    refine tl_stW T37 hf rfl rfl (wordsC_one _) B5 rfl (rfl) fun w hg hsz B5 hf => ?_
    replace hT := hT.gr hg (by omega)
    replace HV := Dv.gr HV hg (.inr (by omega))
    replace kh := kh.tr (Kh.gr hg (fun hh => by have := hh.1; omega))
    replace e := e.gr hg (by omega)
    replace B2 := B2.gr hg (by omega)
    replace B3 := B3.gr hg (by omega)
    replace B4 := B4.gr hg (by omega)
    clear hg
    refine tl_nil ?_
    simp only [Exit.inBlock]
    exact ⟨⟨e, hT, HV, ⟨B2, B3, B4, by rw [outTo, List.foldl_append, List.foldl_cons, List.foldl_nil]; exact B5, trivial⟩, Ds.nil _⟩, kh⟩
  · intro a' w' hf' hJ hsz hDn
    simp only [Exit.inBlock, ↓reduceIte, Exit.then]
    have hD : Ds [w.heap.size] w' := (Ds.nil w').cons hDn (by simp)
    have hf : FrD 19 (marks [w.heap.size]) a' w' [(2, E (.pointer (some ⟨b2, 0, none⟩))), (3, E (.pointer (some ⟨b3, 0, none⟩))), (4, E (.pointer (some ⟨b4, 0, none⟩))), (5, E (.pointer (some ⟨b5, 0, none⟩)))] := hf'.keep [2, 3, 4, 5]
    have hDW : ∀ d ∈ [w.heap.size], W.heap.size ≤ d := fun d hd => by rw [List.mem_singleton] at hd; omega
    clear hf' e hT HV B2 B3 B4 B5 BS hDn
    obtain ⟨e, hT, HV, ⟨B2, B3, B4, B5, _⟩, _⟩ := hJ
    generalize [w.heap.size] = D2 at *
    generalize w' = w at *
    have hD4 : ¬ b4 ∈ D2 := hD.ne B4
    repeat refine seq ?_
    refine regn 3 hf (by decide +kernel) ?_
    refine st (ldW T37 rfl B5 rfl) ?_
    refine st (ldW T37 rfl B3 rfl) ?_
    refine st (call2 En105 rfl rfl (fun v u w he h h' => by cases h; cases h'; exact minus_spec _ _ w)) ?_
    refine en fun a w e' hf => ?_
    replace e := Ext.tr e e'
    replace B2 := B2.ext e'
    replace B3 := B3.ext e'
    replace B4 := B4.ext e'
    replace B5 := B5.ext e'
    replace hD := hD.ext e'
    clear e'
    refine tl_stW T37 hf rfl rfl (wordsC_one _) B4 rfl (setC_size _) fun w hg hsz B4 hf => ?_
    replace e := e.gr hg (by omega)
    replace hD := hD.gr hg hD4
    clear hg
    refine tl_nil ?_
    refine wret ?_
    try simp only [Exit.then, Exit.inBlock]
    exact retcM rfl T37 hf rfl B4 (setC_size _) hD ⟨_, rfl, e.shut hDW, rfl⟩
end Go.Mono

set_option linter.unusedVariables false
set_option linter.unusedSimpArgs false
namespace Go.Mono

/-- the parts that are left without a bag -/
def partsB (fs : List BS) (left : BS) : List BS := (splitF fs (1 + fs.length) left).getD []
def mostB (fs : List BS) (part : BS) (n : Nat) : Nat := (partsB fs (del part (n : Int))).foldl (fun m C => max m (card C)) 0
def cenStep (fs : List BS) (part : BS) (s : Int × Int) (n : Nat) : Int × Int := if s.1 < 0 ∨ (mostB fs part n : Int) < s.2 then ((n : Int), (mostB fs part n : Int)) else s
def cenTo (fs : List BS) (part : BS) (s : List Nat) : Int × Int := s.foldl (cenStep fs part) (-1, 0)
def cenB (fs : List BS) (part : BS) : Nat := (cenTo fs part (elems part)).1.toNat

def pathF (fs : List BS) (part : BS) (to : Nat) : Nat → BS → Nat → Option BS
  | 0, r, x => if x = to then some r else none
  | f + 1, r, x => if x = to then some r else
      oEl ((elems ((sg fs x &&& part) &&& ~~~r)).find? fun n => (compB fs (del part (x : Int)) n).getLsbD to) none fun n => pathF fs part to f (ins r (n : Int)) n
def pathB (fs : List BS) (part : BS) (x y : Nat) : BS := (pathF fs part y (1 + fs.length) (ins 0 (x : Int)) x).getD 0

/-- the bag of a part that is next to a bag outside -/
def endB (fs : List BS) (part : BS) (n : Nat) : Nat := (minOf (sg fs n &&& part)).getD 0
def splP (fs : List BS) (part between : BS) (c n : Nat) : Bool := between.getLsbD n && decide (card (pathB fs part c n &&& between) = 1)
def splB (fs : List BS) (part out : BS) : Nat :=
  if card out < 2 then cenB fs part
  else match (elems out).map (endB fs part) with
    | e0 :: e1 :: _ => ((elems (pathB fs part (cenB fs part) e0)).find? (splP fs part (pathB fs part e0 e1) (cenB fs part))).getD (cenB fs part)
    | _ => cenB fs part

section
variable {fs : List BS} {T : Tr} {part : BS}

/-! ### paths -/
theorem P_adj {x k i : Nat} (hx : x < T.n) (hk : k < T.n) (h : T.adj k x) (hP : T.P i x k) : i = x ∨ i = k := by
  apply Classical.byContradiction
  intro hn
  exact hP (Tr.cn.of_adj hx hk ⟨hx, fun e => hn (.inl e.symm)⟩ ⟨hk, fun e => hn (.inr e.symm)⟩ h.symm)
theorem find_one {p : Nat → Bool} {k : Nat} : ∀ {l : List Nat}, k ∈ l → p k = true → (∀ n ∈ l, p n = true → n = k) → l.find? p = some k
  | [], h, _, _ => by cases h
  | x :: l, h, hk, h1 => by
    rw [List.find?_cons]
    cases hx : p x with
    | true => rw [h1 x (by simp) hx]
    | false =>
      rcases List.mem_cons.1 h with rfl | h
      · rw [hk] at hx; cases hx
      · exact find_one h hk fun n hn => h1 n (by simp [hn])
theorem path_next (F : Fo fs T) (hin : ∀ i, part.getLsbD i = true → i < T.n) (hC : T.conn (bits part)) {x y z : Nat} {r : BS} (hx : part.getLsbD x = true) (hy : part.getLsbD y = true) (hz : part.getLsbD z = true) (hr : ∀ i, r.getLsbD i = true ↔ T.P i x z) (hP : T.P z x y) (hne : z ≠ y) :
    ∃ k, (elems ((sg fs z &&& part) &&& ~~~r)).find? (fun n => (compB fs (del part (z : Int)) n).getLsbD y) = some k ∧ part.getLsbD k = true ∧ (∀ i, (ins r (k : Int)).getLsbD i = true ↔ T.P i x k) ∧ T.P k x y ∧ T.dist k y < T.dist z y := by
  have hxn := hin x hx
  have hyn := hin y hy
  have hzn := hin z hz
  have hle := F.le
  obtain ⟨k, k1, k2⟩ := Tr.hop hC hzn hyn hz hy (Ne.symm hne)
  have hkp : part.getLsbD k = true := k2.2.2.1.1
  have hkn := k2.1
  have hV : T.cn (Tr.wo (fun i => i < T.n) z) k y := k2.mono fun i hi h => ⟨hi, h.2⟩
  have p1 : T.P k z y := Tr.hop_P hzn k1 hV
  have p2 : T.P k x y := hP.sub' p1
  have p3 : T.P z x k := (hP.split k).resolve_right fun h => h hV
  have hkz : k ≠ z := k2.2.2.1.2
  have hdel : ∀ i, (del part (z : Int)).getLsbD i = true ↔ part.getLsbD i = true ∧ i ≠ z := fun i => bit_del part (by omega)
  have hbits : (bits (del part (z : Int))) = Tr.wo (bits part) z := by funext i; exact propext (hdel i)
  have hind : ∀ i, (del part (z : Int)).getLsbD i = true → i < T.n := fun i hi => hin i ((hdel i).1 hi).1
  have hcand : ∀ n, n ∈ elems ((sg fs z &&& part) &&& ~~~r) ↔ T.adj z n ∧ part.getLsbD n = true ∧ ¬r.getLsbD n = true := fun n => by
    rw [mem_elems, bit_diff, bit_and, F.adj hzn]
    constructor
    · rintro ⟨_, ⟨⟨_, h1⟩, h2⟩, h3⟩; exact ⟨h1, h2, h3⟩
    · rintro ⟨h1, h2, h3⟩; exact ⟨bit_lt h2, ⟨⟨hin n h2, h1⟩, h2⟩, h3⟩
  have hcmp : ∀ n, T.adj z n → part.getLsbD n = true → ((compB fs (del part (z : Int)) n).getLsbD y = true ↔ T.cn (Tr.wo (bits part) z) n y) := fun n hn hp => by
    have hnd : (del part (z : Int)).getLsbD n = true := (hdel n).2 ⟨hp, fun e => (hn.ne hzn) e.symm⟩
    rw [(comp_some F hind hnd).2 y, hbits]
  refine ⟨k, find_one ((hcand k).2 ⟨k1.symm, hkp, fun h => hkz (Tr.P.meet hxn hyn hP ((hr k).1 h) p1)⟩) ((hcmp k k1.symm hkp).2 k2) (fun n hn hpn => ?_), hkp, fun i => ?_, p2, ?_⟩
  · obtain ⟨h1, h2, _⟩ := (hcand n).1 hn
    exact Tr.hop_one hzn h1.symm k1 (((hcmp n h1 h2).1 hpn).trans k2.symm)
  · rw [bit_ins r (by omega), hr]
    constructor
    · rintro (h | rfl)
      · exact p3.sub h
      · exact Tr.P.right
    · intro h
      rcases h.split z with h | h
      · exact .inl h
      · rcases P_adj hzn hkn k1 h with rfl | rfl
        · exact .inl Tr.P.right
        · exact .inr rfl
  · exact Tr.dist_lt hzn (fun u _ hu => p1.sub' hu) Tr.P.left fun h => h hV
theorem pathF_ok (F : Fo fs T) (hin : ∀ i, part.getLsbD i = true → i < T.n) (hC : T.conn (bits part)) {x y : Nat} (hx : part.getLsbD x = true) (hy : part.getLsbD y = true) : ∀ (f : Nat) (r : BS) (z : Nat), part.getLsbD z = true → (∀ i, r.getLsbD i = true ↔ T.P i x z) → T.P z x y → T.dist z y ≤ f →
    ∃ Z, pathF fs part y f r z = some Z ∧ ∀ i, Z.getLsbD i = true ↔ T.P i x y := by
  intro f
  induction f with
  | zero =>
    intro r z hz hr hP hd
    by_cases h : z = y
    · subst h; exact ⟨r, by rw [pathF, if_pos rfl], hr⟩
    · obtain ⟨k, _, _, _, _, h5⟩ := path_next F hin hC hx hy hz hr hP h
      omega
  | succ f ih =>
    intro r z hz hr hP hd
    by_cases h : z = y
    · subst h; exact ⟨r, by rw [pathF, if_pos rfl], hr⟩
    · obtain ⟨k, h1, h2, h3, h4, h5⟩ := path_next F hin hC hx hy hz hr hP h
      obtain ⟨Z, h6, h7⟩ := ih _ k h2 h3 h4 (by omega)
      exact ⟨Z, by rw [pathF, if_neg h, h1, oEl]; exact h6, h7⟩
theorem dist_le (x y : Nat) : T.dist x y ≤ T.n := by
  unfold Tr.dist
  have := List.countP_le_length (p := fun z => @decide (T.P z x y) (Classical.propDecidable _)) (l := List.range T.n)
  rwa [List.length_range] at this
theorem P_self {i x : Nat} (hx : x < T.n) : T.P i x x ↔ i = x := by
  constructor
  · intro h
    apply Classical.byContradiction
    intro hn
    exact h (Tr.cn.refl hx ⟨hx, Ne.symm hn⟩)
  · rintro rfl; exact Tr.P.left
theorem path_some (F : Fo fs T) (hin : ∀ i, part.getLsbD i = true → i < T.n) (hC : T.conn (bits part)) {x y : Nat} (hx : part.getLsbD x = true) (hy : part.getLsbD y = true) :
    pathF fs part y (1 + fs.length) (ins 0 (x : Int)) x = some (pathB fs part x y) ∧ ∀ i, (pathB fs part x y).getLsbD i = true ↔ T.P i x y := by
  have hle := F.le
  have hd := dist_le (T := T) x y
  obtain ⟨Z, h1, h2⟩ := pathF_ok F hin hC hx hy (1 + fs.length) (ins 0 (x : Int)) x hx (fun i => by
    rw [bit_ins 0 (by have := hin x hx; omega), P_self (hin x hx)]
    exact ⟨fun h => h.resolve_left (bit_zero i), .inr⟩) Tr.P.left (by have := F.len; omega)
  have : pathB fs part x y = Z := by rw [pathB, h1]; rfl
  rw [this]
  exact ⟨h1, h2⟩
theorem path_in (F : Fo fs T) (hin : ∀ i, part.getLsbD i = true → i < T.n) (hC : T.conn (bits part)) {x y i : Nat} (hx : part.getLsbD x = true) (hy : part.getLsbD y = true) (h : (pathB fs part x y).getLsbD i = true) : part.getLsbD i = true :=
  Tr.P.mem hC (hin x hx) (hin y hy) hx hy (((path_some F hin hC hx hy).2 i).1 h)

/-! ### parts -/
theorem del_in (hin : ∀ i, part.getLsbD i = true → i < T.n) (z : Int) : ∀ i, (del part z).getLsbD i = true → i < T.n := fun i h => by
  unfold del at h
  split at h
  · exact hin i ((bit_diff _ _ i).1 h).1
  · exact hin i h
theorem parts_some (F : Fo fs T) {left : BS} (hin : ∀ i, left.getLsbD i = true → i < T.n) : splitF fs (1 + fs.length) left = some (partsB fs left) ∧ (partsB fs left).length ≤ card left ∧ (∀ C ∈ partsB fs left, ∃ k, left.getLsbD k = true ∧ C = compB fs left k) ∧ ∀ k, left.getLsbD k = true → compB fs left k ∈ partsB fs left := by
  have hle := F.le
  have := card_le_n hin
  obtain ⟨l, h1, h2⟩ := splitF_ok F (1 + fs.length) left hin (by have := F.len; omega)
  have e : partsB fs left = l := by rw [partsB, h1]; rfl
  rw [e]
  exact ⟨h1, h2⟩
theorem foldl_max (f : BS → Nat) : ∀ (l : List BS) (m : Nat), m ≤ l.foldl (fun m C => max m (f C)) m ∧ (∀ C ∈ l, f C ≤ l.foldl (fun m C => max m (f C)) m) ∧ ∀ b, m ≤ b → (∀ C ∈ l, f C ≤ b) → l.foldl (fun m C => max m (f C)) m ≤ b
  | [], m => ⟨Nat.le_refl _, by simp, fun b h _ => h⟩
  | C :: l, m => by
    obtain ⟨h1, h2, h3⟩ := foldl_max f l (max m (f C))
    rw [List.foldl_cons]
    refine ⟨by omega, fun D hD => ?_, fun b hm hb => h3 b (by have := hb C (by simp); omega) fun D hD => hb D (by simp [hD])⟩
    rcases List.mem_cons.1 hD with rfl | hD
    · omega
    · exact h2 D hD
theorem most_le (F : Fo fs T) (hin : ∀ i, part.getLsbD i = true → i < T.n) (n : Nat) : mostB fs part n ≤ 1024 := by
  refine (foldl_max card _ 0).2.2 1024 (by omega) fun C _ => ?_
  exact card_le_n fun i hi => bit_lt hi

/-! ### the centre -/
theorem cen_inv (fs : List BS) (part : BS) : ∀ (l : List Nat) (s : Int × Int), (0 ≤ s.1 → ∃ n : Nat, s.1 = (n : Int) ∧ s.2 = (mostB fs part n : Int)) →
    (l ≠ [] ∨ 0 ≤ s.1) → ∃ n : Nat, (l.foldl (cenStep fs part) s).1 = (n : Int) ∧ (n ∈ l ∨ s.1 = (n : Int)) ∧ (l.foldl (cenStep fs part) s).2 = (mostB fs part n : Int) ∧ (∀ m ∈ l, mostB fs part n ≤ mostB fs part m) ∧ (0 ≤ s.1 → (mostB fs part n : Int) ≤ s.2)
  | [], s, h, h0 => by
    have h1 := h0.resolve_left (by simp)
    obtain ⟨n, h2, h3⟩ := h h1
    exact ⟨n, h2, .inr h2, h3, by simp, fun _ => by omega⟩
  | m :: l, s, h, _ => by
    rw [List.foldl_cons]
    by_cases hc : s.1 < 0 ∨ (mostB fs part m : Int) < s.2
    · have e : cenStep fs part s m = ((m : Int), (mostB fs part m : Int)) := if_pos hc
      obtain ⟨n, h1, h2, h3, h4, h5⟩ := cen_inv fs part l (cenStep fs part s m) (fun _ => ⟨m, by rw [e], by rw [e]⟩) (.inr (by rw [e]; exact Int.natCast_nonneg m))
      have h5' := h5 (by rw [e]; exact Int.natCast_nonneg m)
      rw [e] at h5' h2
      refine ⟨n, h1, .inl ?_, h3, fun x hx => ?_, fun h0 => ?_⟩
      · rcases h2 with h2 | h2
        · exact List.mem_cons_of_mem _ h2
        · simp only at h2
          have : n = m := by omega
          subst this; simp
      · rcases List.mem_cons.1 hx with rfl | hx
        · simp only at h5'; omega
        · exact h4 x hx
      · simp only at h5'; omega
    · have e : cenStep fs part s m = s := if_neg hc
      have h0 : 0 ≤ s.1 := by omega
      have hs : ¬(mostB fs part m : Int) < s.2 := fun h => hc (.inr h)
      rw [e]
      obtain ⟨n, h1, h2, h3, h4, h5⟩ := cen_inv fs part l s h (.inr h0)
      have := h5 h0
      refine ⟨n, h1, h2.imp (List.mem_cons_of_mem _) id, h3, fun x hx => ?_, fun _ => this⟩
      rcases List.mem_cons.1 hx with rfl | hx
      · omega
      · exact h4 x hx
theorem cen_ok {p : Nat} (hp : part.getLsbD p = true) : part.getLsbD (cenB fs part) = true ∧ (cenTo fs part (elems part)).1 = (cenB fs part : Int) ∧ ∀ m, part.getLsbD m = true → mostB fs part (cenB fs part) ≤ mostB fs part m := by
  have hpe := mem_elems.2 ⟨bit_lt hp, hp⟩
  obtain ⟨n, h1, h2, h3, h4, _⟩ := cen_inv fs part (elems part) (-1, 0) (fun h => by simp at h) (.inl (List.ne_nil_of_mem hpe))
  have e : cenB fs part = n := by
    show (List.foldl (cenStep fs part) (-1, 0) (elems part)).1.toNat = n
    rw [h1]; exact Int.toNat_natCast n
  rw [e]
  refine ⟨?_, h1, fun m hm => h4 m (mem_elems.2 ⟨bit_lt hm, hm⟩)⟩
  rcases h2 with h2 | h2
  · exact (mem_elems.1 h2).2
  · simp only at h2; omega
/-- THE CENTRE HALVES -/
theorem cen_half (F : Fo fs T) (hin : ∀ i, part.getLsbD i = true → i < T.n) (hC : T.conn (bits part)) {p : Nat} (hp : part.getLsbD p = true) : 2 * mostB fs part (cenB fs part) ≤ card part := by
  apply Classical.byContradiction
  intro hbig
  obtain ⟨hc, _, hmin⟩ := cen_ok (fs := fs) hp
  generalize cenB fs part = c at *
  have hcn := hin c hc
  have hle := F.le
  have hdel : ∀ z, z < T.n → ∀ i, (del part (z : Int)).getLsbD i = true ↔ part.getLsbD i = true ∧ i ≠ z := fun z hz i => bit_del part (by omega)
  have hbits : ∀ z, z < T.n → (bits (del part (z : Int))) = Tr.wo (bits part) z := fun z hz => by funext i; exact propext (hdel z hz i)
  have hpt := parts_some F (del_in (part := part) hin (c : Int))
  -- a component that is too large
  have hex : ∃ C ∈ partsB fs (del part (c : Int)), card part < 2 * card C := by
    apply Classical.byContradiction
    intro hn
    have := (foldl_max card (partsB fs (del part (c : Int))) 0).2.2 (card part / 2) (by omega) fun C hC => by
      have : ¬card part < 2 * card C := fun h => hn ⟨C, hC, h⟩
      omega
    change mostB fs part c ≤ _ at this
    omega
  obtain ⟨C, hCm, hCbig⟩ := hex
  have hCle := (foldl_max card (partsB fs (del part (c : Int))) 0).2.1 C hCm
  change card C ≤ mostB fs part c at hCle
  obtain ⟨x, hx, rfl⟩ := hpt.2.2.1 C hCm
  have hx' := (hdel c hcn x).1 hx
  have hxn := hin x hx'.1
  obtain ⟨k, k1, k2⟩ := Tr.hop hC hcn hxn hc hx'.1 hx'.2
  have hkp : part.getLsbD k = true := k2.2.2.1.1
  have hkc : k ≠ c := k2.2.2.1.2
  have hkn := k2.1
  have hCx : ∀ i, (compB fs (del part (c : Int)) x).getLsbD i = true ↔ T.cn (Tr.wo (bits part) c) x i := fun i => by
    rw [(comp_some F (del_in hin _) hx).2 i, hbits c hcn]
  -- each part without k is smaller
  have hsmall : ∀ D ∈ partsB fs (del part (k : Int)), card D < card (compB fs (del part (c : Int)) x) := by
    intro D hD
    obtain ⟨z, hz, rfl⟩ := (parts_some F (del_in (part := part) hin (k : Int))).2.2.1 D hD
    have hz' := (hdel k hkn z).1 hz
    have hDz : ∀ i, (compB fs (del part (k : Int)) z).getLsbD i = true ↔ T.cn (Tr.wo (bits part) k) z i := fun i => by
      rw [(comp_some F (del_in hin _) hz).2 i, hbits k hkn]
    by_cases hcz : T.cn (Tr.wo (bits part) k) z c
    · have hd : ∀ i, ¬((compB fs (del part (k : Int)) z).getLsbD i = true ∧ (compB fs (del part (c : Int)) x).getLsbD i = true) := by
        rintro i ⟨h1, h2⟩
        have h1' := (hDz i).1 h1
        have h2' := (hCx i).1 h2
        have h3 : T.cn (Tr.wo (fun i => i < T.n) c) k i := (k2.trans h2').mono fun j hj h => ⟨hj, h.2⟩
        exact Tr.hop_P hcn k1 h3 ((hcz.symm.trans h1').mono fun j hj h => ⟨hj, h.2⟩)
      have hu := card_add (bit_or (compB fs (del part (k : Int)) z) (compB fs (del part (c : Int)) x)) hd
      have : card (compB fs (del part (k : Int)) z ||| compB fs (del part (c : Int)) x) ≤ card part := card_mono fun i hi => by
        rcases (bit_or _ _ i).1 hi with h | h
        · exact ((hDz i).1 h).2.2.2.1.1
        · exact ((hCx i).1 h).2.2.2.1.1
      omega
    · refine card_lt (z := k) (fun i hi => ?_) ((hCx k).2 k2.symm) (fun h => ((hDz k).1 h).2.2.2.1.2 rfl)
      have h1 := (hDz i).1 hi
      have hin' : part.getLsbD i = true := h1.2.2.2.1.1
      have hic : i ≠ c := fun e => hcz (by rw [← e]; exact h1)
      rw [hCx]
      apply Classical.byContradiction
      intro hn
      have hPc : T.P c k i := (Classical.byContradiction fun h => hn (k2.symm.trans ((Tr.cn_wo hC hkn h1.2.1 hkp hin').2 h)))
      have h4 := Tr.around hcn h1.2.1 hkc hPc hkn
      exact hcz (h1.trans ((Tr.cn_wo hC h1.2.1 hcn hin' hc).2 h4))
  have := (foldl_max card (partsB fs (del part (k : Int))) 0).2.2 (card (compB fs (del part (c : Int)) x) - 1) (by omega) fun D hD => by have := hsmall D hD; omega
  change mostB fs part k ≤ _ at this
  have := hmin k hkp
  have : 0 < card (compB fs (del part (c : Int)) x) := card_pos ((hCx k).2 k2.symm)
  omega
end
end Go.Mono

set_option linter.unusedVariables false
set_option linter.unusedSimpArgs false
namespace Go.Mono

section
variable {fs : List BS} {T : Tr} {part : BS}

theorem outTo_bit (i : Nat) : ∀ (s : List Nat) (r : BS), (s.foldl (fun r n => r ||| sg fs n) r).getLsbD i = true ↔ r.getLsbD i = true ∨ ∃ n ∈ s, (sg fs n).getLsbD i = true
  | [], r => by simp
  | n :: s, r => by
    rw [List.foldl_cons, outTo_bit i s, bit_or]
    constructor
    · rintro ((h | h) | ⟨m, hm, h⟩)
      · exact .inl h
      · exact .inr ⟨n, by simp, h⟩
      · exact .inr ⟨m, by simp [hm], h⟩
    · rintro (h | ⟨m, hm, h⟩)
      · exact .inl (.inl h)
      · rcases List.mem_cons.1 hm with rfl | hm
        · exact .inl (.inr h)
        · exact .inr ⟨m, hm, h⟩
theorem out_bit (F : Fo fs T) (hin : ∀ i, part.getLsbD i = true → i < T.n) (i : Nat) : (outM fs part).getLsbD i = true ↔ i < T.n ∧ ¬part.getLsbD i = true ∧ ∃ j, part.getLsbD j = true ∧ T.adj j i := by
  rw [outM, bit_diff, outTo, outTo_bit]
  constructor
  · rintro ⟨h | ⟨j, hj, h⟩, h2⟩
    · exact absurd h (bit_zero i)
    · have hj' := (mem_elems.1 hj).2
      have := (F.adj (hin j hj')).1 h
      exact ⟨this.1, h2, j, hj', this.2⟩
  · rintro ⟨h1, h2, j, hj, h⟩
    exact ⟨.inr ⟨j, mem_elems.2 ⟨bit_lt hj, hj⟩, (F.adj (hin j hj)).2 ⟨h1, h⟩⟩, h2⟩
/-- the end of the part beside a bag outside -/
theorem end_ok (F : Fo fs T) (hin : ∀ i, part.getLsbD i = true → i < T.n) (hC : T.conn (bits part)) {b : Nat} (hb : (outM fs part).getLsbD b = true) :
    part.getLsbD (endB fs part b) = true ∧ T.adj (endB fs part b) b ∧ ∀ j, part.getLsbD j = true → T.adj j b → j = endB fs part b := by
  obtain ⟨hbn, hbp, j, hj, hjb⟩ := (out_bit F hin b).1 hb
  have hbit : (sg fs b &&& part).getLsbD j = true := (bit_and _ _ j).2 ⟨(F.adj hbn).2 ⟨hin j hj, hjb.symm⟩, hj⟩
  obtain ⟨k, hk, _⟩ := minOf_is hbit
  have hk2 := (bit_and _ _ k).1 (minOf_mem hk)
  have e : endB fs part b = k := by rw [endB, hk]; rfl
  rw [e]
  have hkb : T.adj k b := ((F.adj hbn).1 hk2.1).2.symm
  exact ⟨hk2.2, hkb, fun x hx hxb => hC.nb hbn hbp (hin x hx) (hin k hk2.2) hx hk2.2 hxb hkb⟩
theorem card_two {S : BS} (h : ¬card S < 2) : ∃ a b l, elems S = a :: b :: l ∧ a ≠ b ∧ S.getLsbD a = true ∧ S.getLsbD b = true := by
  rw [← card_elems] at h
  have hn : (elems S).Nodup := List.Nodup.sublist List.filter_sublist List.nodup_range
  match hl : elems S with
  | [] => rw [hl] at h; simp at h
  | [a] => rw [hl] at h; simp at h
  | a :: b :: l =>
    rw [hl] at hn
    exact ⟨a, b, l, rfl, fun e => by subst e; simp at hn, (mem_elems.1 (by rw [hl]; simp)).2, (mem_elems.1 (by rw [hl]; simp)).2⟩
/-- what is asked of the splitter -/
structure Spl (fs : List BS) (T : Tr) (part : BS) (s : Nat) : Prop where
  mem : part.getLsbD s = true
  one : card (outM fs part) < 2 → s = cenB fs part
  two : ∀ {a b l}, elems (outM fs part) = a :: b :: l → T.P s (endB fs part a) (endB fs part b) ∧ T.P s (endB fs part a) (cenB fs part) ∧ T.P s (endB fs part b) (cenB fs part)
theorem card_sub_one {S : BS} {a b : Nat} (h : card S = 1) (ha : S.getLsbD a = true) (hb : S.getLsbD b = true) : a = b := by
  rw [← card_elems] at h
  match hl : elems S with
  | [] => rw [hl] at h; simp at h
  | [x] =>
    have h1 := mem_elems.2 ⟨bit_lt ha, ha⟩
    have h2 := mem_elems.2 ⟨bit_lt hb, hb⟩
    rw [hl] at h1 h2
    simp at h1 h2
    omega
  | x :: y :: l => rw [hl] at h; simp at h
/-- the one bag of the path between two bags that the search for the splitter takes -/
theorem near_card (F : Fo fs T) (hin : ∀ i, part.getLsbD i = true → i < T.n) (hC : T.conn (bits part)) {x y c m n : Nat} (hx : part.getLsbD x = true) (hy : part.getLsbD y = true) (hc : part.getLsbD c = true)
    (h1 : T.P m x y) (h2 : T.P m x c) (h3 : T.P m y c) (hn : part.getLsbD n = true) : splP fs part (pathB fs part x y) c n = true ↔ n = m := by
  have hxn := hin x hx
  have hyn := hin y hy
  have hcn := hin c hc
  have hm : part.getLsbD m = true := Tr.P.mem hC hxn hyn hx hy h1
  have pb := fun i => (path_some F hin hC hx hy).2 i
  rw [splP, Bool.and_eq_true, decide_eq_true_eq, pb]
  constructor
  · rintro ⟨h4, h5⟩
    have hmn : T.P m n c := Tr.near hxn hyn hcn h1 h2 h3 h4
    exact card_sub_one h5 ((bit_and _ _ n).2 ⟨((path_some F hin hC hc hn).2 n).2 Tr.P.right, (pb n).2 h4⟩) ((bit_and _ _ m).2 ⟨((path_some F hin hC hc hn).2 m).2 hmn.symm, (pb m).2 h1⟩)
  · rintro rfl
    refine ⟨h1, card_one (p := n) fun i => ?_⟩
    rw [bit_and, (path_some F hin hC hc hn).2 i, pb]
    constructor
    · rintro ⟨h4, h5⟩
      have := Tr.near hxn hyn hcn h1 h2 h3 h5
      exact (Tr.P.meet hcn (hin n hn) h4 this.symm Tr.P.right).symm
    · rintro rfl
      exact ⟨Tr.P.right, h1⟩
theorem spl_ok (F : Fo fs T) (hin : ∀ i, part.getLsbD i = true → i < T.n) (hC : T.conn (bits part)) {p : Nat} (hp : part.getLsbD p = true) : Spl fs T part (splB fs part (outM fs part)) := by
  obtain ⟨hc, _, _⟩ := cen_ok (fs := fs) hp
  by_cases hcard : card (outM fs part) < 2
  · have e : splB fs part (outM fs part) = cenB fs part := by rw [splB, if_pos hcard]
    rw [e]
    refine ⟨hc, fun _ => rfl, fun {a b l} h => ?_⟩
    have := card_elems (outM fs part)
    rw [h] at this
    simp at this
    omega
  · obtain ⟨a, b, l, he, hab, ha, hb⟩ := card_two hcard
    obtain ⟨a1, a2, a3⟩ := end_ok F hin hC ha
    obtain ⟨b1, b2, b3⟩ := end_ok F hin hC hb
    obtain ⟨m, m1, m2, m3⟩ := Tr.median (hin _ a1) (hin _ b1) (hin _ hc)
    have hm : part.getLsbD m = true := Tr.P.mem hC (hin _ a1) (hin _ b1) a1 b1 m1
    have hf : (elems (pathB fs part (cenB fs part) (endB fs part a))).find? (splP fs part (pathB fs part (endB fs part a) (endB fs part b)) (cenB fs part)) = some m := by
      have hpm : (pathB fs part (cenB fs part) (endB fs part a)).getLsbD m = true := ((path_some F hin hC hc a1).2 m).2 m2.symm
      refine find_one (mem_elems.2 ⟨bit_lt hpm, hpm⟩) ((near_card F hin hC a1 b1 hc m1 m2 m3 hm).2 rfl) fun n hn hpn => ?_
      have hn' := path_in F hin hC hc a1 (mem_elems.1 hn).2
      exact (near_card F hin hC a1 b1 hc m1 m2 m3 hn').1 hpn
    have e : splB fs part (outM fs part) = m := by
      rw [splB, if_neg hcard, he]
      simp only [List.map_cons, hf, Option.getD_some]
    rw [e]
    refine ⟨hm, fun h => absurd h hcard, fun {a' b' l'} h => ?_⟩
    rw [he] at h
    cases h
    exact ⟨m1, m2, m3⟩

/-! ### what is left of a part without a bag -/
structure Sub (fs : List BS) (T : Tr) (part : BS) (s : Nat) (C : BS) : Prop where
  ne : ∃ k, C.getLsbD k = true
  sub : ∀ i, C.getLsbD i = true → part.getLsbD i = true ∧ i ≠ s
  conn : T.conn (bits C)
  clo : ∀ i j, C.getLsbD i = true → part.getLsbD j = true → j ≠ s → T.adj i j → C.getLsbD j = true
theorem parts_sub (F : Fo fs T) (hin : ∀ i, part.getLsbD i = true → i < T.n) {s : Nat} (hs : s < T.n) {C : BS} (h : C ∈ partsB fs (del part (s : Int))) : Sub fs T part s C := by
  have hle := F.le
  have hdel : ∀ i, (del part (s : Int)).getLsbD i = true ↔ part.getLsbD i = true ∧ i ≠ s := fun i => bit_del part (by omega)
  obtain ⟨k, hk, rfl⟩ := (parts_some F (del_in (part := part) hin (s : Int))).2.2.1 C h
  have hb := (comp_some F (del_in hin _) hk).2
  refine ⟨⟨k, comp_self F (del_in hin _) hk⟩, fun i hi => (hdel i).1 (comp_sub F (del_in hin _) hk i hi), ?_, fun i j hi hj hjs hij => ?_⟩
  · have := Tr.conn_comp (T := T) (A := bits (del part (s : Int))) (x := k)
    have e : (fun y => T.cn (bits (del part (s : Int))) k y) = bits (compB fs (del part (s : Int)) k) := by
      funext y
      exact propext (hb y).symm
    rwa [e] at this
  · have h1 := (hb i).1 hi
    exact (hb j).2 (h1.trans (Tr.cn.of_adj h1.2.1 (hin j hj) h1.2.2.2.1 ((hdel j).2 ⟨hj, hjs⟩) hij))
theorem sub_out (F : Fo fs T) (hin : ∀ i, part.getLsbD i = true → i < T.n) {s : Nat} {C : BS} (h : Sub fs T part s C) {i : Nat} (hi : (outM fs C).getLsbD i = true) : i = s ∨ (outM fs part).getLsbD i = true := by
  obtain ⟨h1, h2, j, hj, hji⟩ := (out_bit F (fun i hi => hin i (h.sub i hi).1) i).1 hi
  by_cases his : i = s
  · exact .inl his
  · refine .inr ((out_bit F hin i).2 ⟨h1, fun hp => h2 (h.clo j i hj hp his hji), j, (h.sub j hj).1, hji⟩)
theorem sub_end (F : Fo fs T) (hin : ∀ i, part.getLsbD i = true → i < T.n) (hC : T.conn (bits part)) {s : Nat} {C : BS} (h : Sub fs T part s C) {b : Nat} (hb : (outM fs part).getLsbD b = true) (hb' : (outM fs C).getLsbD b = true) : C.getLsbD (endB fs part b) = true := by
  obtain ⟨h1, h2, j, hj, hji⟩ := (out_bit F (fun i hi => hin i (h.sub i hi).1) b).1 hb'
  rw [← (end_ok F hin hC hb).2.2 j (h.sub j hj).1 hji]; exact hj
theorem card_union_le {S A : BS} {s : Nat} (hs : s < 1024) (h : ∀ i, S.getLsbD i = true → i = s ∨ A.getLsbD i = true) : card S ≤ card A + 1 := by
  by_cases hA : A.getLsbD s = true
  · have : card S ≤ card A := card_mono fun i hi => by
      rcases h i hi with rfl | h
      · exact hA
      · exact h
    omega
  · have hone : ∀ i, (ins 0 (s : Int)).getLsbD i = true ↔ i = s := fun i => by
      rw [bit_ins 0 hs]; exact ⟨fun h => h.resolve_left (bit_zero i), .inr⟩
    have h1 := card_add (S := A) (T := ins 0 (s : Int)) (U := A ||| ins 0 (s : Int)) (bit_or _ _) (by
      rintro i ⟨h1, h2⟩
      rw [(hone i).1 h2] at h1
      exact hA h1)
    rw [card_one hone] at h1
    rw [← h1]
    exact card_mono fun i hi => (bit_or _ _ i).2 ((h i hi).elim (fun h => .inr ((hone i).2 h)) .inl)
/-- what is left has at most two bags outside, if it is split at the splitter -/
theorem sub_two (F : Fo fs T) (hin : ∀ i, part.getLsbD i = true → i < T.n) (hC : T.conn (bits part)) (h2 : card (outM fs part) ≤ 2) {s : Nat} (S : Spl fs T part s) {C : BS} (h : Sub fs T part s C) : card (outM fs C) ≤ 2 := by
  have hle := F.le
  have hs1 : s < 1024 := by have := hin s S.mem; omega
  have hsub := fun i => sub_out F hin h (i := i)
  by_cases hc : card (outM fs part) < 2
  · have := card_union_le hs1 fun i hi => hsub i hi
    omega
  · obtain ⟨a, b, l, he, hab, ha, hb⟩ := card_two hc
    have hl : l = [] := by
      have := card_elems (outM fs part)
      rw [he] at this
      simp at this
      exact List.eq_nil_of_length_eq_zero (by omega)
    have hall : ∀ i, (outM fs part).getLsbD i = true → i = a ∨ i = b := fun i hi => by
      have := mem_elems.2 ⟨bit_lt hi, hi⟩
      rw [he, hl] at this
      simpa using this
    have hnot : ¬((outM fs C).getLsbD a = true ∧ (outM fs C).getLsbD b = true) := by
      rintro ⟨h1, h2⟩
      have c1 := sub_end F hin hC h ha h1
      have c2 := sub_end F hin hC h hb h2
      have := h.conn _ _ (hin _ (h.sub _ c1).1) (hin _ (h.sub _ c2).1) c1 c2
      refine (S.two he).1 (this.mono fun i hi hh => ⟨hi, (h.sub i hh).2⟩)
    have hone : ∀ x, (outM fs part).getLsbD x = true → ∀ i, (ins 0 (x : Int)).getLsbD i = true ↔ i = x := fun x hx i => by
      rw [bit_ins 0 (bit_lt hx)]; exact ⟨fun h => h.resolve_left (bit_zero i), .inr⟩
    by_cases hCa : (outM fs C).getLsbD a = true
    · have := card_union_le (S := outM fs C) (A := ins 0 (a : Int)) hs1 fun i hi => by
        rcases hsub i hi with h | h
        · exact .inl h
        · rcases hall i h with rfl | rfl
          · exact .inr ((hone i ha i).2 rfl)
          · exact absurd ⟨hCa, hi⟩ hnot
      rw [card_one (hone a ha)] at this
      omega
    · have := card_union_le (S := outM fs C) (A := ins 0 (b : Int)) hs1 fun i hi => by
        rcases hsub i hi with h | h
        · exact .inl h
        · rcases hall i h with rfl | rfl
          · exact absurd hi hCa
          · exact .inr ((hone i hb i).2 rfl)
      rw [card_one (hone b hb)] at this
      omega
/-- .. it is at most half as large, or it has one bag outside -/
theorem sub_half (F : Fo fs T) (hin : ∀ i, part.getLsbD i = true → i < T.n) (hC : T.conn (bits part)) {s : Nat} (S : Spl fs T part s) {C : BS} (h : Sub fs T part s C) : 2 * card C ≤ card part ∨ (¬card (outM fs part) < 2 ∧ (card (outM fs part) = 2 → card (outM fs C) < 2)) := by
  have hle := F.le
  have hs1 : s < 1024 := by have := hin s S.mem; omega
  obtain ⟨hc, _, _⟩ := cen_ok (fs := fs) S.mem
  have hhalf := cen_half F hin hC S.mem
  by_cases hcC : C.getLsbD (cenB fs part) = true
  · right
    have hsc : s ≠ cenB fs part := fun e => (h.sub _ hcC).2 e.symm
    have h2 : ¬card (outM fs part) < 2 := fun hh => hsc (S.one hh)
    refine ⟨h2, fun he2 => ?_⟩
    obtain ⟨a, b, l, he, hab, ha, hb⟩ := card_two h2
    have hl : l = [] := by
      have := card_elems (outM fs part)
      rw [he] at this
      simp at this
      exact List.eq_nil_of_length_eq_zero (by omega)
    have hall : ∀ i, (outM fs part).getLsbD i = true → i = a ∨ i = b := fun i hi => by
      have := mem_elems.2 ⟨bit_lt hi, hi⟩
      rw [he, hl] at this
      simpa using this
    obtain ⟨_, t2, t3⟩ := S.two he
    have hno : ∀ x, (outM fs part).getLsbD x = true → T.P s (endB fs part x) (cenB fs part) → ¬(outM fs C).getLsbD x = true := by
      intro x hx hP hxC
      have c1 := sub_end F hin hC h hx hxC
      have := h.conn _ _ (hin _ (h.sub _ c1).1) (hin _ hc) c1 hcC
      exact hP (this.mono fun i hi hh => ⟨hi, (h.sub i hh).2⟩)
    have := card_union_le (S := outM fs C) (A := 0) hs1 fun i hi => by
      rcases sub_out F hin h hi with h | h
      · exact .inl h
      · rcases hall i h with rfl | rfl
        · exact absurd hi (hno i ha t2)
        · exact absurd hi (hno i hb t3)
    rw [card_zero] at this
    omega
  · left
    -- C lies in one component without the centre
    obtain ⟨k, hk⟩ := h.ne
    have hkp := h.sub k hk
    have hkc : k ≠ cenB fs part := fun e => hcC (e ▸ hk)
    have hcn := hin _ hc
    have hdel : ∀ i, (del part (cenB fs part : Int)).getLsbD i = true ↔ part.getLsbD i = true ∧ i ≠ cenB fs part := fun i => bit_del part (by omega)
    have hkd := (hdel k).2 ⟨hkp.1, hkc⟩
    have hm := (parts_some F (del_in (part := part) hin (cenB fs part : Int))).2.2.2 k hkd
    have h1 := (foldl_max card (partsB fs (del part (cenB fs part : Int))) 0).2.1 _ hm
    change _ ≤ mostB fs part (cenB fs part) at h1
    have h2 : card C ≤ card (compB fs (del part (cenB fs part : Int)) k) := card_mono fun i hi => by
      refine ((comp_some F (del_in hin _) hkd).2 i).2 ?_
      exact (h.conn k i (hin k hkp.1) (hin i (h.sub i hi).1) hk hi).mono fun j hj hh => (hdel j).2 ⟨(h.sub j hh).1, fun e => hcC (e ▸ hh)⟩
    omega
end
end Go.Mono

set_option linter.unusedVariables false
set_option linter.unusedSimpArgs false
namespace Go.Mono

/-- binary digits -/
def bl : Nat → Nat → Nat
  | 0, _ => 0
  | f + 1, n => if n = 0 then 0 else bl f (n / 2) + 1
theorem bl_stable : ∀ (f g n : Nat), n ≤ f → n ≤ g → bl f n = bl g n
  | 0, g, n, h1, h2 => by
    obtain rfl : n = 0 := by omega
    cases g <;> rfl
  | f + 1, 0, n, h1, h2 => by
    obtain rfl : n = 0 := by omega
    rfl
  | f + 1, g + 1, n, h1, h2 => by
    rw [bl, bl]
    by_cases h : n = 0
    · rw [if_pos h, if_pos h]
    · rw [if_neg h, if_neg h, bl_stable f g (n / 2) (by omega) (by omega)]
def dg (n : Nat) : Nat := bl n n
theorem dg_zero : dg 0 = 0 := rfl
theorem dg_step {n : Nat} (h : n ≠ 0) : dg n = dg (n / 2) + 1 := by
  obtain ⟨m, rfl⟩ : ∃ m, n = m + 1 := ⟨n - 1, by omega⟩
  rw [dg, bl, if_neg h, dg, bl_stable m ((m + 1) / 2) ((m + 1) / 2) (by omega) (by omega)]
theorem dg_mono : ∀ (n m : Nat), m ≤ n → dg m ≤ dg n := by
  intro n
  induction n using Nat.strongRecOn with
  | _ n ih =>
    intro m h
    by_cases hm : m = 0
    · subst hm; rw [dg_zero]; exact Nat.zero_le _
    · rw [dg_step hm, dg_step (n := n) (by omega)]
      have := ih (n / 2) (by omega) (m / 2) (by omega)
      omega
theorem dg_half {n m : Nat} (h0 : n ≠ 0) (h : 2 * m ≤ n) : dg m + 1 ≤ dg n := by
  rw [dg_step h0]
  have := dg_mono (n / 2) m (by omega)
  omega

/-- the recursion: the parts that it comes to, each with the index of the one above -/
def splitter (fs : List BS) (part : BS) : Nat := splB fs part (outM fs part)
def subs (fs : List BS) (part : BS) : List BS := partsB fs (del part (splitter fs part : Int))
def balL (fs : List BS) : Nat → BS → Int → List (Int × BS) → List (Int × BS)
  | 0, part, up, s => s ++ [(up, part)]
  | f + 1, part, up, s => (subs fs part).foldl (fun s' C => balL fs f C (s.length : Int) s') (s ++ [(up, part)])

section
variable {fs : List BS} {T : Tr}
/-- a part as the recursion meets it -/
structure Pt (fs : List BS) (T : Tr) (part : BS) : Prop where
  inn : ∀ i, part.getLsbD i = true → i < T.n
  conn : T.conn (bits part)
  ne : ∃ k, part.getLsbD k = true
  two : card (outM fs part) ≤ 2
theorem Pt.spl {part : BS} (F : Fo fs T) (h : Pt fs T part) : Spl fs T part (splitter fs part) := by
  obtain ⟨k, hk⟩ := h.ne
  exact spl_ok F h.inn h.conn hk
theorem Pt.sub {part : BS} (F : Fo fs T) (h : Pt fs T part) {C : BS} (hC : C ∈ subs fs part) : Sub fs T part (splitter fs part) C := parts_sub F h.inn (h.inn _ (h.spl F).mem) hC
theorem Pt.step {part : BS} (F : Fo fs T) (h : Pt fs T part) {C : BS} (hC : C ∈ subs fs part) : Pt fs T C ∧ card C < card part := by
  have S := h.sub F hC
  exact ⟨⟨fun i hi => h.inn i (S.sub i hi).1, S.conn, S.ne, sub_two F h.inn h.conn h.two (h.spl F) S⟩, card_lt (fun i hi => (S.sub i hi).1) (h.spl F).mem fun hh => (S.sub _ hh).2 rfl⟩
/-- how deep it may go on -/
def pot (fs : List BS) (part : BS) : Nat := 2 * dg (card part) - (if card (outM fs part) < 2 then 1 else 0)
theorem Pt.pot {part : BS} (F : Fo fs T) (h : Pt fs T part) {C : BS} (hC : C ∈ subs fs part) : Mono.pot fs C + 1 ≤ Mono.pot fs part := by
  obtain ⟨hp, hlt⟩ := h.step F hC
  have S := h.sub F hC
  have hh := sub_half F h.inn h.conn (h.spl F) S
  have h0 : card part ≠ 0 := by omega
  have hC0 : card C ≠ 0 := by obtain ⟨k, hk⟩ := hp.ne; have := card_pos hk; omega
  have d0 := dg_step h0
  have d1 := dg_step hC0
  have dm := dg_mono (card part) (card C) (by omega)
  have two := h.two
  unfold Mono.pot
  rcases hh with hh | ⟨h1, h2⟩
  · have := dg_half h0 hh
    split <;> split <;> omega
  · have h3 : card (outM fs part) = 2 := by omega
    have h4 := h2 h3
    rw [if_pos h4, if_neg h1]
    omega

/-- what adds up over the parts -/
theorem parts_sum (F : Fo fs T) (φ : BS → Nat) (h0 : φ 0 = 0) (hadd : ∀ C U : BS, (∀ i, C.getLsbD i = true → U.getLsbD i = true) → φ U = φ C + φ (U &&& ~~~C)) :
    ∀ (f : Nat) (left : BS), (∀ i, left.getLsbD i = true → i < T.n) → ∀ l, splitF fs f left = some l → (l.map φ).sum = φ left := by
  intro f
  induction f with
  | zero =>
    intro left hin l h
    cases hm : minOf left with
    | none => rw [splitF_nil hm] at h; cases h; rw [minOf_none.1 hm, h0]; rfl
    | some k => rw [splitF_zero hm] at h; cases h
  | succ f ih =>
    intro left hin l h
    cases hm : minOf left with
    | none => rw [splitF_nil hm] at h; cases h; rw [minOf_none.1 hm, h0]; rfl
    | some k =>
      rw [splitF_cons hm] at h
      cases hr : splitF fs f (left &&& ~~~compB fs left k) with
      | none => rw [hr] at h; cases h
      | some l' =>
        rw [hr] at h
        cases h
        rw [List.map_cons, List.sum_cons, ih _ (fun i hi => hin i ((bit_diff _ _ i).1 hi).1) l' hr]
        exact (hadd _ _ (comp_sub F hin (minOf_mem hm))).symm
theorem card_split {C U : BS} (h : ∀ i, C.getLsbD i = true → U.getLsbD i = true) : card U = card C + card (U &&& ~~~C) :=
  card_add (fun i => by
    rw [bit_diff]
    constructor
    · intro hi
      by_cases hc : C.getLsbD i = true
      · exact .inl hc
      · exact .inr ⟨hi, hc⟩
    · rintro (hi | hi)
      · exact h i hi
      · exact hi.1) fun i hi => ((bit_diff _ _ i).1 hi.2).2 hi.1
theorem card_del {S : BS} {p : Nat} (h : S.getLsbD p = true) : card S = card (del S (p : Int)) + 1 := by
  have hp := bit_lt h
  have hone : ∀ i, (ins 0 (p : Int)).getLsbD i = true ↔ i = p := fun i => by
    rw [bit_ins 0 hp]; exact ⟨fun h => h.resolve_left (bit_zero i), .inr⟩
  rw [← card_one hone]
  refine card_add (fun i => ?_) fun i hi => ((bit_del S hp).1 hi.1).2 ((hone i).1 hi.2)
  rw [bit_del S hp, hone]
  constructor
  · intro hi
    by_cases hip : i = p
    · exact .inr hip
    · exact .inl ⟨hi, hip⟩
  · rintro (hi | rfl)
    · exact hi.1
    · exact h
theorem subs_card {part : BS} (F : Fo fs T) (h : Pt fs T part) : card part = ((subs fs part).map card).sum + 1 := by
  have hs := (h.spl F).mem
  have hin := del_in h.inn (splitter fs part : Int)
  have := parts_sum F card card_zero (fun C U => card_split) (1 + fs.length) (del part (splitter fs part : Int)) hin (partsB fs (del part (splitter fs part : Int))) (parts_some F hin).1
  rw [card_del hs, subs, this]

/-- node i of the list: who is above, who are below -/
structure BNd (fs : List BS) (T : Tr) (L : List (Int × BS)) (i : Nat) (up : Int) (P : BS) : Prop where
  at' : L[i]? = some (up, P)
  pt : Pt fs T P
  kid : ∀ C ∈ subs fs P, ∃ k, i < k ∧ L[k]? = some ((i : Int), C)
theorem BNd.app {i : Nat} {L M : List (Int × BS)} {up : Int} {P : BS} (h : BNd fs T L i up P) : BNd fs T (L ++ M) i up P := by
  have k1 : ∀ {k : Nat} {x : Int × BS}, L[k]? = some x → (L ++ M)[k]? = some x := fun {k x} h => by
    rw [List.getElem?_append_left (List.getElem?_eq_some_iff.1 h).1]; exact h
  exact ⟨k1 h.at', h.pt, fun C hC => by obtain ⟨k, h1, h2⟩ := h.kid C hC; exact ⟨k, h1, k1 h2⟩⟩
/-- the one above node i -/
def Ab (fs : List BS) (L : List (Int × BS)) (i : Nat) (up : Int) (P : BS) : Prop := ∃ p u Q, up = ((p : Nat) : Int) ∧ p < i ∧ L[p]? = some (u, Q) ∧ P ∈ subs fs Q
theorem Ab.app {i : Nat} {L M : List (Int × BS)} {up : Int} {P : BS} (h : Ab fs L i up P) : Ab fs (L ++ M) i up P := by
  obtain ⟨p, u, Q, h1, h2, h3, h4⟩ := h
  exact ⟨p, u, Q, h1, h2, by rw [List.getElem?_append_left (List.getElem?_eq_some_iff.1 h3).1]; exact h3, h4⟩
/-- THE RECURSION'S LIST -/
theorem balL_ok (F : Fo fs T) : ∀ (f : Nat) (part : BS) (up : Int) (s : List (Int × BS)), Pt fs T part → card part ≤ f →
    ∃ seg, balL fs f part up s = s ++ seg ∧ seg.length = card part ∧ seg[0]? = some (up, part) ∧
      ∀ i x, seg[i]? = some x → BNd fs T (s ++ seg) (s.length + i) x.1 x.2 ∧ (0 < i → Ab fs (s ++ seg) (s.length + i) x.1 x.2) := by
  intro f
  induction f with
  | zero =>
    intro part up s h hc
    obtain ⟨k, hk⟩ := h.ne
    have := card_pos hk
    omega
  | succ f ih =>
    intro part up s h hc
    have hsc := subs_card F h
    -- through the parts
    have loop : ∀ (l : List BS) (m : List (Int × BS)), (∀ C ∈ l, C ∈ subs fs part) → (s ++ (up, part) :: m).length = (s ++ (up, part) :: m).length →
        ∃ seg, l.foldl (fun s' C => balL fs f C (s.length : Int) s') (s ++ (up, part) :: m) = s ++ (up, part) :: (m ++ seg) ∧ seg.length = (l.map card).sum ∧
          (∀ C ∈ l, ∃ k, s.length < k ∧ (s ++ (up, part) :: (m ++ seg))[k]? = some ((s.length : Int), C)) ∧
          ∀ i x, seg[i]? = some x → BNd fs T (s ++ (up, part) :: (m ++ seg)) (s.length + 1 + m.length + i) x.1 x.2 ∧ Ab fs (s ++ (up, part) :: (m ++ seg)) (s.length + 1 + m.length + i) x.1 x.2 := by
      intro l
      induction l with
      | nil =>
        intro m _ _
        exact ⟨[], by simp, rfl, by simp, fun i x hx => by simp at hx⟩
      | cons C l ihl =>
        intro m hl _
        have hCs := hl C (by simp)
        obtain ⟨hCp, hClt⟩ := h.step F hCs
        obtain ⟨seg1, e1, e2, e3, e4⟩ := ih C (s.length : Int) (s ++ (up, part) :: m) hCp (by omega)
        obtain ⟨seg2, g1, g2, g3, g4⟩ := ihl (m ++ seg1) (fun D hD => hl D (by simp [hD])) rfl
        have ea : s ++ (up, part) :: m ++ seg1 = s ++ (up, part) :: (m ++ seg1) := by simp
        have eb : s ++ (up, part) :: (m ++ (seg1 ++ seg2)) = (s ++ (up, part) :: (m ++ seg1)) ++ seg2 := by simp
        have ec : s ++ (up, part) :: (m ++ seg1 ++ seg2) = s ++ (up, part) :: (m ++ (seg1 ++ seg2)) := by simp
        have el : (s ++ (up, part) :: m).length = s.length + 1 + m.length := by simp; omega
        rw [ea, el] at e4
        rw [ea] at e1
        rw [ec] at g1 g3 g4
        refine ⟨seg1 ++ seg2, by rw [List.foldl_cons, e1, g1], by simp [e2, g2], fun D hD => ?_, fun i x hx => ?_⟩
        · rcases List.mem_cons.1 hD with rfl | hD
          · refine ⟨s.length + 1 + m.length, by omega, ?_⟩
            rw [eb, List.getElem?_append_left (by
              have := (List.getElem?_eq_some_iff.1 e3).1
              simp; omega)]
            have := (e4 0 _ e3).1.at'
            simpa using this
          · exact g3 D hD
        · by_cases hi : i < seg1.length
          · rw [List.getElem?_append_left hi] at hx
            obtain ⟨n1, n2⟩ := e4 i x hx
            rw [eb]
            refine ⟨n1.app, ?_⟩
            by_cases h0 : 0 < i
            · exact (n2 h0).app
            · obtain rfl : i = 0 := by omega
              rw [e3] at hx
              cases hx
              refine Ab.app ⟨s.length, up, part, rfl, by omega, by simp, hCs⟩
          · rw [List.getElem?_append_right (by omega)] at hx
            have := g4 (i - seg1.length) x hx
            rw [show s.length + 1 + (m ++ seg1).length + (i - seg1.length) = s.length + 1 + m.length + i by simp; omega] at this
            exact this
    obtain ⟨seg, l1, l2, l3, l4⟩ := loop (subs fs part) [] (fun C hC => hC) rfl
    simp only [List.nil_append, List.length_nil, Nat.add_zero] at l1 l3 l4
    refine ⟨(up, part) :: seg, by rw [balL]; exact l1, by rw [List.length_cons, l2]; omega, rfl, fun i x hx => ?_⟩
    cases i with
    | zero =>
      cases hx
      refine ⟨⟨by simp, h, fun C hC => ?_⟩, fun h => by omega⟩
      obtain ⟨k, k1, k2⟩ := l3 C hC
      exact ⟨k, by omega, k2⟩
    | succ i =>
      rw [List.getElem?_cons_succ] at hx
      have := l4 i x hx
      rw [show s.length + (i + 1) = s.length + 1 + i by omega]
      exact ⟨this.1, fun _ => this.2⟩
end
section
variable {fs : List BS} {T : Tr}
theorem balL_len (F : Fo fs T) {f : Nat} {part : BS} {up : Int} {s : List (Int × BS)} (h : Pt fs T part) (hc : card part ≤ f) : (balL fs f part up s).length = s.length + card part := by
  obtain ⟨seg, h1, h2, _⟩ := balL_ok F f part up s h hc
  rw [h1, List.length_append, h2]
def balK (fs : List BS) (f : Nat) (u : Int) (l : List BS) (s : List (Int × BS)) : List (Int × BS) := l.foldl (fun s' C => balL fs f C u s') s
theorem balK_len (F : Fo fs T) {f : Nat} {u : Int} : ∀ (l : List BS) (s : List (Int × BS)), (∀ C ∈ l, Pt fs T C ∧ card C ≤ f) → (balK fs f u l s).length = s.length + (l.map card).sum
  | [], s, _ => by simp [balK]
  | C :: l, s, h => by
    have h1 := h C (by simp)
    rw [balK, List.foldl_cons]
    have := balK_len (u := u) F l (balL fs f C u s) fun D hD => h D (by simp [hD])
    rw [balK] at this
    rw [this, balL_len F h1.1 h1.2, List.map_cons, List.sum_cons]
    omega
theorem balK_succ (fs : List BS) (f : Nat) (u : Int) (l : List BS) (s : List (Int × BS)) {k : Nat} {C : BS} (h : l[k]? = some C) : balK fs f u (l.take (k + 1)) s = balL fs f C u (balK fs f u (l.take k) s) := by
  rw [balK, List.take_add_one, h, List.foldl_append]; rfl
theorem sum_take_le (l : List BS) (k : Nat) : ((l.take k).map card).sum ≤ (l.map card).sum := by
  conv => rhs; rw [← List.take_append_drop k l, List.map_append, List.sum_append]
  omega
theorem sum_take_succ {l : List BS} {k : Nat} {C : BS} (h : l[k]? = some C) : ((l.take (k + 1)).map card).sum = ((l.take k).map card).sum + card C := by
  rw [List.take_add_one, h, List.map_append, List.sum_append]; simp
end
/-- the new bag of a part -/
def hasTo (t : List (Int × BS)) (c : Nat) (s : List Nat) : BS := s.foldl (fun h n => h ||| (bg t n).2) (bg t c).2
def hasB (fs : List BS) (t : List (Int × BS)) (part : BS) : BS := hasTo t (splitter fs part) (elems (outM fs part))
def bagOf (fs : List BS) (t : List (Int × BS)) (x : Int × BS) : Int × BS := (x.1, hasB fs t x.2)
def atOf (fs : List BS) (x : Int × BS) : Int := ((splitter fs x.2 : Nat) : Int)
theorem hasTo_app (t : List (Int × BS)) (c : Nat) (s : List Nat) (x : Nat) : hasTo t c (s ++ [x]) = hasTo t c s ||| (bg t x).2 := by
  rw [hasTo, List.foldl_append]; rfl
end Go.Mono

set_option linter.unusedVariables false
set_option linter.unusedSimpArgs false
namespace Go.Mono
open Go Go.Proofs Go.RowKit

theorem comp_spec2 {G : Nat → Prop} {T : Tr} {fs : List BS} (F : Fo fs T) (p : Nat) (inn : BS) (fv : Value) (W : World) (hT : Tab W) (h : (Dv (slE setE) G fs).p fv W) (hin : ∀ i, inn.getLsbD i = true → i < T.n) (hp : inn.getLsbD p = true) :
    Calls Tryd.prog 147 #[fv, I (p : Nat), setV inn] W (Post (E (setV (compB fs inn p))) W) :=
  comp_spec fs p inn _ (1 + fs.length) fv W hT h (comp_some F hin hp).1 (by have := F.le; have := F.len; omega) (by rw [F.len]; exact hin p hp) (fun j hj => F.lt hj) (by have := F.le; have := F.len; omega)

/-- where the loop over the parts stands -/
structure SPJ {T : Tr} (G : Nat → Prop) (W : World) (fs : List BS) (fv : Value) (b8 : Nat) (res : List BS) (r : Nat) (a : Act) (w : World) : Prop where
  ex : ∃ (L : BS) (xs rest : List BS) (u : Value), splitF fs r L = some rest ∧ xs ++ rest = res ∧ (∀ i, L.getLsbD i = true → i < T.n) ∧ FrD 38 [] a w [(0, E fv), (7, E u), (8, E (.pointer (some ⟨b8, 0, none⟩))), (9, E (I ((minOf L).getD 0 : Nat))), (10, E (B (minOf L).isSome))] ∧
    (Ext W w ∧ Tab w ∧ (Dv (slE setE) (GB W Go.Mono.G0) fs).p fv w) ∧ Blk w b8 (setC L) 37 ∧ u.ownBlock ≠ some b8 ∧ OwR setE 37 W.heap.size G w xs u

theorem split_spec {G G2 : Nat → Prop} {T : Tr} {fs : List BS} (F : Fo fs T) (part : BS) (p : Int) (fv : Value) (W : World) (hT : Tab W) (h : (Dv (slE setE) G2 fs).p fv W) (hin : ∀ i, part.getLsbD i = true → i < T.n) (hG : ∀ b, G b → b < W.heap.size) :
    Calls Tryd.prog 119 #[fv, setV part, I p] W (Post (Dv (slE setE) G (partsB fs (del part p))) W) := by
  have HV : (Dv (slE setE) (GB W Go.Mono.G0) fs).p fv W := Dv.toB (Dv.weak h fun b _ hb => hb.elim)
  clear h
  have hT0 := hT.lt
  have hdin := del_in hin p
  obtain ⟨hres, hrl, _, _⟩ := parts_some F hdin
  have hcn := card_le_n hdin
  have hle := F.le
  generalize hresE : partsB fs (del part p) = res at *
  refine enter (args := [fv, setV part, I p]) (As := [E fv, E (setV part), E (I p)]) Tryd.func119 rfl Tryd.ntmps119 (Nat.le_of_ble_eq_true rfl) ?_ (fun a hf => ?_) (Nat.le_of_ble_eq_true rfl)
  rotate_left
  dsimp only [params, Nat.reduceAdd] at hf
  rotate_right
  · exact arg3 rfl rfl rfl
  have e := Ext.rfl' W
  repeat refine seq ?_
  refine regn0 ?_
  refine tl_box hf rfl (by decide) fun a b4 w v4 hv4 e' hb4 hs4 B4 hf => ?_
  have hle4 := Nat.le_trans e.size (Nat.le_of_eq hb4.symm)
  replace hT := hT.ext e'
  replace HV := Dv.ex HV e'
  replace e := Ext.tr e e'
  clear e'
  refine tl_as hf rfl (by decide) fun a hf => ?_
  refine tl_nil ?_
  cases hv4
  replace B4 : Blk w b4 (setC part) 37 := B4
  replace hf := hf.keep [0, 2, 4]
  dsimp only [keep, List.filterMap, look, Nat.beq, Option.map] at hf
  repeat refine seq ?_
  refine regn0 ?_
  refine tl_as hf rfl (by decide) fun a hf => ?_
  refine tl_nil ?_
  repeat refine seq ?_
  refine regn 3 hf (by decide +kernel) ?_
  refine st (ldW T37 rfl (by assumption) rfl) ?_
  refine st (mv rfl) ?_
  refine st (call2 En81 rfl rfl (fun v u w he h h' => by cases h; cases h'; exact without_spec _ _ w)) ?_
  refine en fun a w e' hf => ?_
  replace hT := hT.ext e'
  replace HV := Dv.ex HV e'
  replace e := Ext.tr e e'
  replace B4 := B4.ext e'
  clear e'
  refine tl_alloc I37 hf (by decide) fun a b8 w e' hb8 hs8 B8 hf => ?_
  have hle8 := Nat.le_trans e.size (Nat.le_of_eq hb8.symm)
  have lt8_B4 := B4.lt
  replace hT := hT.ext e'
  replace HV := Dv.ex HV e'
  replace e := Ext.tr e e'
  replace B4 := B4.ext e'
  clear e'
  haveI hinr : ∀ G0, InR (GB W G0) (some b8) := fun G0 => InR.gb (by omega)
  refine tl_stW T37 hf rfl rfl (wordsC_one _) B8 rfl (rfl) fun w hg hsz B8 hf => ?_
  replace hT := hT.gr hg (by omega)
  replace HV := Dv.gr HV hg (.inr (by omega))
  replace e := e.gr hg (by omega)
  replace B4 := B4.gr hg (by omega)
  clear hg
  refine tl_nil ?_
  replace B8 : Blk w b8 (setC (del part p)) 37 := B8
  replace hf := hf.keep [0, 7, 8]
  dsimp only [keep, List.filterMap, look, Nat.beq, Option.map] at hf
  have hW8 : W.heap.size ≤ b8 := by omega
  repeat refine seq ?_
  refine regn 5 hf (by decide +kernel) ?_
  refine st (ldW T37 rfl (by assumption) rfl) ?_
  refine st (call1 En143 rfl (fun v w he h => by cases h; exact min_spec _ w (hT.ext he))) ?_
  refine st (mv rfl) ?_
  refine st (ext_ rfl rfl) ?_
  refine st (ext_ rfl rfl) ?_
  refine en fun a w e' hf => ?_
  replace hT := hT.ext e'
  replace HV := Dv.ex HV e'
  replace e := Ext.tr e e'
  replace B8 := B8.ext e'
  clear e'
  refine tl_as hf rfl (by decide) fun a hf => ?_
  refine tl_as hf rfl (by decide) fun a hf => ?_
  refine tl_nil ?_
  have Ho : OwR setE 37 W.heap.size G w [] (.slice none 0 0) := OwR.nil setE _ e.size hG
  replace hf := hf.keep [0, 7, 8, 9, 10]
  dsimp only [keep, List.filterMap, look, Nat.beq, Option.map] at hf
  repeat refine seq ?_
  refine blk (loopN (fun r a w => SPJ (T := T) G W fs fv b8 res r a w) (1 + fs.length) ⟨del part p, [], res, _, hres, rfl, hdin, hf, ⟨e, hT, HV⟩, B8, (by simp [Value.ownBlock]), Ho⟩ ?_)
  clear hf e hT HV B8 Ho hres hdin hcn
  rintro r a w ⟨L, xs, rest, u, hr, hxs, hL, hf, ⟨e, hT, HV⟩, B8, hov, Ho⟩
  have hxl : xs.length ≤ 1024 := by
    have h1 := congrArg List.length hxs
    rw [List.length_append] at h1
    have h2 := card_le_n (S := del part p) (n := 1024) fun i hi => bit_lt hi
    omega
  repeat refine seq ?_
  refine regn 1 hf (by decide +kernel) ?_
  refine st (mv rfl) ?_
  refine en fun a w e' hf => ?_
  replace hT := hT.ext e'
  replace HV := Dv.ex HV e'
  replace e := Ext.tr e e'
  replace B8 := B8.ext e'
  replace Ho := Ho.ext e'
  clear e'
  refine tl_nil ?_
  cases hm : minOf L with
  | none =>
    rw [hm] at hf
    repeat refine seq ?_
    refine ifc hf rfl (fun h => by cases h) (fun _ => ?_)
    refine wexit ?_
    simp only [Exit.then, Exit.inBlock, ↓reduceIte]
    repeat refine seq ?_
    refine regn 1 hf (by decide +kernel) ?_
    refine st (mv rfl) ?_
    refine en fun a w e' hf => ?_
    replace hT := hT.ext e'
    replace HV := Dv.ex HV e'
    replace e := Ext.tr e e'
    replace B8 := B8.ext e'
    replace Ho := Ho.ext e'
    clear e'
    refine tl_as hf rfl (by decide) fun a hf => ?_
    refine tl_nil ?_
    rw [splitF_nil hm] at hr
    cases hr
    rw [List.append_nil] at hxs
    subst hxs
    refine wret ?_
    try simp only [Exit.then, Exit.inBlock]
    refine ret1 rfl hf rfl ?_
    rintro _ rfl
    exact ⟨_, rfl, e, Ho.sl⟩
  | some k =>
    rw [hm] at hf
    have hkL := minOf_mem hm
    obtain ⟨r', rfl⟩ : ∃ r', r = r' + 1 := by
      cases r with
      | zero => rw [splitF_zero hm] at hr; cases hr
      | succ r' => exact ⟨r', rfl⟩
    rw [splitF_cons hm] at hr
    obtain ⟨rest', hr', rfl⟩ : ∃ rest', splitF fs r' (L &&& ~~~compB fs L k) = some rest' ∧ rest = compB fs L k :: rest' := by
      cases hx : splitF fs r' (L &&& ~~~compB fs L k) with
      | none => rw [hx] at hr; cases hr
      | some l => rw [hx] at hr; cases hr; exact ⟨l, rfl, rfl⟩
    clear hr
    generalize hC : compB fs L k = C at *
    repeat refine seq ?_
    refine ifc hf rfl (fun _ => ?_) (fun h => by cases h)
    refine wskip ?_
    try simp only [Exit.then, Exit.inBlock, ↓reduceIte]
    repeat refine seq ?_
    refine blk ?_
    replace hf := hf.keep [0, 7, 8, 9]
    dsimp only [keep, List.filterMap, look, Nat.beq, Option.map] at hf
    repeat refine seq ?_
    refine regn 4 hf (by decide +kernel) ?_
    refine st (mv rfl) ?_
    refine st (mv rfl) ?_
    refine st (ldW T37 rfl B8 rfl) ?_
    refine st (call3 (A := E (setV C)) En147 rfl rfl rfl (fun v u s w he h h' h'' => by cases h; cases h'; cases h''; rw [← hC]; exact comp_spec2 F k L fv w (hT.ext he) (Dv.ex HV he) hL hkL)) ?_
    refine en fun a w e' hf => ?_
    replace hT := hT.ext e'
    replace HV := Dv.ex HV e'
    replace e := Ext.tr e e'
    replace B8 := B8.ext e'
    replace Ho := Ho.ext e'
    clear e'
    refine tl_alloc I37 hf (by decide) fun a b11 w e' hb11 hs11 B11 hf => ?_
    have hle11 := Nat.le_trans e.size (Nat.le_of_eq hb11.symm)
    have ne11_Ho := Ho.ne_new hb11
    have lt11_B8 := B8.lt
    replace hT := hT.ext e'
    replace HV := Dv.ex HV e'
    replace e := Ext.tr e e'
    replace B8 := B8.ext e'
    replace Ho := Ho.ext e'
    clear e'
    haveI hinr : ∀ G0, InR (GB W G0) (some b11) := fun G0 => InR.gb (by omega)
    refine tl_stW T37 hf rfl rfl (wordsC_one _) B11 rfl (rfl) fun w hg hsz B11 hf => ?_
    replace hT := hT.gr hg (by omega)
    replace HV := Dv.gr HV hg (.inr (by omega))
    replace e := e.gr hg (by omega)
    replace B8 := B8.gr hg (by omega)
    replace Ho := Ho.gr hg (by assumption)
    clear hg
    refine tl_nil ?_
    replace B11 : Blk w b11 (setC C) 37 := B11
    have hov11 : u.ownBlock ≠ some b11 := ne11_Ho
    have n811 : b8 ≠ b11 := by omega
    replace hf := hf.keep [0, 7, 8, 11]
    dsimp only [keep, List.filterMap, look, Nat.beq, Option.map] at hf
    repeat refine seq ?_
    refine regn 3 hf (by decide +kernel) ?_
    refine st (mv rfl) ?_
    refine st (ldW T37 rfl B11 rfl) ?_
    refine st (bsl1 Tryd.underlying88 I37 rfl (by decide) rfl Ho.avs (isS rfl)) ?_
    refine en fun a w e' hf => ?_
    replace hT := hT.ext e'
    replace HV := Dv.ex HV e'
    replace e := Ext.tr e e'
    replace B8 := B8.ext e'
    replace B11 := B11.ext e'
    replace Ho := Ho.ext e'
    clear e'
    haveI hin : ∀ G0, InR (GB W G0) _ := OwR.inGB Ho (Nat.le_refl _)
    refine tl_app Tryd.underlying88 I37 rfl rfl hf (by decide) rfl Ho (isR rfl) (by simp only [List.length_singleton]; omega) (by simp only [List.length_singleton, maxLen]; omega) fun a v w hg hat Hn hf => ?_
    replace e := e.gro hg (Ho.row (Nat.le_refl _))
    have hrow := Ho.row (Nat.le_refl _)
    replace hT := hT.gro hg (fun b hb => Nat.lt_of_lt_of_le hT0 (hrow b hb))
    replace HV := Dv.gro HV hg (fun b hb => .inr (hrow b hb))
    clear hrow
    have hov' := own_ne hat hov B8.lt
    have hov11' := own_ne hat hov11 B11.lt
    replace B8 := B8.gro hg (by assumption)
    replace B11 := B11.gro hg (by assumption)
    replace hov := hov'; clear hov'
    replace hov11 := hov11'; clear hov11'
    replace Ho := Hn; clear Hn hg hat hin
    refine tl_as hf rfl (by decide) fun a hf => ?_
    refine tl_nil ?_
    replace hf := hf.keep [0, 7, 8, 11]
    dsimp only [keep, List.filterMap, look, Nat.beq, Option.map] at hf
    repeat refine seq ?_
    refine regn 3 hf (by decide +kernel) ?_
    refine st (ldW T37 rfl B8 rfl) ?_
    refine st (ldW T37 rfl B11 rfl) ?_
    refine st (call2 En105 rfl rfl (fun v u w he h h' => by cases h; cases h'; exact minus_spec _ _ w)) ?_
    refine en fun a w e' hf => ?_
    replace hT := hT.ext e'
    replace HV := Dv.ex HV e'
    replace e := Ext.tr e e'
    replace B8 := B8.ext e'
    replace B11 := B11.ext e'
    replace Ho := Ho.ext e'
    clear e'
    haveI hinr : ∀ G0, InR (GB W G0) (some b8) := fun G0 => InR.gb (by omega)
    refine tl_stW T37 hf rfl rfl (wordsC_one _) B8 rfl (rfl) fun w hg hsz B8 hf => ?_
    replace hT := hT.gr hg (by omega)
    replace HV := Dv.gr HV hg (.inr (by omega))
    replace e := e.gr hg (by omega)
    replace B11 := B11.gr hg (by omega)
    replace Ho := Ho.gr hg (by assumption)
    clear hg
    refine tl_nil ?_
    try simp only [Exit.then, Exit.inBlock, ↓reduceIte]
    replace hf := hf.keep [0, 7, 8]
    dsimp only [keep, List.filterMap, look, Nat.beq, Option.map] at hf
    repeat refine seq ?_
    refine regn 5 hf (by decide +kernel) ?_
    refine st (ldW T37 rfl B8 rfl) ?_
    refine st (call1 En143 rfl (fun v w he h => by cases h; exact min_spec _ w (hT.ext he))) ?_
    refine st (mv rfl) ?_
    refine st (ext_ rfl rfl) ?_
    refine st (ext_ rfl rfl) ?_
    refine en fun a w e' hf => ?_
    replace hT := hT.ext e'
    replace HV := Dv.ex HV e'
    replace e := Ext.tr e e'
    replace B8 := B8.ext e'
    replace Ho := Ho.ext e'
    clear e'
    refine tl_as hf rfl (by decide) fun a hf => ?_
    refine tl_as hf rfl (by decide) fun a hf => ?_
    refine tl_nil ?_
    replace hf := hf.keep [0, 7, 8, 9, 10]
    dsimp only [keep, List.filterMap, look, Nat.beq, Option.map] at hf
    exact ⟨r', Nat.lt_succ_self _, L &&& ~~~C, xs ++ [C], rest', _, hr', by rw [List.append_assoc]; exact hxs, fun i hi => hL i ((bit_diff _ _ i).1 hi).1, hf, ⟨e, hT, HV⟩, B8, hov, Ho⟩
end Go.Mono

set_option linter.unusedVariables false
set_option linter.unusedSimpArgs false
namespace Go.Mono
open Go Go.Proofs Go.RowKit

def mTo (l : List BS) (k : Nat) : Nat := (l.take k).foldl (fun m C => max m (card C)) 0
theorem mTo_succ {l : List BS} {k : Nat} {C : BS} (h : l[k]? = some C) : mTo l (k + 1) = max (mTo l k) (card C) := by
  rw [mTo, List.take_add_one, h, List.foldl_append]; rfl
theorem cenTo_app (fs : List BS) (part : BS) (s : List Nat) (x : Nat) : cenTo fs part (s ++ [x]) = cenStep fs part (cenTo fs part s) x := by
  rw [cenTo, List.foldl_append]; rfl

theorem cen_spec {G2 : Nat → Prop} {T : Tr} {fs : List BS} (F : Fo fs T) (part : BS) (fv : Value) (W : World) (hT : Tab W) (h : (Dv (slE setE) G2 fs).p fv W) (hin : ∀ i, part.getLsbD i = true → i < T.n) :
    Calls Tryd.prog 127 #[fv, setV part] W (Post (E (I (cenTo fs part (elems part)).1)) W) := by
  have HV : (Dv (slE setE) (GB W Go.Mono.G0) fs).p fv W := Dv.toB (Dv.weak h fun b _ hb => hb.elim)
  clear h
  have hT0 := hT.lt
  have h1 := one_cells (Dv.slOne HV)
  refine enterM (args := [fv, setV part]) (As := [E fv, E (setV part)]) Tryd.func127 rfl Tryd.ntmps127 (Nat.le_of_ble_eq_true rfl) ?_ (fun a hf => ?_) (Nat.le_of_ble_eq_true rfl)
  · exact arg2 rfl rfl
  dsimp only [params, Nat.reduceAdd] at hf
  have e := Ext.rfl' W
  repeat refine seq ?_
  refine regn0 ?_
  refine tl_box hf rfl (by decide) fun a b2 w v2 hv2 e' hb2 hs2 B2 hf => ?_
  have hle2 := Nat.le_trans e.size (Nat.le_of_eq hb2.symm)
  replace hT := hT.ext e'
  replace HV := Dv.ex HV e'
  replace e := Ext.tr e e'
  clear e'
  refine tl_box hf rfl (by decide) fun a b3 w v3 hv3 e' hb3 hs3 B3 hf => ?_
  have hle3 := Nat.le_trans e.size (Nat.le_of_eq hb3.symm)
  have lt3_B2 := B2.lt
  replace hT := hT.ext e'
  replace HV := Dv.ex HV e'
  replace e := Ext.tr e e'
  replace B2 := B2.ext e'
  clear e'
  refine tl_as hf rfl (by decide) fun a hf => ?_
  refine tl_nil ?_
  cases hv2
  cases hv3
  rw [h1] at B2
  replace B3 : Blk w b3 (setC part) 37 := B3
  have l2 := B2.lt
  have l3 := B3.lt
  have n3 : W.heap.size ≤ b3 ∧ b3 ≠ b2 ∧ W.heap.size ≤ b2 := by omega
  replace hf := hf.keep [2, 3]
  dsimp only [keep, List.filterMap, look, Nat.beq, Option.map] at hf
  repeat refine seq ?_
  refine regn0 ?_
  refine tl_alloc I3 hf (by decide) fun a b5 w e' hb5 hs5 B5 hf => ?_
  have hle5 := Nat.le_trans e.size (Nat.le_of_eq hb5.symm)
  have lt5_B2 := B2.lt
  have lt5_B3 := B3.lt
  replace hT := hT.ext e'
  replace HV := Dv.ex HV e'
  replace e := Ext.tr e e'
  replace B2 := B2.ext e'
  replace B3 := B3.ext e'
  clear e'
  refine tl_alloc I3 hf (by decide) fun a b6 w e' hb6 hs6 B6 hf => ?_
  have hle6 := Nat.le_trans e.size (Nat.le_of_eq hb6.symm)
  have lt6_B2 := B2.lt
  have lt6_B3 := B3.lt
  have lt6_B5 := B5.lt
  replace hT := hT.ext e'
  replace HV := Dv.ex HV e'
  replace e := Ext.tr e e'
  replace B2 := B2.ext e'
  replace B3 := B3.ext e'
  replace B5 := B5.ext e'
  clear e'
  haveI hinr : ∀ G0, InR (GB W G0) (some b5) := fun G0 => InR.gb (by omega)
  refine tl_st1 T3 hf rfl rfl rfl B5 (by decide) fun w hg hsz B5 hf => ?_
  replace hT := hT.gr hg (by omega)
  replace HV := Dv.gr HV hg (.inr (by omega))
  replace e := e.gr hg (by omega)
  replace B2 := B2.gr hg (by omega)
  replace B3 := B3.gr hg (by omega)
  replace B6 := B6.gr hg (by omega)
  clear hg
  haveI hinr : ∀ G0, InR (GB W G0) (some b6) := fun G0 => InR.gb (by omega)
  refine tl_st1 T3 hf rfl rfl rfl B6 (by decide) fun w hg hsz B6 hf => ?_
  replace hT := hT.gr hg (by omega)
  replace HV := Dv.gr HV hg (.inr (by omega))
  replace e := e.gr hg (by omega)
  replace B2 := B2.gr hg (by omega)
  replace B3 := B3.gr hg (by omega)
  replace B5 := B5.gr hg (by omega)
  clear hg
  refine tl_nil ?_
  replace B5 : Blk w b5 #[I (cenTo fs part []).1] 3 := B5
  replace B6 : Blk w b6 #[I (cenTo fs part []).2] 3 := B6
  have n5 : b5 ≠ b2 ∧ b5 ≠ b3 ∧ b6 ≠ b2 ∧ b6 ≠ b3 ∧ b6 ≠ b5 ∧ W.heap.size ≤ b5 ∧ W.heap.size ≤ b6 := by omega
  replace hf := hf.keep [2, 3, 5, 6]
  dsimp only [keep, List.filterMap, look, Nat.beq, Option.map] at hf
  obtain ⟨Nz, hNz⟩ : ∃ Nz, Nz = w.heap.size := ⟨_, rfl⟩
  repeat refine seq ?_
  refine regn 2 hf (by decide +kernel) ?_
  refine st (ldW T37 rfl B3 rfl) ?_
  refine st (call1 (A := SeqA Nz part) En106 rfl (fun v w' he h => by cases h; exact Calls.mono (all_spec _ w') (fun en w2 ⟨u, h1, h2, b', h3, h4, h5⟩ => ⟨u, h1, h2, b', by have := he.size; omega, h4, h5⟩))) ?_
  refine en fun a w e' hf => ?_
  replace hT := hT.ext e'
  replace HV := Dv.ex HV e'
  replace e := Ext.tr e e'
  replace B2 := B2.ext e'
  replace B3 := B3.ext e'
  replace B5 := B5.ext e'
  replace B6 := B6.ext e'
  clear e'
  refine tl_nil ?_
  obtain ⟨v, ⟨b12, h12, rfl, BS⟩, hf⟩ := hf.fix 12 rfl
  replace hf := hf.keep [2, 3, 5, 6, 12]
  dsimp only [keep, List.filterMap, look, Nat.beq, Option.map] at hf
  have hBW : W.heap.size ≤ w.heap.size := e.size
  have h0w : 0 < w.heap.size := hT.lt
  have kL : LtL w.heap.size [(b2, #[fv], 125), (b3, setC part, 37), (b5, #[I 0], 3), (b6, #[I 0], 3)] := ⟨B2.lt, B3.lt, B5.lt, B6.lt, trivial⟩
  repeat refine seq ?_
  refine blk ?_
  refine range_all3 (S := part) hf rfl BS (by decide) (fun s w1 => RJ W fs fv [(b2, #[fv], 125), (b3, setC part, 37), (b5, #[I (cenTo fs part s).1], 3), (b6, #[I (cenTo fs part s).2], 3)] [] w1) (fun _ _ => False) (fun s w1 h => h.t)
    ⟨e, hT, HV, ⟨B2, B3, B5, B6, trivial⟩, Ds.nil _⟩ (fun s w1 w2 h hs k => h.kp k hBW h0w ⟨kL.1, kL.2.1, kL.2.2.1, kL.2.2.2.1, trivial⟩ (fun d hd => by cases hd)) (fun _ _ _ h => h.elim) ?_ ?_ (fun _ _ _ _ _ _ h => h.elim)
  · intro l s x rest a1 w1 hs hJ hlw hf
    have k5 : b5 < w.heap.size := kL.2.2.1
    have k6 : b6 < w.heap.size := kL.2.2.2.1
    generalize hBz : w.heap.size = Bz at *
    refine regn0 ?_
    refine tl_as hf rfl (by decide) fun a hf => ?_
    refine tl_nil ?_
    simp only [Exit.then]
    refine ⟨Kh.rfl' _ _, fun w3 k3 hsz3 => ?_⟩
    have hJ3 := hJ.kp k3 hBW h0w ⟨kL.1, kL.2.1, kL.2.2.1, kL.2.2.2.1, trivial⟩ (fun d hd => by cases hd)
    have hw3 : Bz + 3 ≤ w3.heap.size := by omega
    clear e hT HV B2 B3 B5 B6 BS hJ
    replace hf := hf.pure w3
    obtain ⟨e, hT, HV, ⟨B2, B3, B5, B6, _⟩, _⟩ := hJ3
    have kh := Kh.rfl' Bz w3
    replace hf := hf.keep [2, 3, 5, 6, 7]
    dsimp only [keep, List.filterMap, look, Nat.beq, Option.map] at hf
    repeat refine seq ?_
    refine blk ?_
    repeat refine seq ?_
    refine regn0 ?_
    refine tl_as hf rfl (by decide) fun a hf => ?_
    refine tl_nil ?_
    generalize hls : partsB fs (del part (x : Int)) = ls at *
    have hmx : mostB fs part x = mTo ls ls.length := by rw [mostB, hls, mTo, List.take_length]
    have hml := most_le F hin x
    have hll : ls.length ≤ 1024 := by
      have h1 := (parts_some F (del_in hin (x : Int))).2.1
      have h2 := card_le_n (S := del part (x : Int)) (n := 1024) fun i hi => bit_lt hi
      rw [hls] at h1; omega
    repeat refine seq ?_
    refine regn 6 hf (by decide +kernel) ?_
    refine st (ld1 (v := fv) T125 rfl B2 rfl) ?_
    refine st (ldW T37 rfl B3 rfl) ?_
    refine st (mv rfl) ?_
    refine st (call3 (A := Dv (slE setE) Go.Mono.G0 ls) En119 rfl rfl rfl (fun v u s w he h h' h'' => by cases h; cases h'; cases h''; rw [← hls]; exact split_spec F part x fv w (hT.ext he) (Dv.ex HV he) hin (fun b hb => hb.elim))) ?_
    refine st (lenD Tryd.underlying88 (isR rfl)) ?_
    refine st (mv rfl) ?_
    refine en fun a w e' hf => ?_
    replace hT := hT.ext e'
    replace HV := Dv.ex HV e'
    replace kh := kh.tr (Kh.ext e')
    replace e := Ext.tr e e'
    replace B2 := B2.ext e'
    replace B3 := B3.ext e'
    replace B5 := B5.ext e'
    replace B6 := B6.ext e'
    clear e'
    refine tl_nil ?_
    obtain ⟨lv, hlv, hf⟩ := hf.fix 17 rfl
    obtain ⟨N0, hN0⟩ : ∃ N0, N0 = w.heap.size := ⟨_, rfl⟩
    have HL : (Dv (slE setE) (fun b => N0 ≤ b) ls).p lv w := Dv.weak hlv fun b hb hg => absurd hb (Nat.not_lt.2 (by omega))
    have hN0' : Bz + 3 ≤ N0 := by have := kh.size; omega
    have hNw : N0 ≤ w.heap.size := by omega
    have hm0 : (0 : Int) = ((mTo ls 0 : Nat) : Int) := rfl
    rw [hm0] at hf
    clear hlv hN0 hm0
    replace hf := hf.keep [2, 3, 5, 6, 7, 8, 17, 18, 19]
    dsimp only [keep, List.filterMap, look, Nat.beq, Option.map] at hf
    repeat refine seq ?_
    refine blk (loopN (fun r0 a w => ∃ k : Nat, r0 = ls.length - k ∧ k ≤ ls.length ∧ FrD 38 [] a w [(2, E (.pointer (some ⟨b2, 0, none⟩))), (3, E (.pointer (some ⟨b3, 0, none⟩))), (5, E (.pointer (some ⟨b5, 0, none⟩))), (6, E (.pointer (some ⟨b6, 0, none⟩))), (7, E (I (x : Nat))), (8, E (I (mTo ls k : Nat))), (17, E lv), (18, E (I (ls.length : Nat))), (19, E (I k))] ∧
      (Ext W w ∧ Tab w ∧ (Dv (slE setE) (GB W Go.Mono.G0) fs).p fv w ∧ Kh Bz w3 w) ∧ Blk w b2 #[fv] 125 ∧ Blk w b3 (setC part) 37 ∧ Blk w b5 #[I (cenTo fs part s).1] 3 ∧ Blk w b6 #[I (cenTo fs part s).2] 3 ∧ (Dv (slE setE) (fun b => N0 ≤ b) ls).p lv w ∧ N0 ≤ w.heap.size) ls.length ⟨0, rfl, by omega, hf, ⟨e, hT, HV, kh⟩, B2, B3, B5, B6, HL, hNw⟩ ?_)
    clear hf e hT HV kh B2 B3 B5 B6 HL hNw
    rintro r0 a w ⟨k, rfl, hk, hf, ⟨e, hT, HV, kh⟩, B2, B3, B5, B6, HL, hNw⟩
    repeat refine seq ?_
    refine regn 1 hf (by decide +kernel) ?_
    refine st (lss rfl rfl) ?_
    refine en fun a w e' hf => ?_
    replace hT := hT.ext e'
    replace HV := Dv.ex HV e'
    replace kh := kh.tr (Kh.ext e')
    replace HL := Dv.ex HL e'
    replace hNw := Nat.le_trans hNw e'.size
    replace e := Ext.tr e e'
    replace B2 := B2.ext e'
    replace B3 := B3.ext e'
    replace B5 := B5.ext e'
    replace B6 := B6.ext e'
    clear e'
    refine tl_nil ?_
    repeat refine seq ?_
    refine ifc hf rfl (fun hc => wskip ?_) (fun hc => wexit ?_)
    · have hlt : k < ls.length := by have := of_decide_eq_true hc; omega
      clear hc
      simp only [Exit.then, Exit.inBlock, ↓reduceIte]
      obtain ⟨C, hC⟩ : ∃ C, ls[k]? = some C := ⟨_, List.getElem?_eq_getElem hlt⟩
      repeat refine seq ?_
      refine blk ?_
      repeat refine seq ?_
      refine regn0 ?_
      refine tl_op hf (by decide) (idxD Tryd.underlying88 S37 (isE rfl HL) rfl (by omega) (hC)) fun a w e' hf => ?_
      replace hT := hT.ext e'
      replace HV := Dv.ex HV e'
      replace kh := kh.tr (Kh.ext e')
      replace HL := Dv.ex HL e'
      replace hNw := Nat.le_trans hNw e'.size
      replace e := Ext.tr e e'
      replace B2 := B2.ext e'
      replace B3 := B3.ext e'
      replace B5 := B5.ext e'
      replace B6 := B6.ext e'
      clear e'
      refine tl_op hf (by decide) (ldS T37 (isR rfl)) fun a w e' hf => ?_
      replace hT := hT.ext e'
      replace HV := Dv.ex HV e'
      replace kh := kh.tr (Kh.ext e')
      replace HL := Dv.ex HL e'
      replace hNw := Nat.le_trans hNw e'.size
      replace e := Ext.tr e e'
      replace B2 := B2.ext e'
      replace B3 := B3.ext e'
      replace B5 := B5.ext e'
      replace B6 := B6.ext e'
      clear e'
      replace hf := hf.keep [2, 3, 5, 6, 7, 8, 17, 18, 19, 22]
      dsimp only [keep, List.filterMap, look, Nat.beq, Option.map] at hf
      refine tl_alloc I37 hf (by decide) fun a b10 w e' hb10 hs10 B10 hf => ?_
      have hle10 := Nat.le_trans e.size (Nat.le_of_eq hb10.symm)
      have lo10_hNw := Nat.le_trans hNw (Nat.le_of_eq hb10.symm)
      have lt10_B2 := B2.lt
      have lt10_B3 := B3.lt
      have lt10_B5 := B5.lt
      have lt10_B6 := B6.lt
      replace hT := hT.ext e'
      replace HV := Dv.ex HV e'
      replace kh := kh.tr (Kh.ext e')
      replace HL := Dv.ex HL e'
      replace hNw := Nat.le_trans hNw e'.size
      replace e := Ext.tr e e'
      replace B2 := B2.ext e'
      replace B3 := B3.ext e'
      replace B5 := B5.ext e'
      replace B6 := B6.ext e'
      clear e'
      haveI hinr : ∀ G0, InR (GB W G0) (some b10) := fun G0 => InR.gb (by omega)
      refine tl_stW T37 hf rfl rfl (wordsC_one _) B10 rfl (rfl) fun w hg hsz B10 hf => ?_
      replace hT := hT.gr hg (by omega)
      replace HV := Dv.gr HV hg (.inr (by omega))
      replace kh := kh.tr (Kh.gr hg (fun hh => by have := hh.1; have := hh.2; omega))
      replace HL := Dv.gr HL hg (by omega)
      replace hNw := Nat.le_trans hNw (Nat.le_of_eq hsz.symm)
      replace e := e.gr hg (by omega)
      replace B2 := B2.gr hg (by omega)
      replace B3 := B3.gr hg (by omega)
      replace B5 := B5.gr hg (by omega)
      replace B6 := B6.gr hg (by omega)
      clear hg
      refine tl_nil ?_
      replace B10 : Blk w b10 (setC C) 37 := B10
      have hm1 := mTo_succ hC
      have hcC : card C ≤ 1024 := card_le_n fun i hi => bit_lt hi
      repeat refine seq ?_
      refine regn 4 hf (by decide +kernel) ?_
      refine st (mv rfl) ?_
      refine st (ldW T37 rfl B10 rfl) ?_
      refine st (call1 En76 rfl (fun v w he h => by cases h; exact len_spec _ w)) ?_
      refine st ((max2 rfl rfl).eq (congrArg (Value.int .i64) (show max ((mTo ls k : Nat) : Int) (card C : Nat) = ((mTo ls (k + 1) : Nat) : Int) from by rw [hm1]; omega))) ?_
      refine en fun a w e' hf => ?_
      replace hT := hT.ext e'
      replace HV := Dv.ex HV e'
      replace kh := kh.tr (Kh.ext e')
      replace HL := Dv.ex HL e'
      replace hNw := Nat.le_trans hNw e'.size
      replace e := Ext.tr e e'
      replace B2 := B2.ext e'
      replace B3 := B3.ext e'
      replace B5 := B5.ext e'
      replace B6 := B6.ext e'
      replace B10 := B10.ext e'
      clear e'
      refine tl_as hf rfl (by decide) fun a hf => ?_
      refine tl_nil ?_
      try simp only [Exit.then, Exit.inBlock, ↓reduceIte]
      replace hf := hf.keep [2, 3, 5, 6, 7, 8, 17, 18, 19]
      dsimp only [keep, List.filterMap, look, Nat.beq, Option.map] at hf
      repeat refine seq ?_
      refine regn 1 hf (by decide +kernel) ?_
      refine st ((add rfl rfl (by omega)).eq (congrArg (Value.int .i64) (show (k : Int) + 1 = ((k + 1 : Nat) : Int) from rfl))) ?_
      refine en fun a w e' hf => ?_
      replace hT := hT.ext e'
      replace HV := Dv.ex HV e'
      replace kh := kh.tr (Kh.ext e')
      replace HL := Dv.ex HL e'
      replace hNw := Nat.le_trans hNw e'.size
      replace e := Ext.tr e e'
      replace B2 := B2.ext e'
      replace B3 := B3.ext e'
      replace B5 := B5.ext e'
      replace B6 := B6.ext e'
      replace B10 := B10.ext e'
      clear e'
      refine tl_op hf (by decide) (mv rfl) fun a w e' hf => ?_
      replace hT := hT.ext e'
      replace HV := Dv.ex HV e'
      replace kh := kh.tr (Kh.ext e')
      replace HL := Dv.ex HL e'
      replace hNw := Nat.le_trans hNw e'.size
      replace e := Ext.tr e e'
      replace B2 := B2.ext e'
      replace B3 := B3.ext e'
      replace B5 := B5.ext e'
      replace B6 := B6.ext e'
      replace B10 := B10.ext e'
      clear e'
      refine tl_nil ?_
      replace hf := hf.keep [2, 3, 5, 6, 7, 8, 17, 18, 19]
      dsimp only [keep, List.filterMap, look, Nat.beq, Option.map] at hf
      exact ⟨ls.length - (k + 1), by omega, k + 1, rfl, by omega, hf, ⟨e, hT, HV, kh⟩, B2, B3, B5, B6, HL, hNw⟩
    · obtain rfl : k = ls.length := by have := of_decide_eq_false hc; omega
      clear hc
      simp only [Exit.then, Exit.inBlock, ↓reduceIte]
      rw [← hmx] at hf
      replace hf := hf.keep [2, 3, 5, 6, 7, 8]
      dsimp only [keep, List.filterMap, look, Nat.beq, Option.map] at hf
      have hst : ∀ c : Bool, c = decide ((cenTo fs part s).1 < 0 ∨ (mostB fs part x : Int) < (cenTo fs part s).2) → cenTo fs part (s ++ [x]) = if c = true then ((x : Int), (mostB fs part x : Int)) else cenTo fs part s := by
        intro c hc
        rw [cenTo_app, cenStep, hc]
        simp only [decide_eq_true_eq]
      obtain ⟨c, hcE⟩ : ∃ c, c = decide ((cenTo fs part s).1 < 0 ∨ (mostB fs part x : Int) < (cenTo fs part s).2) := ⟨_, rfl⟩
      replace hst := hst c hcE
      have hJn : ∀ (w : World), Ext W w → Tab w → (Dv (slE setE) (GB W Go.Mono.G0) fs).p fv w → Kh Bz w3 w → Blk w b2 #[fv] 125 → Blk w b3 (setC part) 37 → Blk w b5 #[I (cenTo fs part (s ++ [x])).1] 3 → Blk w b6 #[I (cenTo fs part (s ++ [x])).2] 3 →
          RJ W fs fv [(b2, #[fv], 125), (b3, setC part, 37), (b5, #[I (cenTo fs part (s ++ [x])).1], 3), (b6, #[I (cenTo fs part (s ++ [x])).2], 3)] [] w ∧ Kh Bz w3 w := fun w e hT HV kh B2 B3 B5 B6 => ⟨⟨e, hT, HV, ⟨B2, B3, B5, B6, trivial⟩, Ds.nil _⟩, kh⟩
      repeat refine seq ?_
      refine cut (J := fun a w => Fr 38 a w [(2, E (.pointer (some ⟨b2, 0, none⟩))), (3, E (.pointer (some ⟨b3, 0, none⟩))), (5, E (.pointer (some ⟨b5, 0, none⟩))), (6, E (.pointer (some ⟨b6, 0, none⟩))), (7, E (I (x : Nat))), (8, E (I (mostB fs part x : Nat))), (34, E (B c))] ∧ Ext W w ∧ Tab w ∧ (Dv (slE setE) (GB W Go.Mono.G0) fs).p fv w ∧ Kh Bz w3 w ∧ Blk w b2 #[fv] 125 ∧ Blk w b3 (setC part) 37 ∧ Blk w b5 #[I (cenTo fs part s).1] 3 ∧ Blk w b6 #[I (cenTo fs part s).2] 3) ?_ (fun a w hJ => ?_)
      · cases h1 : decide ((cenTo fs part s).1 < 0)
        all_goals cases h2 : decide ((mostB fs part x : Int) < (cenTo fs part s).2)
        all_goals
          repeat refine seq ?_
          refine regn 7 hf (by decide +kernel) ?_
          refine st (ld1 T3 rfl B5 rfl) ?_
          refine st ((lss rfl rfl).eq (congrArg Value.bool (h1))) ?_
          refine st (mv rfl) ?_
          first | refine sn rfl rfl rfl ?_ | refine su rfl rfl ?_ | refine sy rfl rfl (mv rfl) ?_
          first | refine sn rfl rfl rfl ?_ | refine su rfl rfl ?_ | refine sy rfl rfl (ld1 T3 rfl B6 rfl) ?_
          first | refine sn rfl rfl rfl ?_ | refine su rfl rfl ?_ | refine sy rfl rfl ((lss rfl rfl).eq (congrArg Value.bool (h2))) ?_
          first | refine st ((pkT rfl rfl).eq (show Value.bool _ = B c from congrArg Value.bool (by rw [hcE, Bool.decide_or, h1, h2]; rfl))) ?_ | refine st ((pkF rfl rfl).eq (show Value.bool _ = B c from congrArg Value.bool (by rw [hcE, Bool.decide_or, h1, h2]; rfl))) ?_ | refine st ((pk rfl rfl rfl).eq (show Value.bool _ = B c from congrArg Value.bool (by rw [hcE, Bool.decide_or, h1, h2]; rfl))) ?_
          refine en fun a w e' hf => ?_
          replace hT := hT.ext e'
          replace HV := Dv.ex HV e'
          replace kh := kh.tr (Kh.ext e')
          replace e := Ext.tr e e'
          replace B2 := B2.ext e'
          replace B3 := B3.ext e'
          replace B5 := B5.ext e'
          replace B6 := B6.ext e'
          clear e'
          refine tl_nil ?_
          replace hf := hf.keep [2, 3, 5, 6, 7, 8, 34]
          dsimp only [keep, List.filterMap, look, Nat.beq, Option.map] at hf
          exact ⟨rfl, hf, e, hT, HV, kh, B2, B3, B5, B6⟩
      clear hf e hT HV kh B2 B3 B5 B6
      obtain ⟨hf, e, hT, HV, kh, B2, B3, B5, B6⟩ := hJ
      try simp only [Exit.then]
      have hl5 := B5.lt
      repeat refine seq ?_
      refine ifc hf rfl (fun hb => ?_) (fun hb => ?_)
      · rw [hb, if_pos rfl] at hst
        repeat refine seq ?_
        refine regn 2 hf (by decide +kernel) ?_
        refine st (mv rfl) ?_
        refine st (mv rfl) ?_
        refine en fun a w e' hf => ?_
        replace hT := hT.ext e'
        replace HV := Dv.ex HV e'
        replace kh := kh.tr (Kh.ext e')
        replace e := Ext.tr e e'
        replace B2 := B2.ext e'
        replace B3 := B3.ext e'
        replace B5 := B5.ext e'
        replace B6 := B6.ext e'
        clear e'
        haveI hinr : ∀ G0, InR (GB W G0) (some b5) := fun G0 => InR.gb (by omega)
        refine tl_st1 T3 hf rfl rfl rfl B5 (by exact Nat.zero_lt_one) fun w hg hsz B5 hf => ?_
        replace hT := hT.gr hg (by omega)
        replace HV := Dv.gr HV hg (.inr (by omega))
        replace kh := kh.tr (Kh.gr hg (fun hh => by have := hh.1; have := hh.2; omega))
        replace e := e.gr hg (by omega)
        replace B2 := B2.gr hg (by omega)
        replace B3 := B3.gr hg (by omega)
        replace B6 := B6.gr hg (by omega)
        clear hg
        haveI hinr : ∀ G0, InR (GB W G0) (some b6) := fun G0 => InR.gb (by omega)
        refine tl_st1 T3 hf rfl rfl rfl B6 (by exact Nat.zero_lt_one) fun w hg hsz B6 hf => ?_
        replace hT := hT.gr hg (by omega)
        replace HV := Dv.gr HV hg (.inr (by omega))
        replace kh := kh.tr (Kh.gr hg (fun hh => by have := hh.1; have := hh.2; omega))
        replace e := e.gr hg (by omega)
        replace B2 := B2.gr hg (by omega)
        replace B3 := B3.gr hg (by omega)
        replace B5 := B5.gr hg (by omega)
        clear hg
        refine tl_nil ?_
        simp only [Exit.inBlock]
        refine hJn w e hT HV kh B2 B3 ?_ ?_
        · rw [hst]; exact B5
        · rw [hst]; exact B6
      · rw [hb, if_neg (by decide)] at hst
        refine wskip ?_
        simp only [Exit.inBlock]
        refine hJn w e hT HV kh B2 B3 ?_ ?_
        · rw [hst]; exact B5
        · rw [hst]; exact B6
  · intro a' w' hf' hJ hsz hDn
    simp only [Exit.inBlock, ↓reduceIte, Exit.then]
    have hD : Ds [w.heap.size] w' := (Ds.nil w').cons hDn (by simp)
    have hf : FrD 38 (marks [w.heap.size]) a' w' [(5, E (.pointer (some ⟨b5, 0, none⟩)))] := hf'.keep [5]
    have hDW : ∀ d ∈ [w.heap.size], W.heap.size ≤ d := fun d hd => by rw [List.mem_singleton] at hd; omega
    clear hf' e hT HV B2 B3 B5 B6 BS hDn
    obtain ⟨e, hT, HV, ⟨B2, B3, B5, B6, _⟩, _⟩ := hJ
    generalize [w.heap.size] = D2 at *
    generalize w' = w at *
    repeat refine seq ?_
    refine regn 1 hf (by decide +kernel) ?_
    refine st (ld1 T3 rfl B5 rfl) ?_
    refine en fun a w e' hf => ?_
    replace e := Ext.tr e e'
    replace B5 := B5.ext e'
    replace hD := hD.ext e'
    clear e'
    refine tl_as hf rfl (by decide) fun a hf => ?_
    refine tl_nil ?_
    refine wret ?_
    try simp only [Exit.then, Exit.inBlock]
    exact ret1M rfl hf rfl hD ⟨_, rfl, e.shut hDW, rfl⟩
end Go.Mono

set_option linter.unusedVariables false
set_option linter.unusedSimpArgs false
namespace Go.Mono
open Go Go.Proofs Go.RowKit

/-- where the search for the next bag stands -/
structure PAJ (W : World) (fs : List BS) (fv : Value) (b4 b5 b6 b7 b8 b9 y z : Nat) (part r : BS) (D : List Nat) (w : World) : Prop where
  e : Ext W w
  t : Tab w
  hv : (Dv (slE setE) (GB W Go.Mono.G0) fs).p fv w
  b4 : Blk w b4 #[fv] 125
  b5 : Blk w b5 (setC part) 37
  b6 : Blk w b6 #[I (z : Nat)] 3
  b7 : Blk w b7 #[I (y : Nat)] 3
  b8 : Blk w b8 (setC 0) 37
  b9 : Blk w b9 (setC r) 37
  ds : Ds D w
theorem PAJ.kp {W : World} {fs : List BS} {fv : Value} {b4 b5 b6 b7 b8 b9 y z : Nat} {part r : BS} {D : List Nat} {B : Nat} {w w' : World} (h : PAJ W fs fv b4 b5 b6 b7 b8 b9 y z part r D w) (k : Kp B w w') (hW : W.heap.size ≤ B) (h0 : 0 < B) (l4 : b4 < B) (l5 : b5 < B) (l6 : b6 < B) (l7 : b7 < B) (l8 : b8 < B) (l9 : b9 < B) (hD : ∀ d ∈ D, d < B) :
    PAJ W fs fv b4 b5 b6 b7 b8 b9 y z part r D w' :=
  have no : ∀ {b}, b < B → ¬Hole B b := fun h hh => by have := hh.1; omega
  ⟨h.e.kp k hW, h.t.kp k h0, Dv.ch h.hv k.chg (fun b hb => .inr (by have := hb.1; omega)), h.b4.kp k (no l4), h.b5.kp k (no l5), h.b6.kp k (no l6), h.b7.kp k (no l7), h.b8.kp k (no l8), h.b9.kp k (no l9), h.ds.ch k.chg fun d hd => no (hD d hd)⟩

theorem path_spec {G2 : Nat → Prop} {T : Tr} {fs : List BS} (F : Fo fs T) (part : BS) (x y : Nat) (fv : Value) (W : World) (hT : Tab W) (h : (Dv (slE setE) G2 fs).p fv W) (hin : ∀ i, part.getLsbD i = true → i < T.n) (hC : T.conn (bits part)) (hx : part.getLsbD x = true) (hy : part.getLsbD y = true) :
    Calls Tryd.prog 146 #[fv, setV part, I (x : Nat), I (y : Nat)] W (Post (E (setV (pathB fs part x y))) W) := by
  have HV : (Dv (slE setE) (GB W Go.Mono.G0) fs).p fv W := Dv.toB (Dv.weak h fun b _ hb => hb.elim)
  clear h
  have hT0 := hT.lt
  have h1 := one_cells (Dv.slOne HV)
  have hxn := hin x hx
  have hyn := hin y hy
  have hle := F.le
  refine enterM (args := [fv, setV part, I (x : Nat), I (y : Nat)]) (As := [E fv, E (setV part), E (I (x : Nat)), E (I (y : Nat))]) Tryd.func146 rfl Tryd.ntmps146 (Nat.le_of_ble_eq_true rfl) ?_ (fun a hf => ?_) (Nat.le_of_ble_eq_true rfl)
  · exact argC rfl (argC rfl (argC rfl (argC rfl argZ)))
  dsimp only [params, Nat.reduceAdd] at hf
  have e := Ext.rfl' W
  repeat refine seq ?_
  refine regn0 ?_
  refine tl_box hf rfl (by decide) fun a b4 w v4 hv4 e' hb4 hs4 B4 hf => ?_
  have hle4 := Nat.le_trans e.size (Nat.le_of_eq hb4.symm)
  replace hT := hT.ext e'
  replace HV := Dv.ex HV e'
  replace e := Ext.tr e e'
  clear e'
  refine tl_box hf rfl (by decide) fun a b5 w v5 hv5 e' hb5 hs5 B5 hf => ?_
  have hle5 := Nat.le_trans e.size (Nat.le_of_eq hb5.symm)
  have lt5_B4 := B4.lt
  replace hT := hT.ext e'
  replace HV := Dv.ex HV e'
  replace e := Ext.tr e e'
  replace B4 := B4.ext e'
  clear e'
  refine tl_box hf rfl (by decide) fun a b6 w v6 hv6 e' hb6 hs6 B6 hf => ?_
  have hle6 := Nat.le_trans e.size (Nat.le_of_eq hb6.symm)
  have lt6_B4 := B4.lt
  have lt6_B5 := B5.lt
  replace hT := hT.ext e'
  replace HV := Dv.ex HV e'
  replace e := Ext.tr e e'
  replace B4 := B4.ext e'
  replace B5 := B5.ext e'
  clear e'
  refine tl_box hf rfl (by decide) fun a b7 w v7 hv7 e' hb7 hs7 B7 hf => ?_
  have hle7 := Nat.le_trans e.size (Nat.le_of_eq hb7.symm)
  have lt7_B4 := B4.lt
  have lt7_B5 := B5.lt
  have lt7_B6 := B6.lt
  replace hT := hT.ext e'
  replace HV := Dv.ex HV e'
  replace e := Ext.tr e e'
  replace B4 := B4.ext e'
  replace B5 := B5.ext e'
  replace B6 := B6.ext e'
  clear e'
  refine tl_alloc I37 hf (by decide) fun a b8 w e' hb8 hs8 B8 hf => ?_
  have hle8 := Nat.le_trans e.size (Nat.le_of_eq hb8.symm)
  have lt8_B4 := B4.lt
  have lt8_B5 := B5.lt
  have lt8_B6 := B6.lt
  have lt8_B7 := B7.lt
  replace hT := hT.ext e'
  replace HV := Dv.ex HV e'
  replace e := Ext.tr e e'
  replace B4 := B4.ext e'
  replace B5 := B5.ext e'
  replace B6 := B6.ext e'
  replace B7 := B7.ext e'
  clear e'
  refine tl_nil ?_
  cases hv4
  cases hv5
  cases hv6
  cases hv7
  rw [h1] at B4
  replace B5 : Blk w b5 (setC part) 37 := B5
  replace B6 : Blk w b6 #[I (x : Nat)] 3 := B6
  replace B7 : Blk w b7 #[I (y : Nat)] 3 := B7
  simp only [Value.cells, zeroC] at B8
  have n8 : W.heap.size ≤ b4 ∧ W.heap.size ≤ b5 ∧ W.heap.size ≤ b6 ∧ W.heap.size ≤ b7 ∧ W.heap.size ≤ b8 ∧ b5 ≠ b4 ∧ b6 ≠ b4 ∧ b6 ≠ b5 ∧ b7 ≠ b4 ∧ b7 ≠ b5 ∧ b7 ≠ b6 ∧ b8 ≠ b4 ∧ b8 ≠ b5 ∧ b8 ≠ b6 ∧ b8 ≠ b7 := by omega
  have l4 := B4.lt
  have l5 := B5.lt
  have l6 := B6.lt
  have l7 := B7.lt
  have l8 := B8.lt
  replace hf := hf.keep [4, 5, 6, 7, 8]
  dsimp only [keep, List.filterMap, look, Nat.beq, Option.map] at hf
  repeat refine seq ?_
  refine regn 3 hf (by decide +kernel) ?_
  refine st (ld1 T3 rfl B6 rfl) ?_
  refine st (bsl1 (e := intE) (G := Go.Mono.G0) Tryd.underlying43 I3 rfl (by decide) rfl (fun b hb => hb.elim) (isI rfl)) ?_
  refine st ((call1 En88 rfl (fun v w he h => of_spec [(x : Int)] v w h (by simp))).eq (congrArg setV (fold1 (x : Int) 0))) ?_
  refine en fun a w e' hf => ?_
  replace hT := hT.ext e'
  replace HV := Dv.ex HV e'
  replace e := Ext.tr e e'
  replace B4 := B4.ext e'
  replace B5 := B5.ext e'
  replace B6 := B6.ext e'
  replace B7 := B7.ext e'
  replace B8 := B8.ext e'
  clear e'
  replace hf := hf.keep [4, 5, 6, 7, 8, 13]
  dsimp only [keep, List.filterMap, look, Nat.beq, Option.map] at hf
  refine tl_alloc I37 hf (by decide) fun a b9 w e' hb9 hs9 B9 hf => ?_
  have hle9 := Nat.le_trans e.size (Nat.le_of_eq hb9.symm)
  have lt9_B4 := B4.lt
  have lt9_B5 := B5.lt
  have lt9_B6 := B6.lt
  have lt9_B7 := B7.lt
  have lt9_B8 := B8.lt
  replace hT := hT.ext e'
  replace HV := Dv.ex HV e'
  replace e := Ext.tr e e'
  replace B4 := B4.ext e'
  replace B5 := B5.ext e'
  replace B6 := B6.ext e'
  replace B7 := B7.ext e'
  replace B8 := B8.ext e'
  clear e'
  haveI hinr : ∀ G0, InR (GB W G0) (some b9) := fun G0 => InR.gb (by omega)
  refine tl_stW T37 hf rfl rfl (wordsC_one _) B9 rfl (rfl) fun w hg hsz B9 hf => ?_
  replace hT := hT.gr hg (by omega)
  replace HV := Dv.gr HV hg (.inr (by omega))
  replace e := e.gr hg (by omega)
  replace B4 := B4.gr hg (by omega)
  replace B5 := B5.gr hg (by omega)
  replace B6 := B6.gr hg (by omega)
  replace B7 := B7.gr hg (by omega)
  replace B8 := B8.gr hg (by omega)
  clear hg
  refine tl_nil ?_
  replace hf := hf.keep [4, 5, 6, 7, 8, 9]
  dsimp only [keep, List.filterMap, look, Nat.beq, Option.map] at hf
  have n9 : b9 ≠ b4 ∧ b9 ≠ b5 ∧ b9 ≠ b6 ∧ b9 ≠ b7 ∧ b9 ≠ b8 ∧ W.heap.size ≤ b9 := by omega
  have hr0 : ∀ i, (ins 0 (x : Int)).getLsbD i = true ↔ T.P i x x := fun i => by
    rw [bit_ins 0 (by omega), P_self hxn]
    exact ⟨fun h => h.resolve_left (bit_zero i), .inr⟩
  repeat refine seq ?_
  refine blk (loopN (fun r0 a w => ∃ (z : Nat) (r : BS) (D : List Nat), r0 = T.dist z y ∧ part.getLsbD z = true ∧ (∀ i, r.getLsbD i = true ↔ T.P i x z) ∧ T.P z x y ∧ FrD 40 (marks D) a w [(4, E (.pointer (some ⟨b4, 0, none⟩))), (5, E (.pointer (some ⟨b5, 0, none⟩))), (6, E (.pointer (some ⟨b6, 0, none⟩))), (7, E (.pointer (some ⟨b7, 0, none⟩))), (8, E (.pointer (some ⟨b8, 0, none⟩))), (9, E (.pointer (some ⟨b9, 0, none⟩)))] ∧
    PAJ W fs fv b4 b5 b6 b7 b8 b9 y z part r D w ∧ ∀ d ∈ D, W.heap.size ≤ d) (T.dist x y) ⟨x, ins 0 (x : Int), [], rfl, hx, hr0, Tr.P.left, hf, ⟨e, hT, HV, B4, B5, B6, B7, B8, B9, Ds.nil _⟩, fun d hd => by cases hd⟩ ?_)
  clear hf e hT HV B4 B5 B6 B7 B8 B9 l4 l5 l6 l7 l8
  rintro r0 a w ⟨z, r, D, rfl, hz, hr, hP, hf, ⟨e, hT, HV, B4, B5, B6, B7, B8, B9, hD⟩, hDW⟩
  have hzn := hin z hz
  repeat refine seq ?_
  refine regn 3 hf (by decide +kernel) ?_
  refine st (ld1 T3 rfl B6 rfl) ?_
  refine st (ld1 T3 rfl B7 rfl) ?_
  refine st (neq rfl rfl) ?_
  refine en fun a w e' hf => ?_
  replace hT := hT.ext e'
  replace HV := Dv.ex HV e'
  replace e := Ext.tr e e'
  replace B4 := B4.ext e'
  replace B5 := B5.ext e'
  replace B6 := B6.ext e'
  replace B7 := B7.ext e'
  replace B8 := B8.ext e'
  replace B9 := B9.ext e'
  replace hD := hD.ext e'
  clear e'
  refine tl_nil ?_
  repeat refine seq ?_
  refine ifc hf rfl (fun hc => wskip ?_) (fun hc => wexit ?_)
  rotate_left
  · have hzy : z = y := by
      have h1 : ((z : Nat) : Int) = (y : Nat) := by simpa using hc
      omega
    subst hzy
    simp only [Exit.then, Exit.inBlock, ↓reduceIte]
    obtain rfl : r = pathB fs part x z := set_ext' fun i => by rw [hr i, (path_some F hin hC hx hy).2 i]
    have n98 : b8 ≠ b9 := by omega
    have hD8 : ¬ b8 ∈ D := hD.ne B8
    replace hf := hf.keep [8, 9]
    dsimp only [keep, List.filterMap, look, Nat.beq, Option.map] at hf
    repeat refine seq ?_
    refine regn 1 hf (by decide +kernel) ?_
    refine st (ldW T37 rfl B9 rfl) ?_
    refine en fun a w e' hf => ?_
    replace e := Ext.tr e e'
    replace B8 := B8.ext e'
    replace B9 := B9.ext e'
    replace hD := hD.ext e'
    clear e'
    refine tl_stW T37 hf rfl rfl (wordsC_one _) B8 rfl (setC_size _) fun w hg hsz B8 hf => ?_
    replace e := e.gr hg (by omega)
    replace hD := hD.gr hg hD8
    clear hg
    refine tl_nil ?_
    refine wret ?_
    try simp only [Exit.then, Exit.inBlock]
    exact retcM rfl T37 hf rfl B8 (setC_size _) hD ⟨_, rfl, e.shut hDW, rfl⟩
  have hne : z ≠ y := by
    rintro rfl
    simp at hc
  clear hc
  obtain ⟨k, k1, k2, k3, k4, k5⟩ := path_next F hin hC hx hy hz hr hP hne
  generalize hS : (sg fs z &&& part) &&& ~~~r = S at k1
  have hzf : z < fs.length := by rw [F.len]; exact hzn
  have hdin := del_in (part := part) hin (z : Int)
  have hSd : ∀ n, S.getLsbD n = true → (del part (z : Int)).getLsbD n = true := fun n hn => by
    rw [← hS, bit_diff, bit_and, F.adj hzn] at hn
    rw [bit_del part (by omega)]
    exact ⟨hn.1.2, fun e => hn.1.1.2.symm.ne hn.1.1.1 e⟩
  simp only [Exit.then, Exit.inBlock, ↓reduceIte]
  obtain ⟨Nz, hNz⟩ : ∃ Nz, Nz = w.heap.size := ⟨_, rfl⟩
  repeat refine seq ?_
  refine blk ?_
  replace hf := hf.keep [4, 5, 6, 7, 8, 9]
  dsimp only [keep, List.filterMap, look, Nat.beq, Option.map] at hf
  repeat refine seq ?_
  refine reg 9 Mix.mix hf (by decide +kernel) ?_
  refine st (ld1 T125 rfl B4 rfl) ?_
  refine st (ld1 T3 rfl B6 rfl) ?_
  refine st (idxD Tryd.underlying125 S37 (isE rfl HV) rfl (by omega) (sg_get hzf)) ?_
  refine st (ldS T37 (isR rfl)) ?_
  refine st (ldW T37 rfl B5 rfl) ?_
  refine st (call2 En78 rfl rfl (fun v u w he h h' => by cases h; cases h'; exact inter_spec _ _ w)) ?_
  refine st (ldW T37 rfl B9 rfl) ?_
  refine st (call2 (A := E (setV S)) En105 rfl rfl (fun v u w he h h' => by cases h; cases h'; rw [← hS]; exact minus_spec _ _ w)) ?_
  refine st (call1 (A := SeqA Nz S) En106 rfl (fun v w' he h => by cases h; exact Calls.mono (all_spec _ w') (fun en w2 ⟨u, h1, h2, b', h3, h4, h5⟩ => ⟨u, h1, h2, b', by have := he.size; omega, h4, h5⟩))) ?_
  refine en fun a w e' hf => ?_
  replace hT := hT.ext e'
  replace HV := Dv.ex HV e'
  replace e := Ext.tr e e'
  replace B4 := B4.ext e'
  replace B5 := B5.ext e'
  replace B6 := B6.ext e'
  replace B7 := B7.ext e'
  replace B8 := B8.ext e'
  replace B9 := B9.ext e'
  replace hD := hD.ext e'
  clear e'
  refine tl_nil ?_
  obtain ⟨vv, ⟨b25, h25, rfl, BS⟩, hf⟩ := hf.fix 25 rfl
  replace hf := hf.keep [4, 5, 6, 7, 8, 9, 25]
  dsimp only [keep, List.filterMap, look, Nat.beq, Option.map] at hf
  have l4 := B4.lt
  have l5 := B5.lt
  have l6 := B6.lt
  have l7 := B7.lt
  have l8 := B8.lt
  have l9 := B9.lt
  have lD : ∀ d ∈ D, d < w.heap.size := fun d hd => hD.lt hd
  have hBW : W.heap.size ≤ w.heap.size := e.size
  have h0w : 0 < w.heap.size := hT.lt
  repeat refine seq ?_
  refine blk ?_
  refine range_all3 (S := S) hf rfl BS (by decide) (fun s w1 => PAJ W fs fv b4 b5 b6 b7 b8 b9 y z part r D w1 ∧ ∀ n ∈ s, (compB fs (del part (z : Int)) n).getLsbD y = false) (fun ex w1 => ex = .exit 2 ∧ PAJ W fs fv b4 b5 b6 b7 b8 b9 y k part r D w1) (fun s w1 h => h.1.t)
    ⟨⟨e, hT, HV, B4, B5, B6, B7, B8, B9, hD⟩, fun n hn => by cases hn⟩ (fun s w1 w2 h hs kk => ⟨h.1.kp kk hBW h0w l4 l5 l6 l7 l8 l9 lD, h.2⟩) (fun ex w1 w2 h hs kk => ⟨h.1, h.2.kp kk hBW h0w l4 l5 l6 l7 l8 l9 lD⟩) ?_ ?_ ?_
  · intro l s x' rest a1 w1 hs hJ hlw hf
    have hxS : S.getLsbD x' = true := (mem_elems.1 (by rw [hs]; simp)).2
    have hxd := hSd x' hxS
    generalize hBz : w.heap.size = Bz at *
    refine regn0 ?_
    refine tl_as hf rfl (by decide) fun a hf => ?_
    refine tl_nil ?_
    simp only [Exit.then]
    refine ⟨Kh.rfl' _ _, fun w3 k3' hsz3 => ?_⟩
    have hJ3 := hJ.1.kp k3' hBW h0w l4 l5 l6 l7 l8 l9 lD
    have hJn := hJ.2
    clear e hT HV B4 B5 B6 B7 B8 B9 BS hD hJ
    replace hf := hf.pure w3
    obtain ⟨e, hT, HV, B4, B5, B6, B7, B8, B9, hD⟩ := hJ3
    have kh := Kh.rfl' Bz w3
    replace hf := hf.keep [4, 5, 6, 7, 10]
    dsimp only [keep, List.filterMap, look, Nat.beq, Option.map] at hf
    repeat refine seq ?_
    refine blk ?_
    obtain ⟨c, hc⟩ : ∃ c, (compB fs (del part (z : Int)) x').getLsbD y = c := ⟨_, rfl⟩
    have hc2 : has (compB fs (del part (z : Int)) x') (y : Int) = c := by rw [← hc, Bool.eq_iff_iff]; exact has_bit _ y
    repeat refine seq ?_
    refine reg 8 Mix.mix hf (by decide +kernel) ?_
    refine st (ld1 (v := fv) T125 rfl B4 rfl) ?_
    refine st (mv rfl) ?_
    refine st (ldW T37 rfl B5 rfl) ?_
    refine st (ld1 T3 rfl B6 rfl) ?_
    refine st (call2 En81 rfl rfl (fun v u w he h h' => by cases h; cases h'; exact without_spec _ _ w)) ?_
    refine st (call3 (A := E (setV (compB fs (del part (z : Int)) x'))) En147 rfl rfl rfl (fun v u s w he h h' h'' => by cases h; cases h'; cases h''; exact comp_spec2 F x' _ fv w (hT.ext he) (Dv.ex HV he) hdin hxd)) ?_
    refine st (ld1 T3 rfl B7 rfl) ?_
    refine st ((call2 En23 rfl rfl (fun v u w he h h' => by cases h; cases h'; exact has_spec _ _ w)).eq (congrArg Value.bool (hc2))) ?_
    refine en fun a w e' hf => ?_
    replace hT := hT.ext e'
    replace HV := Dv.ex HV e'
    replace kh := kh.tr (Kh.ext e')
    replace e := Ext.tr e e'
    replace B4 := B4.ext e'
    replace B5 := B5.ext e'
    replace B6 := B6.ext e'
    replace B7 := B7.ext e'
    replace B8 := B8.ext e'
    replace B9 := B9.ext e'
    replace hD := hD.ext e'
    clear e'
    refine tl_nil ?_
    repeat refine seq ?_
    refine ifc hf rfl (fun hb => ?_) (fun hb => ?_)
    · have hxk : x' = k := by
        have h2 : (elems S).find? (fun n => (compB fs (del part (z : Int)) n).getLsbD y) = some x' := by
          rw [hs, List.find?_append]
          have h3 : s.find? (fun n => (compB fs (del part (z : Int)) n).getLsbD y) = none := by
            rw [List.find?_eq_none]
            intro n hn hh
            rw [hJn n hn] at hh; cases hh
          rw [h3, List.find?_cons, hc, hb]; rfl
        rw [h2] at k1
        exact Option.some.inj k1
      subst hxk
      have hD6 : ¬ b6 ∈ D := hD.ne B6
      repeat refine seq ?_
      refine regn 1 hf (by decide +kernel) ?_
      refine st (mv rfl) ?_
      refine en fun a w e' hf => ?_
      replace hT := hT.ext e'
      replace HV := Dv.ex HV e'
      replace kh := kh.tr (Kh.ext e')
      replace hD := hD.ext e'
      replace e := Ext.tr e e'
      replace B4 := B4.ext e'
      replace B5 := B5.ext e'
      replace B6 := B6.ext e'
      replace B7 := B7.ext e'
      replace B8 := B8.ext e'
      replace B9 := B9.ext e'
      clear e'
      refine tl_st1 T3 hf rfl rfl rfl B6 (by exact Nat.zero_lt_one) fun w hg hsz B6 hf => ?_
      replace hT := hT.gr hg (by omega)
      replace HV := Dv.gr HV hg (.inr (by omega))
      replace kh := kh.tr (Kh.gr hg (fun hh => by have := hh.1; omega))
      replace hD := hD.gr hg hD6
      replace e := e.gr hg (by omega)
      replace B4 := B4.gr hg (by omega)
      replace B5 := B5.gr hg (by omega)
      replace B7 := B7.gr hg (by omega)
      replace B8 := B8.gr hg (by omega)
      replace B9 := B9.gr hg (by omega)
      clear hg
      refine tl_nil ?_
      refine wexit ?_
      simp only [Exit.then, Exit.inBlock]
      exact ⟨⟨rfl, e, hT, HV, B4, B5, B6, B7, B8, B9, hD⟩, kh⟩
    · refine wskip ?_
      simp only [Exit.inBlock]
      exact ⟨⟨⟨e, hT, HV, B4, B5, B6, B7, B8, B9, hD⟩, fun n hn => by
        rcases List.mem_append.1 hn with h | h
        · exact hJn n h
        · rw [List.mem_singleton] at h; subst h; rw [hc, hb]⟩, kh⟩
  · intro a' w' _ hJ _ _
    have h1 := List.find?_some k1
    have h2 := hJ.2 k (List.mem_of_find?_eq_some k1)
    try simp only at h1
    rw [h2] at h1; cases h1
  · intro ex c a' w' hcd hf' hX hsz hDn
    obtain ⟨rfl, hJ⟩ := hX
    simp only [Exit.inBlock, ↓reduceIte, Exit.then]
    have hD2 : Ds (w.heap.size :: D) w' := hJ.ds.cons hDn fun hm => Nat.lt_irrefl _ (lD _ hm)
    have hf : FrD 40 (marks (w.heap.size :: D)) a' w' [(4, E (.pointer (some ⟨b4, 0, none⟩))), (5, E (.pointer (some ⟨b5, 0, none⟩))), (6, E (.pointer (some ⟨b6, 0, none⟩))), (7, E (.pointer (some ⟨b7, 0, none⟩))), (8, E (.pointer (some ⟨b8, 0, none⟩))), (9, E (.pointer (some ⟨b9, 0, none⟩)))] := hf'.keep [4, 5, 6, 7, 8, 9]
    have hDW2 : ∀ d ∈ w.heap.size :: D, W.heap.size ≤ d := fun d hd => by
      rcases List.mem_cons.1 hd with rfl | hd
      · exact hBW
      · exact hDW d hd
    clear hf' e hT HV B4 B5 B6 B7 B8 B9 BS hD hDn hDW
    obtain ⟨e, hT, HV, B4, B5, B6, B7, B8, B9, _⟩ := hJ
    replace hD := hD2
    clear hD2
    generalize w.heap.size :: D = D2 at *
    generalize w' = w at *
    have hD9 : ¬ b9 ∈ D2 := hD.ne B9
    repeat refine seq ?_
    refine regn 3 hf (by decide +kernel) ?_
    refine st (ldW T37 rfl B9 rfl) ?_
    refine st (ld1 T3 rfl B6 rfl) ?_
    refine st (call2 En74 rfl rfl (fun v u w he h h' => by cases h; cases h'; exact with_spec _ _ w)) ?_
    refine en fun a w e' hf => ?_
    replace hT := hT.ext e'
    replace HV := Dv.ex HV e'
    replace hD := hD.ext e'
    replace e := Ext.tr e e'
    replace B4 := B4.ext e'
    replace B5 := B5.ext e'
    replace B6 := B6.ext e'
    replace B7 := B7.ext e'
    replace B8 := B8.ext e'
    replace B9 := B9.ext e'
    clear e'
    haveI hinr : ∀ G0, InR (GB W G0) (some b9) := fun G0 => InR.gb (by omega)
    refine tl_stW T37 hf rfl rfl (wordsC_one _) B9 rfl (rfl) fun w hg hsz B9 hf => ?_
    replace hT := hT.gr hg (by omega)
    replace HV := Dv.gr HV hg (.inr (by omega))
    replace hD := hD.gr hg hD9
    replace e := e.gr hg (by omega)
    replace B4 := B4.gr hg (by omega)
    replace B5 := B5.gr hg (by omega)
    replace B6 := B6.gr hg (by omega)
    replace B7 := B7.gr hg (by omega)
    replace B8 := B8.gr hg (by omega)
    clear hg
    refine tl_nil ?_
    replace hf := hf.keep [4, 5, 6, 7, 8, 9]
    dsimp only [keep, List.filterMap, look, Nat.beq, Option.map] at hf
    exact ⟨T.dist k y, k5, k, ins r (k : Int), D2, rfl, k2, k3, k4, hf, ⟨e, hT, HV, B4, B5, B6, B7, B8, B9, hD⟩, hDW2⟩
end Go.Mono

set_option linter.unusedVariables false
set_option linter.unusedSimpArgs false
namespace Go.Mono
open Go Go.Proofs Go.RowKit

def endsI (fs : List BS) (part : BS) (s : List Nat) : List Int := s.map fun n => ((endB fs part n : Nat) : Int)
/-- where the loop over the bags outside stands -/
structure SLJ (W : World) (fs : List BS) (fv : Value) (x3 x4 x5 x6 x7 x8 c : Nat) (part out : BS) (xs : List Int) (B : Nat) (w : World) : Prop where
  e : Ext W w
  t : Tab w
  hv : (Dv (slE setE) (GB W Go.Mono.G0) fs).p fv w
  b3 : Blk w x3 #[fv] 125
  b4 : Blk w x4 (setC part) 37
  b5 : Blk w x5 (setC out) 37
  b6 : Blk w x6 #[I 0] 3
  b7 : Blk w x7 #[I (c : Nat)] 3
  q : ∃ u, Blk w x8 #[u] 43 ∧ OwR intE 3 W.heap.size Go.Mono.G0 w xs u ∧ (∀ g, u.ownBlock = some g → ¬Hole B g) ∧ u.ownBlock ≠ some x6 ∧ u.ownBlock ≠ some x7
theorem SLJ.kp {W : World} {fs : List BS} {fv : Value} {b3 b4 b5 b6 b7 b8 c : Nat} {part out : BS} {xs : List Int} {B : Nat} {w w' : World} (h : SLJ W fs fv b3 b4 b5 b6 b7 b8 c part out xs B w) (k : Kp B w w') (hW : W.heap.size ≤ B) (h0 : 0 < B) (l3 : b3 < B) (l4 : b4 < B) (l5 : b5 < B) (l6 : b6 < B) (l7 : b7 < B) (l8 : b8 < B) :
    SLJ W fs fv b3 b4 b5 b6 b7 b8 c part out xs B w' :=
  have no : ∀ {b}, b < B → ¬Hole B b := fun h hh => by have := hh.1; omega
  ⟨h.e.kp k hW, h.t.kp k h0, Dv.ch h.hv k.chg (fun b hb => .inr (by have := hb.1; omega)), h.b3.kp k (no l3), h.b4.kp k (no l4), h.b5.kp k (no l5), h.b6.kp k (no l6), h.b7.kp k (no l7), by
    obtain ⟨u, h1, h2, h3, h4⟩ := h.q
    exact ⟨u, h1.kp k (no l8), h2.chE k.chg h3, h3, h4⟩⟩

theorem spl_spec {G2 : Nat → Prop} {T : Tr} {fs : List BS} (F : Fo fs T) (part : BS) (fv : Value) (W : World) (hT : Tab W) (h : (Dv (slE setE) G2 fs).p fv W) (hin : ∀ i, part.getLsbD i = true → i < T.n) (hC : T.conn (bits part)) {p0 : Nat} (hp0 : part.getLsbD p0 = true) :
    Calls Tryd.prog 118 #[fv, setV part, setV (outM fs part)] W (Post (E (I (splB fs part (outM fs part) : Nat))) W) := by
  have HV : (Dv (slE setE) (GB W Go.Mono.G0) fs).p fv W := Dv.toB (Dv.weak h fun b _ hb => hb.elim)
  clear h
  have hT0 := hT.lt
  have h1 := one_cells (Dv.slOne HV)
  obtain ⟨hc, hcE, _⟩ := cen_ok (fs := fs) hp0
  have hcn := hin _ hc
  have hle := F.le
  refine enterM (args := [fv, setV part, setV (outM fs part)]) (As := [E fv, E (setV part), E (setV (outM fs part))]) Tryd.func118 rfl Tryd.ntmps118 (Nat.le_of_ble_eq_true rfl) ?_ (fun a hf => ?_) (Nat.le_of_ble_eq_true rfl)
  · exact arg3 rfl rfl rfl
  dsimp only [params, Nat.reduceAdd] at hf
  have e := Ext.rfl' W
  repeat refine seq ?_
  refine regn0 ?_
  refine tl_box hf rfl (by decide) fun a b3 w v3 hv3 e' hb3 hs3 B3 hf => ?_
  have hle3 := Nat.le_trans e.size (Nat.le_of_eq hb3.symm)
  replace hT := hT.ext e'
  replace HV := Dv.ex HV e'
  replace e := Ext.tr e e'
  clear e'
  refine tl_box hf rfl (by decide) fun a b4 w v4 hv4 e' hb4 hs4 B4 hf => ?_
  have hle4 := Nat.le_trans e.size (Nat.le_of_eq hb4.symm)
  have lt4_B3 := B3.lt
  replace hT := hT.ext e'
  replace HV := Dv.ex HV e'
  replace e := Ext.tr e e'
  replace B3 := B3.ext e'
  clear e'
  refine tl_box hf rfl (by decide) fun a b5 w v5 hv5 e' hb5 hs5 B5 hf => ?_
  have hle5 := Nat.le_trans e.size (Nat.le_of_eq hb5.symm)
  have lt5_B3 := B3.lt
  have lt5_B4 := B4.lt
  replace hT := hT.ext e'
  replace HV := Dv.ex HV e'
  replace e := Ext.tr e e'
  replace B3 := B3.ext e'
  replace B4 := B4.ext e'
  clear e'
  refine tl_alloc I3 hf (by decide) fun a b6 w e' hb6 hs6 B6 hf => ?_
  have hle6 := Nat.le_trans e.size (Nat.le_of_eq hb6.symm)
  have lt6_B3 := B3.lt
  have lt6_B4 := B4.lt
  have lt6_B5 := B5.lt
  replace hT := hT.ext e'
  replace HV := Dv.ex HV e'
  replace e := Ext.tr e e'
  replace B3 := B3.ext e'
  replace B4 := B4.ext e'
  replace B5 := B5.ext e'
  clear e'
  refine tl_nil ?_
  cases hv3
  cases hv4
  cases hv5
  rw [h1] at B3
  replace B4 : Blk w b4 (setC part) 37 := B4
  replace B5 : Blk w b5 (setC (outM fs part)) 37 := B5
  replace B6 : Blk w b6 #[I 0] 3 := B6
  have n6 : W.heap.size ≤ b3 ∧ W.heap.size ≤ b4 ∧ W.heap.size ≤ b5 ∧ W.heap.size ≤ b6 ∧ b4 ≠ b3 ∧ b5 ≠ b3 ∧ b5 ≠ b4 ∧ b6 ≠ b3 ∧ b6 ≠ b4 ∧ b6 ≠ b5 := by omega
  generalize hres : splB fs part (outM fs part) = res
  generalize hout : outM fs part = out at *
  generalize hcc : cenB fs part = c at *
  have l3 := B3.lt
  have l4 := B4.lt
  have l5 := B5.lt
  have l6 := B6.lt
  replace hf := hf.keep [3, 4, 5, 6]
  dsimp only [keep, List.filterMap, look, Nat.beq, Option.map] at hf
  repeat refine seq ?_
  refine regn 3 hf (by decide +kernel) ?_
  refine st (ld1 T125 rfl B3 rfl) ?_
  refine st (ldW T37 rfl B4 rfl) ?_
  refine st ((call2 En127 rfl rfl (fun v u w he h h' => by cases h; cases h'; exact cen_spec F part fv w (hT.ext he) (Dv.ex HV he) hin)).eq (congrArg I hcE)) ?_
  refine en fun a w e' hf => ?_
  replace hT := hT.ext e'
  replace HV := Dv.ex HV e'
  replace e := Ext.tr e e'
  replace B3 := B3.ext e'
  replace B4 := B4.ext e'
  replace B5 := B5.ext e'
  replace B6 := B6.ext e'
  clear e'
  refine tl_alloc I3 hf (by decide) fun a b7 w e' hb7 hs7 B7 hf => ?_
  have hle7 := Nat.le_trans e.size (Nat.le_of_eq hb7.symm)
  have lt7_B3 := B3.lt
  have lt7_B4 := B4.lt
  have lt7_B5 := B5.lt
  have lt7_B6 := B6.lt
  replace hT := hT.ext e'
  replace HV := Dv.ex HV e'
  replace e := Ext.tr e e'
  replace B3 := B3.ext e'
  replace B4 := B4.ext e'
  replace B5 := B5.ext e'
  replace B6 := B6.ext e'
  clear e'
  haveI hinr : ∀ G0, InR (GB W G0) (some b7) := fun G0 => InR.gb (by omega)
  refine tl_st1 T3 hf rfl rfl rfl B7 (by exact Nat.zero_lt_one) fun w hg hsz B7 hf => ?_
  replace hT := hT.gr hg (by omega)
  replace HV := Dv.gr HV hg (.inr (by omega))
  replace e := e.gr hg (by omega)
  replace B3 := B3.gr hg (by omega)
  replace B4 := B4.gr hg (by omega)
  replace B5 := B5.gr hg (by omega)
  replace B6 := B6.gr hg (by omega)
  clear hg
  refine tl_nil ?_
  replace B7 : Blk w b7 #[I (c : Nat)] 3 := B7
  have n7 : W.heap.size ≤ b7 ∧ b7 ≠ b3 ∧ b7 ≠ b4 ∧ b7 ≠ b5 ∧ b7 ≠ b6 := by omega
  clear l3 l4 l5 l6
  replace hf := hf.keep [3, 4, 5, 6, 7]
  dsimp only [keep, List.filterMap, look, Nat.beq, Option.map] at hf
  have hcl := card_le_n (S := out) (n := 1024) fun i hi => bit_lt hi
  repeat refine seq ?_
  refine regn 3 hf (by decide +kernel) ?_
  refine st (ldW T37 rfl B5 rfl) ?_
  refine st (call1 En76 rfl (fun v w he h => by cases h; exact len_spec _ w)) ?_
  refine st (lss rfl rfl) ?_
  refine en fun a w e' hf => ?_
  replace hT := hT.ext e'
  replace HV := Dv.ex HV e'
  replace e := Ext.tr e e'
  replace B3 := B3.ext e'
  replace B4 := B4.ext e'
  replace B5 := B5.ext e'
  replace B6 := B6.ext e'
  replace B7 := B7.ext e'
  clear e'
  refine tl_nil ?_
  repeat refine seq ?_
  refine ifc hf rfl (fun hb => ?_) (fun hb => ?_)
  · have hc2 : card out < 2 := by have := of_decide_eq_true hb; omega
    have hr2 : res = c := by rw [← hres, splB, if_pos hc2, hcc]
    repeat refine seq ?_
    refine regn 1 hf (by decide +kernel) ?_
    refine st (ld1 T3 rfl B7 rfl) ?_
    refine en fun a w e' hf => ?_
    replace hT := hT.ext e'
    replace HV := Dv.ex HV e'
    replace e := Ext.tr e e'
    replace B3 := B3.ext e'
    replace B4 := B4.ext e'
    replace B5 := B5.ext e'
    replace B6 := B6.ext e'
    replace B7 := B7.ext e'
    clear e'
    haveI hinr : ∀ G0, InR (GB W G0) (some b6) := fun G0 => InR.gb (by omega)
    refine tl_st1 T3 hf rfl rfl rfl B6 (by exact Nat.zero_lt_one) fun w hg hsz B6 hf => ?_
    replace hT := hT.gr hg (by omega)
    replace HV := Dv.gr HV hg (.inr (by omega))
    replace e := e.gr hg (by omega)
    replace B3 := B3.gr hg (by omega)
    replace B4 := B4.gr hg (by omega)
    replace B5 := B5.gr hg (by omega)
    replace B7 := B7.gr hg (by omega)
    clear hg
    refine tl_nil ?_
    replace B6 : Blk w b6 #[I (c : Nat)] 3 := B6
    refine wret ?_
    try simp only [Exit.then, Exit.inBlock]
    exact retc1M (D := []) rfl T3 hf rfl B6 (Ds.nil w) ⟨_, rfl, e, by rw [hr2]; rfl⟩
  have hc2 : ¬card out < 2 := by have := of_decide_eq_false hb; omega
  obtain ⟨o0, o1, ol, hoe, ho01, ho0, ho1⟩ := card_two hc2
  have ho0' := ho0
  have ho1' := ho1
  rw [← hout] at ho0' ho1'
  obtain ⟨p0a, p0b, p0c⟩ := end_ok F hin hC ho0'
  obtain ⟨p1a, p1b, p1c⟩ := end_ok F hin hC ho1'
  have hinO : ∀ i, out.getLsbD i = true → i < T.n := fun i hi => ((out_bit F hin i).1 (by rw [hout]; exact hi)).1
  have hres2 : res = ((elems (pathB fs part c (endB fs part o0))).find? (splP fs part (pathB fs part (endB fs part o0) (endB fs part o1)) c)).getD c := by
    rw [← hres, splB, if_neg hc2, hoe, hcc]
    simp only [List.map_cons]
  clear hb
  refine wskip ?_
  try simp only [Exit.then, Exit.inBlock, ↓reduceIte]
  replace hf := hf.keep [3, 4, 5, 6, 7]
  dsimp only [keep, List.filterMap, look, Nat.beq, Option.map] at hf
  repeat refine seq ?_
  refine regn0 ?_
  refine tl_alloc I43 hf (by decide) fun a b8 w e' hb8 hs8 B8 hf => ?_
  have hle8 := Nat.le_trans e.size (Nat.le_of_eq hb8.symm)
  have lt8_B3 := B3.lt
  have lt8_B4 := B4.lt
  have lt8_B5 := B5.lt
  have lt8_B6 := B6.lt
  have lt8_B7 := B7.lt
  replace hT := hT.ext e'
  replace HV := Dv.ex HV e'
  replace e := Ext.tr e e'
  replace B3 := B3.ext e'
  replace B4 := B4.ext e'
  replace B5 := B5.ext e'
  replace B6 := B6.ext e'
  replace B7 := B7.ext e'
  clear e'
  refine tl_nil ?_
  replace B8 : Blk w b8 #[.slice none 0 0] 43 := B8
  have n8 : W.heap.size ≤ b8 := by omega
  have Ho : OwR intE 3 W.heap.size Go.Mono.G0 w [] (.slice none 0 0) := OwR.nil intE _ e.size (fun b hb => hb.elim)
  replace hf := hf.keep [3, 4, 5, 6, 7, 8]
  dsimp only [keep, List.filterMap, look, Nat.beq, Option.map] at hf
  obtain ⟨Nz, hNz⟩ : ∃ Nz, Nz = w.heap.size := ⟨_, rfl⟩
  repeat refine seq ?_
  refine regn 2 hf (by decide +kernel) ?_
  refine st (ldW T37 rfl B5 rfl) ?_
  refine st (call1 (A := SeqA Nz out) En106 rfl (fun v w' he h => by cases h; exact Calls.mono (all_spec _ w') (fun en w2 ⟨u, h1, h2, b', h3, h4, h5⟩ => ⟨u, h1, h2, b', by have := he.size; omega, h4, h5⟩))) ?_
  refine en fun a w e' hf => ?_
  replace hT := hT.ext e'
  replace HV := Dv.ex HV e'
  replace e := Ext.tr e e'
  replace B3 := B3.ext e'
  replace B4 := B4.ext e'
  replace B5 := B5.ext e'
  replace B6 := B6.ext e'
  replace B7 := B7.ext e'
  replace B8 := B8.ext e'
  replace Ho := Ho.ext e'
  clear e'
  refine tl_nil ?_
  obtain ⟨v, ⟨b22, h22, rfl, BS⟩, hf⟩ := hf.fix 22 rfl
  replace hf := hf.keep [3, 4, 5, 6, 7, 8, 22]
  dsimp only [keep, List.filterMap, look, Nat.beq, Option.map] at hf
  have l3 := B3.lt
  have l4 := B4.lt
  have l5 := B5.lt
  have l6 := B6.lt
  have l7 := B7.lt
  have l8 := B8.lt
  have hBW : W.heap.size ≤ w.heap.size := e.size
  have h0w : 0 < w.heap.size := hT.lt
  repeat refine seq ?_
  refine blk ?_
  refine range_all3 (S := out) hf rfl BS (by decide) (fun s w1 => SLJ W fs fv b3 b4 b5 b6 b7 b8 c part out (endsI fs part s) w.heap.size w1) (fun _ _ => False) (fun s w1 h => h.t)
    ⟨e, hT, HV, B3, B4, B5, B6, B7, _, B8, Ho, (fun g hg => by simp [Value.ownBlock] at hg), by simp [Value.ownBlock], by simp [Value.ownBlock]⟩ (fun s w1 w2 h hs k => h.kp k hBW h0w l3 l4 l5 l6 l7 l8) (fun _ _ _ h => h.elim) ?_ ?_ (fun _ _ _ _ _ _ h => h.elim)
  · intro l s x rest a1 w1 hs hJ hlw hf
    have hxo : out.getLsbD x = true := (mem_elems.1 (by rw [hs]; simp)).2
    have hxf : x < fs.length := by rw [F.len]; exact hinO x hxo
    have hsl : s.length ≤ 1024 := by
      have h1 := card_elems out
      rw [hs] at h1
      simp at h1; omega
    have hel : (endsI fs part s).length = s.length := by simp [endsI]
    generalize hBz : w.heap.size = Bz at *
    refine regn0 ?_
    refine tl_as hf rfl (by decide) fun a hf => ?_
    refine tl_nil ?_
    simp only [Exit.then]
    refine ⟨Kh.rfl' _ _, fun w3 k3 hsz3 => ?_⟩
    have hJ3 := hJ.kp k3 hBW h0w l3 l4 l5 l6 l7 l8
    have hw3 : Bz + 3 ≤ w3.heap.size := by omega
    clear e hT HV B3 B4 B5 B6 B7 B8 BS Ho hJ
    replace hf := hf.pure w3
    obtain ⟨e, hT, HV, B3, B4, B5, B6, B7, u, B8, Ho, hgh, hov6, hov7⟩ := hJ3
    have kh := Kh.rfl' Bz w3
    have hov3 : u.ownBlock ≠ some b3 := Ho.neB B3 (by decide)
    have hov4 : u.ownBlock ≠ some b4 := Ho.neB B4 (by decide)
    have hov5 : u.ownBlock ≠ some b5 := Ho.neB B5 (by decide)
    have hov8 : u.ownBlock ≠ some b8 := Ho.neB B8 (by decide)
    replace hf := hf.keep [3, 4, 5, 6, 7, 8, 9]
    dsimp only [keep, List.filterMap, look, Nat.beq, Option.map] at hf
    repeat refine seq ?_
    refine blk ?_
    repeat refine seq ?_
    refine reg 12 Mix.mix hf (by decide +kernel) ?_
    refine st (ld1 (v := fv) T125 rfl B3 rfl) ?_
    refine st (mv rfl) ?_
    refine st (idxD Tryd.underlying125 S37 (isE rfl HV) rfl (by omega) (sg_get hxf)) ?_
    refine st (ldS T37 (isR rfl)) ?_
    refine st (ldW T37 rfl B4 rfl) ?_
    refine st (call2 En78 rfl rfl (fun v u w he h h' => by cases h; cases h'; exact inter_spec _ _ w)) ?_
    refine st (call1 En143 rfl (fun v w he h => by cases h; exact min_spec _ w (hT.ext he))) ?_
    refine st (mv rfl) ?_
    refine st (ext_ rfl rfl) ?_
    refine st (ext_ rfl rfl) ?_
    refine st (asg rfl) ?_
    refine st (asg rfl) ?_
    refine en fun a w e' hf => ?_
    replace hT := hT.ext e'
    replace HV := Dv.ex HV e'
    replace kh := kh.tr (Kh.ext e')
    replace hgh := hgh
    replace hw3 := Nat.le_trans hw3 e'.size
    replace e := Ext.tr e e'
    replace B3 := B3.ext e'
    replace B4 := B4.ext e'
    replace B5 := B5.ext e'
    replace B6 := B6.ext e'
    replace B7 := B7.ext e'
    replace B8 := B8.ext e'
    replace Ho := Ho.ext e'
    clear e'
    refine tl_nil ?_
    replace hf := hf.keep [3, 4, 5, 6, 7, 8, 10]
    dsimp only [keep, List.filterMap, look, Nat.beq, Option.map] at hf
    repeat refine seq ?_
    refine regn 3 hf (by decide +kernel) ?_
    refine st (ld1 (v := u) T43 rfl B8 rfl) ?_
    refine st (mv rfl) ?_
    refine st (bsl1 Tryd.underlying43 I3 rfl (by decide) rfl Ho.avs (isI rfl)) ?_
    refine en fun a w e' hf => ?_
    replace hT := hT.ext e'
    replace HV := Dv.ex HV e'
    replace kh := kh.tr (Kh.ext e')
    replace hgh := hgh
    replace hw3 := Nat.le_trans hw3 e'.size
    replace e := Ext.tr e e'
    replace B3 := B3.ext e'
    replace B4 := B4.ext e'
    replace B5 := B5.ext e'
    replace B6 := B6.ext e'
    replace B7 := B7.ext e'
    replace B8 := B8.ext e'
    replace Ho := Ho.ext e'
    clear e'
    haveI hin : ∀ G0, InR (GB W G0) _ := OwR.inGB Ho (Nat.le_refl _)
    refine tl_app Tryd.underlying43 I3 rfl rfl hf (by decide) rfl Ho (isR rfl) (by simp only [List.length_singleton]; omega) (by simp only [List.length_singleton, maxLen]; omega) fun a v w hg hat Hn hf => ?_
    replace e := e.gro hg (Ho.row (Nat.le_refl _))
    have hrow := Ho.row (Nat.le_refl _)
    replace hT := hT.gro hg (fun b hb => Nat.lt_of_lt_of_le hT0 (hrow b hb))
    replace HV := Dv.gro HV hg (fun b hb => .inr (hrow b hb))
    replace kh := kh.tr (Kh.gro hg hgh)
    replace hgh := own_hole hat hgh hw3
    replace hw3 := Nat.le_trans hw3 hg.size
    clear hrow
    have hov3' := own_ne hat hov3 B3.lt
    have hov4' := own_ne hat hov4 B4.lt
    have hov5' := own_ne hat hov5 B5.lt
    have hov6' := own_ne hat hov6 B6.lt
    have hov7' := own_ne hat hov7 B7.lt
    have hov8' := own_ne hat hov8 B8.lt
    replace B3 := B3.gro hg (by assumption)
    replace B4 := B4.gro hg (by assumption)
    replace B5 := B5.gro hg (by assumption)
    replace B6 := B6.gro hg (by assumption)
    replace B7 := B7.gro hg (by assumption)
    replace B8 := B8.gro hg (by assumption)
    replace hov3 := hov3'; clear hov3'
    replace hov4 := hov4'; clear hov4'
    replace hov5 := hov5'; clear hov5'
    replace hov6 := hov6'; clear hov6'
    replace hov7 := hov7'; clear hov7'
    replace hov8 := hov8'; clear hov8'
    replace Ho := Hn; clear Hn hg hat hin
    replace hf := hf.keep [3, 4, 5, 6, 7, 8, 37]
    dsimp only [keep, List.filterMap, look, Nat.beq, Option.map] at hf
    haveI hinr : ∀ G0, InR (GB W G0) (some b8) := fun G0 => InR.gb (by omega)
    refine tl_st1 T43 hf rfl rfl (Ho.one) B8 (by exact Nat.zero_lt_one) fun w hg hsz B8 hf => ?_
    replace hT := hT.gr hg (by omega)
    replace HV := Dv.gr HV hg (.inr (by omega))
    replace kh := kh.tr (Kh.gr hg (fun hh => by have := hh.1; omega))
    replace hgh := hgh
    replace hw3 := Nat.le_trans hw3 (Nat.le_of_eq hsz.symm)
    replace e := e.gr hg (by omega)
    replace B3 := B3.gr hg (by omega)
    replace B4 := B4.gr hg (by omega)
    replace B5 := B5.gr hg (by omega)
    replace B6 := B6.gr hg (by omega)
    replace B7 := B7.gr hg (by omega)
    replace Ho := Ho.gr hg (by assumption)
    clear hg
    refine tl_nil ?_
    simp only [Exit.inBlock]
    have en : endsI fs part (s ++ [x]) = endsI fs part s ++ [((endB fs part x : Nat) : Int)] := by simp [endsI]
    exact ⟨⟨e, hT, HV, B3, B4, B5, B6, B7, _, B8, by rw [en]; exact Ho, hgh, hov6, hov7⟩, kh⟩
  · intro a' w' hf' hJ hsz hDn
    simp only [Exit.inBlock, ↓reduceIte, Exit.then]
    have hD : Ds [w.heap.size] w' := (Ds.nil w').cons hDn (by simp)
    have hf : FrD 72 (marks [w.heap.size]) a' w' [(3, E (.pointer (some ⟨b3, 0, none⟩))), (4, E (.pointer (some ⟨b4, 0, none⟩))), (5, E (.pointer (some ⟨b5, 0, none⟩))), (6, E (.pointer (some ⟨b6, 0, none⟩))), (7, E (.pointer (some ⟨b7, 0, none⟩))), (8, E (.pointer (some ⟨b8, 0, none⟩)))] := hf'.keep [3, 4, 5, 6, 7, 8]
    have hDW : ∀ d ∈ [w.heap.size], W.heap.size ≤ d := fun d hd => by rw [List.mem_singleton] at hd; omega
    clear hf' e hT HV B3 B4 B5 B6 B7 B8 Ho BS hDn
    obtain ⟨e, hT, HV, B3, B4, B5, B6, B7, u, B8, Ho, _, hov6, hov7⟩ := hJ
    clear l3 l4 l5 l6 l7 l8 h22 hsz hBW h0w
    generalize [w.heap.size] = D1 at *
    clear hNz
    generalize w' = w at *
    have he0 : (endsI fs part (elems out))[0]? = some ((endB fs part o0 : Nat) : Int) := by rw [hoe]; rfl
    have he1 : (endsI fs part (elems out))[1]? = some ((endB fs part o1 : Nat) : Int) := by rw [hoe]; rfl
    have hNW : W.heap.size ≤ w.heap.size := e.size
    have l3 := B3.lt
    have l4 := B4.lt
    have l5 := B5.lt
    have l6 := B6.lt
    have l7 := B7.lt
    have l8 := B8.lt
    have lD : ∀ d ∈ D1, d < w.heap.size := fun d hd => hD.lt hd
    obtain ⟨N1, hN1⟩ : ∃ N1, N1 = w.heap.size := ⟨_, rfl⟩
    have hoN : ∀ b, u.ownBlock = some b → b < N1 := fun b hb => by have := (Ho.lt hb).2; omega
    repeat refine seq ?_
    refine reg 10 Mix.mix hf (by decide +kernel) ?_
    refine st (ld1 (v := fv) T125 rfl B3 rfl) ?_
    refine st (ldW T37 rfl B4 rfl) ?_
    refine st (ld1 (v := u) T43 rfl B8 rfl) ?_
    refine st (idxD (j := 0) Tryd.underlying43 S3 (isE rfl Ho.sl) rfl rfl he0) ?_
    refine st (ldI T3 (isR rfl)) ?_
    refine st (ld1 (v := u) T43 rfl B8 rfl) ?_
    refine st (idxD (j := 1) Tryd.underlying43 S3 (isE rfl Ho.sl) rfl rfl he1) ?_
    refine st (ldI T3 (isR rfl)) ?_
    refine st (call4 En146 rfl rfl rfl rfl (fun v u s t w he h h' h'' h3 => by cases h; cases h'; cases h''; cases h3; exact path_spec F part _ _ fv w (hT.ext he) (Dv.ex HV he) hin hC p0a p1a)) ?_
    refine st (alD I37) ?_
    refine en fun a w e' hf => ?_
    replace hT := hT.ext e'
    replace HV := Dv.ex HV e'
    replace Ho := Ho.ext e'
    replace e := Ext.tr e e'
    replace B3 := B3.ext e'
    replace B4 := B4.ext e'
    replace B5 := B5.ext e'
    replace B6 := B6.ext e'
    replace B7 := B7.ext e'
    replace B8 := B8.ext e'
    replace hD := hD.ext e'
    clear e'
    obtain ⟨_, ⟨b12, hb12, rfl, B12⟩, hf⟩ := hf.fix 12 rfl
    rw [← hN1] at hb12
    simp only [Value.cells, zeroC] at B12
    have n12 : b12 ≠ b3 ∧ b12 ≠ b4 ∧ b12 ≠ b5 ∧ b12 ≠ b6 ∧ b12 ≠ b7 ∧ b12 ≠ b8 ∧ W.heap.size ≤ b12 := by omega
    have hD12 : ¬ b12 ∈ D1 := fun h => by have := lD _ h; omega
    have hv12 : u.ownBlock ≠ some b12 := fun h => by have := hoN _ h; omega
    replace hf := hf.keep [3, 4, 6, 7, 8, 12, 46]
    dsimp only [keep, List.filterMap, look, Nat.beq, Option.map] at hf
    refine tl_stW T37 hf rfl rfl (wordsC_one _) B12 rfl (rfl) fun w hg hsz B12 hf => ?_
    replace hT := hT.gr hg (by omega)
    replace HV := Dv.gr HV hg (.inr (by omega))
    replace Ho := Ho.gr hg hv12
    replace hD := hD.gr hg hD12
    replace e := e.gr hg (by omega)
    replace B3 := B3.gr hg (by omega)
    replace B4 := B4.gr hg (by omega)
    replace B5 := B5.gr hg (by omega)
    replace B6 := B6.gr hg (by omega)
    replace B7 := B7.gr hg (by omega)
    replace B8 := B8.gr hg (by omega)
    clear hg
    refine tl_nil ?_
    generalize hbt : pathB fs part (endB fs part o0) (endB fs part o1) = btw at *
    generalize hpq : pathB fs part c (endB fs part o0) = pq at *
    have hpqin : ∀ n, pq.getLsbD n = true → part.getLsbD n = true := fun n hn => path_in F hin hC hc p0a (by rw [hpq]; exact hn)
    obtain ⟨N2, hN2⟩ : ∃ N2, N2 = w.heap.size := ⟨_, rfl⟩
    replace hf := hf.keep [3, 4, 6, 7, 8, 12]
    dsimp only [keep, List.filterMap, look, Nat.beq, Option.map] at hf
    repeat refine seq ?_
    refine reg 8 Mix.mix hf (by decide +kernel) ?_
    refine st (ld1 (v := fv) T125 rfl B3 rfl) ?_
    refine st (ldW T37 rfl B4 rfl) ?_
    refine st (ld1 T3 rfl B7 rfl) ?_
    refine st (ld1 (v := u) T43 rfl B8 rfl) ?_
    refine st (idxD (j := 0) Tryd.underlying43 S3 (isE rfl Ho.sl) rfl rfl he0) ?_
    refine st (ldI T3 (isR rfl)) ?_
    refine st (call4 (A := E (setV pq)) En146 rfl rfl rfl rfl (fun v u s t w he h h' h'' h3 => by cases h; cases h'; cases h''; cases h3; rw [← hpq]; exact path_spec F part _ _ fv w (hT.ext he) (Dv.ex HV he) hin hC hc p0a)) ?_
    refine st (call1 (A := SeqA N2 pq) En106 rfl (fun v w' he h => by cases h; exact Calls.mono (all_spec _ w') (fun en w2 ⟨u, h1, h2, b', h3, h4, h5⟩ => ⟨u, h1, h2, b', by have := he.size; omega, h4, h5⟩))) ?_
    refine en fun a w e' hf => ?_
    replace hT := hT.ext e'
    replace HV := Dv.ex HV e'
    replace Ho := Ho.ext e'
    replace e := Ext.tr e e'
    replace B3 := B3.ext e'
    replace B4 := B4.ext e'
    replace B5 := B5.ext e'
    replace B6 := B6.ext e'
    replace B7 := B7.ext e'
    replace B8 := B8.ext e'
    replace B12 := B12.ext e'
    replace hD := hD.ext e'
    clear e'
    refine tl_nil ?_
    obtain ⟨vv, ⟨b54, h54, rfl, BS⟩, hf⟩ := hf.fix 54 rfl
    replace hf := hf.keep [3, 4, 6, 7, 12, 54]
    dsimp only [keep, List.filterMap, look, Nat.beq, Option.map] at hf
    have hBW : W.heap.size ≤ w.heap.size := e.size
    have h0w : 0 < w.heap.size := hT.lt
    have kL : LtL w.heap.size [(b3, #[fv], 125), (b4, setC part, 37), (b6, #[I 0], 3), (b7, #[I (c : Nat)], 3), (b12, setC btw, 37)] := ⟨B3.lt, B4.lt, B6.lt, B7.lt, B12.lt, trivial⟩
    have lD2 : ∀ d ∈ D1, d < w.heap.size := fun d hd => hD.lt hd
    clear B5 B8 Ho l3 l4 l5 l6 l7 l8 lD
    repeat refine seq ?_
    refine blk ?_
    refine range_all3 (S := pq) hf rfl BS (by decide) (fun s w1 => RJ W fs fv [(b3, #[fv], 125), (b4, setC part, 37), (b6, #[I 0], 3), (b7, #[I (c : Nat)], 3), (b12, setC btw, 37)] D1 w1 ∧ ∀ n ∈ s, splP fs part btw c n = false)
      (fun ex w1 => ex = .ret ∧ RJ W fs fv [(b3, #[fv], 125), (b4, setC part, 37), (b6, #[I (res : Nat)], 3), (b7, #[I (c : Nat)], 3), (b12, setC btw, 37)] D1 w1) (fun s w1 h => h.1.t)
      ⟨⟨e, hT, HV, ⟨B3, B4, B6, B7, B12, trivial⟩, hD⟩, fun n hn => by cases hn⟩ (fun s w1 w2 h hs k => ⟨h.1.kp k hBW h0w kL lD2, h.2⟩) (fun ex w1 w2 h hs k => ⟨h.1, h.2.kp k hBW h0w ⟨kL.1, kL.2.1, kL.2.2.1, kL.2.2.2.1, kL.2.2.2.2.1, trivial⟩ lD2⟩) ?_ ?_ ?_
    · intro l s x rest a1 w1 hs hJ hlw hf
      have hxp : part.getLsbD x = true := hpqin x (mem_elems.1 (by rw [hs]; simp)).2
      have k6 : b6 < w.heap.size := kL.2.2.1
      generalize hBz : w.heap.size = Bz at *
      refine regn0 ?_
      refine tl_as hf rfl (by decide) fun a hf => ?_
      refine tl_nil ?_
      simp only [Exit.then]
      refine ⟨Kh.rfl' _ _, fun w3 k3 hsz3 => ?_⟩
      have hJ3 := hJ.1.kp k3 hBW h0w kL lD2
      have hJn := hJ.2
      clear e hT HV B3 B4 B6 B7 B12 BS hJ hD
      replace hf := hf.pure w3
      obtain ⟨e, hT, HV, ⟨B3, B4, B6, B7, B12, _⟩, hD⟩ := hJ3
      have kh := Kh.rfl' Bz w3
      replace hf := hf.keep [3, 4, 6, 7, 12, 13]
      dsimp only [keep, List.filterMap, look, Nat.beq, Option.map] at hf
      repeat refine seq ?_
      refine blk ?_
      obtain ⟨cc, hcc2⟩ : ∃ cc, splP fs part btw c x = cc := ⟨_, rfl⟩
      have hcl2 : card (pathB fs part c x &&& btw) ≤ 1024 := card_le_n fun i hi => bit_lt hi
      repeat refine seq ?_
      refine cut (J := fun a w => Fr 72 a w [(6, E (.pointer (some ⟨b6, 0, none⟩))), (13, E (I (x : Nat))), (69, E (B cc))] ∧ Ext W w ∧ Tab w ∧ (Dv (slE setE) (GB W Go.Mono.G0) fs).p fv w ∧ Kh Bz w3 w ∧ Blk w b3 #[fv] 125 ∧ Blk w b4 (setC part) 37 ∧ Blk w b6 #[I 0] 3 ∧ Blk w b7 #[I (c : Nat)] 3 ∧ Blk w b12 (setC btw) 37 ∧ Ds D1 w) ?_ (fun a w hJ => ?_)
      · cases h1 : btw.getLsbD x
        all_goals cases h2 : decide (card (pathB fs part c x &&& btw) = 1)
        all_goals
          have h2' : ((card (pathB fs part c x &&& btw) : Int) == 1) = decide (card (pathB fs part c x &&& btw) = 1) := by
            rw [Bool.eq_iff_iff, beq_iff_eq, decide_eq_true_eq]; omega
          rw [h2] at h2'
          have h1' : has btw (x : Int) = btw.getLsbD x := by rw [Bool.eq_iff_iff]; exact has_bit _ x
          rw [h1] at h1'
          repeat refine seq ?_
          refine reg 14 Mix.mix hf (by decide +kernel) ?_
          refine st (ldW T37 rfl B12 rfl) ?_
          refine st (mv rfl) ?_
          refine st ((call2 En23 rfl rfl (fun v u w he h h' => by cases h; cases h'; exact has_spec _ _ w)).eq (congrArg Value.bool (h1'))) ?_
          refine st (mv rfl) ?_
          first | refine sn rfl rfl rfl ?_ | refine su rfl rfl ?_ | refine sy rfl rfl (ld1 (v := fv) T125 rfl B3 rfl) ?_
          first | refine sn rfl rfl rfl ?_ | refine su rfl rfl ?_ | refine sy rfl rfl (ldW T37 rfl B4 rfl) ?_
          first | refine sn rfl rfl rfl ?_ | refine su rfl rfl ?_ | refine sy rfl rfl (ld1 T3 rfl B7 rfl) ?_
          first | refine sn rfl rfl rfl ?_ | refine su rfl rfl ?_ | refine sy rfl rfl (mv rfl) ?_
          first | refine sn rfl rfl rfl ?_ | refine su rfl rfl ?_ | refine sy rfl rfl (call4 En146 rfl rfl rfl rfl (fun v u s t w he h h' h'' h3 => by cases h; cases h'; cases h''; cases h3; exact path_spec F part _ _ fv w (hT.ext he) (Dv.ex HV he) hin hC hc hxp)) ?_
          first | refine sn rfl rfl rfl ?_ | refine su rfl rfl ?_ | refine sy rfl rfl (ldW T37 rfl B12 rfl) ?_
          first | refine sn rfl rfl rfl ?_ | refine su rfl rfl ?_ | refine sy rfl rfl (call2 En78 rfl rfl (fun v u w he h h' => by cases h; cases h'; exact inter_spec _ _ w)) ?_
          first | refine sn rfl rfl rfl ?_ | refine su rfl rfl ?_ | refine sy rfl rfl (call1 En76 rfl (fun v w he h => by cases h; exact len_spec _ w)) ?_
          first | refine sn rfl rfl rfl ?_ | refine su rfl rfl ?_ | refine sy rfl rfl ((eql rfl rfl).eq (congrArg Value.bool (h2'))) ?_
          first | refine st ((pkT rfl rfl).eq (show Value.bool _ = B cc from congrArg Value.bool (by rw [← hcc2, splP, h1, h2]; rfl))) ?_ | refine st ((pkF rfl rfl).eq (show Value.bool _ = B cc from congrArg Value.bool (by rw [← hcc2, splP, h1, h2]; rfl))) ?_ | refine st ((pk rfl rfl rfl).eq (show Value.bool _ = B cc from congrArg Value.bool (by rw [← hcc2, splP, h1, h2]; rfl))) ?_
          refine en fun a w e' hf => ?_
          replace hT := hT.ext e'
          replace HV := Dv.ex HV e'
          replace kh := kh.tr (Kh.ext e')
          replace e := Ext.tr e e'
          replace B3 := B3.ext e'
          replace B4 := B4.ext e'
          replace B6 := B6.ext e'
          replace B7 := B7.ext e'
          replace B12 := B12.ext e'
          replace hD := hD.ext e'
          clear e'
          refine tl_nil ?_
          replace hf := hf.keep [6, 13, 69]
          dsimp only [keep, List.filterMap, look, Nat.beq, Option.map] at hf
          exact ⟨rfl, hf, e, hT, HV, kh, B3, B4, B6, B7, B12, hD⟩
      clear hf e hT HV kh B3 B4 B6 B7 B12 hD
      obtain ⟨hf, e, hT, HV, kh, B3, B4, B6, B7, B12, hD⟩ := hJ
      try simp only [Exit.then]
      repeat refine seq ?_
      refine ifc hf rfl (fun hb => ?_) (fun hb => ?_)
      · have hxr : res = x := by
          rw [hres2, hs, List.find?_append]
          have h3 : s.find? (splP fs part btw c) = none := by
            rw [List.find?_eq_none]
            intro n hn hh
            rw [hJn n hn] at hh; cases hh
          rw [h3, List.find?_cons, hcc2, hb]; rfl
        have hD6 : ¬ b6 ∈ D1 := hD.ne B6
        repeat refine seq ?_
        refine regn 1 hf (by decide +kernel) ?_
        refine st (mv rfl) ?_
        refine en fun a w e' hf => ?_
        replace hT := hT.ext e'
        replace HV := Dv.ex HV e'
        replace kh := kh.tr (Kh.ext e')
        replace hD := hD.ext e'
        replace e := Ext.tr e e'
        replace B3 := B3.ext e'
        replace B4 := B4.ext e'
        replace B6 := B6.ext e'
        replace B7 := B7.ext e'
        replace B12 := B12.ext e'
        clear e'
        haveI hinr : ∀ G0, InR (GB W G0) (some b6) := fun G0 => InR.gb (by omega)
        refine tl_st1 T3 hf rfl rfl rfl B6 (by exact Nat.zero_lt_one) fun w hg hsz B6 hf => ?_
        replace hT := hT.gr hg (by omega)
        replace HV := Dv.gr HV hg (.inr (by omega))
        replace kh := kh.tr (Kh.gr hg (fun hh => by have := hh.1; omega))
        replace hD := hD.gr hg hD6
        replace e := e.gr hg (by omega)
        replace B3 := B3.gr hg (by omega)
        replace B4 := B4.gr hg (by omega)
        replace B7 := B7.gr hg (by omega)
        replace B12 := B12.gr hg (by omega)
        clear hg
        refine tl_nil ?_
        refine wret ?_
        simp only [Exit.then, Exit.inBlock]
        exact ⟨⟨rfl, e, hT, HV, ⟨B3, B4, by rw [hxr]; exact B6, B7, B12, trivial⟩, hD⟩, kh⟩
      · refine wskip ?_
        simp only [Exit.inBlock]
        exact ⟨⟨⟨e, hT, HV, ⟨B3, B4, B6, B7, B12, trivial⟩, hD⟩, fun n hn => by
          rcases List.mem_append.1 hn with h | h
          · exact hJn n h
          · rw [List.mem_singleton] at h; subst h; rw [hcc2, hb]⟩, kh⟩
    · intro a' w' hf' hJ hsz hDn
      simp only [Exit.inBlock, ↓reduceIte, Exit.then]
      have hr3 : res = c := by
        rw [hres2]
        have h3 : (elems pq).find? (splP fs part btw c) = none := by
          rw [List.find?_eq_none]
          intro n hn hh
          rw [hJ.2 n hn] at hh; cases hh
        rw [h3]; rfl
      have hD2 : Ds (w.heap.size :: D1) w' := hJ.1.ds.cons hDn fun hm => Nat.lt_irrefl _ (lD2 _ hm)
      have hf : FrD 72 (marks (w.heap.size :: D1)) a' w' [(6, E (.pointer (some ⟨b6, 0, none⟩))), (7, E (.pointer (some ⟨b7, 0, none⟩)))] := hf'.keep [6, 7]
      have hDW2 : ∀ d ∈ w.heap.size :: D1, W.heap.size ≤ d := fun d hd => by
        rcases List.mem_cons.1 hd with rfl | hd
        · exact hBW
        · exact hDW d hd
      obtain ⟨⟨e, hT, HV, ⟨_, _, B6, B7, _⟩, _⟩, _⟩ := hJ
      replace hD := hD2
      clear hD2 hf' hDn
      generalize w.heap.size :: D1 = D2 at *
      have hD6 : ¬ b6 ∈ D2 := hD.ne B6
      repeat refine seq ?_
      refine regn 1 hf (by decide +kernel) ?_
      refine st (ld1 T3 rfl B7 rfl) ?_
      refine en fun a w e' hf => ?_
      replace hD := hD.ext e'
      replace e := Ext.tr e e'
      replace B6 := B6.ext e'
      replace B7 := B7.ext e'
      clear e'
      haveI hinr : ∀ G0, InR (GB W G0) (some b6) := fun G0 => InR.gb (by omega)
      refine tl_st1 T3 hf rfl rfl rfl B6 (by exact Nat.zero_lt_one) fun w hg hsz B6 hf => ?_
      replace hD := hD.gr hg hD6
      replace e := e.gr hg (by omega)
      replace B7 := B7.gr hg (by omega)
      clear hg
      refine tl_nil ?_
      replace B6 : Blk w b6 #[I (c : Nat)] 3 := B6
      refine wret ?_
      try simp only [Exit.then, Exit.inBlock]
      exact retc1M rfl T3 hf rfl B6 hD ⟨_, rfl, e.shut hDW2, by rw [hr3]; rfl⟩
    · intro ex cd a' w' hcd hf' hX hsz hDn
      obtain ⟨rfl, hJ⟩ := hX
      simp only [Exit.inBlock, ↓reduceIte, Exit.then]
      have hD2 : Ds (w.heap.size :: D1) w' := hJ.ds.cons hDn fun hm => Nat.lt_irrefl _ (lD2 _ hm)
      have hf : FrD 72 (marks (w.heap.size :: D1)) a' w' [(6, E (.pointer (some ⟨b6, 0, none⟩)))] := hf'.keep [6]
      have hDW2 : ∀ d ∈ w.heap.size :: D1, W.heap.size ≤ d := fun d hd => by
        rcases List.mem_cons.1 hd with rfl | hd
        · exact hBW
        · exact hDW d hd
      obtain ⟨e, hT, HV, ⟨_, _, B6, B7, _⟩, _⟩ := hJ
      exact retc1M rfl T3 hf rfl B6 hD2 ⟨_, rfl, e.shut hDW2, rfl⟩
end Go.Mono

set_option linter.unusedVariables false
set_option linter.unusedSimpArgs false
namespace Go.Mono
open Go Go.Proofs Go.RowKit

theorem OwR.neO {α β : Type} {e : Enc α} {f : Enc β} {ty ty' : TypeId} {B B' : Nat} {G G' : Nat → Prop} {w : World} {xs : List α} {ys : List β} {u v : Value} (h : OwR e ty B G w xs u) (h' : OwR f ty' B' G' w ys v) (ht : ty ≠ ty') {g : Nat} (hu : u.ownBlock = some g) : v.ownBlock ≠ some g := by
  obtain ⟨cs, h1, _⟩ := h.own
  rcases h1.2 with ⟨rfl, _⟩ | ⟨g', cap, cur, rfl, _, hg, _⟩
  · simp [Value.ownBlock] at hu
  · simp only [Value.ownBlock, Option.some.injEq] at hu
    subst hu
    exact h'.neB (show Blk w g' cur ty from hg) ht
theorem OwR.neD {α : Type} {e : Enc α} {ty : TypeId} {B : Nat} {G : Nat → Prop} {w : World} {xs : List α} {u : Value} (h : OwR e ty B G w xs u) {D : List Nat} (hD : Ds D w) {d : Nat} (hd : d ∈ D) : u.ownBlock ≠ some d := fun hu => by
  obtain ⟨cs, h1, _⟩ := h.own
  rcases h1.2 with ⟨rfl, _⟩ | ⟨g', cap, cur, rfl, _, hg, _⟩
  · simp [Value.ownBlock] at hu
  · simp only [Value.ownBlock, Option.some.injEq] at hu
    subst hu
    exact hD.ne (show Blk w g' cur ty from hg) hd
theorem Chg.of_gro {w w' : World} {row : Option Nat} (hg : w.grownBy w' row) : Chg (fun b => row = some b) w w' := ⟨hg.os, hg.tape, hg.output, hg.size, fun b hb hn => hg.block b hb (fun h => hn h.symm)⟩

def bfn (b2 b3 b4 b5 b6 : Nat) : Value := .func (.func 116) #[] #[.pointer (some ⟨b2, 0, none⟩), .pointer (some ⟨b3, 0, none⟩), .pointer (some ⟨b4, 0, none⟩), .pointer (some ⟨b5, 0, none⟩), .pointer (some ⟨b6, 0, none⟩)]
/-- what stays as it is while the closure runs -/
structure BK (fs : List BS) (t : List (Int × BS)) (B0 b2 b3 b4 b5 b6 : Nat) (fv tv : Value) (w : World) : Prop where
  t0 : Tab w
  hv : (Dv (slE setE) (fun b => B0 ≤ b) fs).p fv w
  ht : (Dv treeE (fun b => B0 ≤ b) t).p tv w
  f : Blk w b2 #[fv] 125
  t : Blk w b3 #[tv] 23
  s : Blk w b6 #[bfn b2 b3 b4 b5 b6] 128
theorem BK.ch {fs : List BS} {t : List (Int × BS)} {B0 b2 b3 b4 b5 b6 : Nat} {fv tv : Value} {w w' : World} {S : Nat → Prop} (h : BK fs t B0 b2 b3 b4 b5 b6 fv tv w) (c : Chg S w w') (hS : ∀ b, S b → B0 ≤ b ∧ b ≠ 0 ∧ b ≠ b2 ∧ b ≠ b3 ∧ b ≠ b6) : BK fs t B0 b2 b3 b4 b5 b6 fv tv w' :=
  ⟨h.t0.ch c fun hh => (hS _ hh).2.1 rfl, Dv.ch h.hv c fun b hb => (hS b hb).1, Dv.ch h.ht c fun b hb => (hS b hb).1, h.f.ch c fun hh => (hS _ hh).2.2.1 rfl, h.t.ch c fun hh => (hS _ hh).2.2.2.1 rfl, h.s.ch c fun hh => (hS _ hh).2.2.2.2 rfl⟩
theorem BK.ext {fs : List BS} {t : List (Int × BS)} {B0 b2 b3 b4 b5 b6 : Nat} {fv tv : Value} {w w' : World} (h : BK fs t B0 b2 b3 b4 b5 b6 fv tv w) (e : Ext w w') : BK fs t B0 b2 b3 b4 b5 b6 fv tv w' :=
  ⟨h.t0.ext e, Dv.ex h.hv e, Dv.ex h.ht e, h.f.ext e, h.t.ext e, h.s.ext e⟩
theorem BK.gr {fs : List BS} {t : List (Int × BS)} {B0 b2 b3 b4 b5 b6 : Nat} {fv tv : Value} {w w' : World} {b : Nat} (h : BK fs t B0 b2 b3 b4 b5 b6 fv tv w) (hg : w.grownBy w' (some b)) (hb : B0 ≤ b ∧ b ≠ 0 ∧ b ≠ b2 ∧ b ≠ b3 ∧ b ≠ b6) : BK fs t B0 b2 b3 b4 b5 b6 fv tv w' :=
  h.ch (Chg.of_gro hg) fun c hc => by cases hc; exact hb
/-- what it has made so far -/
structure BSt (fs : List BS) (t : List (Int × BS)) (B0 b4 b5 : Nat) (L : List (Int × BS)) (ut ua : Value) (w : World) : Prop where
  a : Blk w b4 #[ut] 23
  b : Blk w b5 #[ua] 43
  ht : OwR bagE 86 B0 Go.Mono.G0 w (L.map (bagOf fs t)) ut
  ha : OwR intE 3 B0 Go.Mono.G0 w (L.map (atOf fs)) ua
theorem BSt.ext {fs : List BS} {t : List (Int × BS)} {B0 b4 b5 : Nat} {L : List (Int × BS)} {ut ua : Value} {w w' : World} (h : BSt fs t B0 b4 b5 L ut ua w) (e : Ext w w') : BSt fs t B0 b4 b5 L ut ua w' := ⟨h.a.ext e, h.b.ext e, h.ht.ext e, h.ha.ext e⟩
/-- the blocks that it may change -/
def SB (b4 b5 : Nat) (ut ua : Value) (b : Nat) : Prop := b = b4 ∨ b = b5 ∨ ut.ownBlock = some b ∨ ua.ownBlock = some b
theorem BSt.ch {fs : List BS} {t : List (Int × BS)} {B0 b4 b5 : Nat} {L : List (Int × BS)} {ut ua : Value} {w w' : World} {S : Nat → Prop} (h : BSt fs t B0 b4 b5 L ut ua w) (c : Chg S w w') (hS : ∀ b, S b → ¬SB b4 b5 ut ua b) : BSt fs t B0 b4 b5 L ut ua w' :=
  ⟨h.a.ch c fun hh => hS _ hh (.inl rfl), h.b.ch c fun hh => hS _ hh (.inr (.inl rfl)), h.ht.chE c fun b hb hh => hS _ hh (.inr (.inr (.inl hb))), h.ha.chE c fun b hb hh => hS _ hh (.inr (.inr (.inr hb)))⟩
theorem BSt.lt {fs : List BS} {t : List (Int × BS)} {B0 b4 b5 : Nat} {L : List (Int × BS)} {ut ua : Value} {w : World} (h : BSt fs t B0 b4 b5 L ut ua w) : ∀ b, SB b4 b5 ut ua b → b < w.heap.size := by
  rintro b (rfl | rfl | hb | hb)
  · exact h.a.lt
  · exact h.b.lt
  · exact (h.ht.lt hb).2
  · exact (h.ha.lt hb).2
theorem BSt.ge {fs : List BS} {t : List (Int × BS)} {B0 b4 b5 : Nat} {L : List (Int × BS)} {ut ua : Value} {w : World} (h : BSt fs t B0 b4 b5 L ut ua w) (h4 : B0 ≤ b4) (h5 : B0 ≤ b5) : ∀ b, SB b4 b5 ut ua b → B0 ≤ b := by
  rintro b (rfl | rfl | hb | hb)
  · exact h4
  · exact h5
  · exact (h.ht.lt hb).1
  · exact (h.ha.lt hb).1
/-- another block of cells is none of them -/
theorem BSt.ne {fs : List BS} {t : List (Int × BS)} {B0 b4 b5 : Nat} {L : List (Int × BS)} {ut ua : Value} {w : World} (h : BSt fs t B0 b4 b5 L ut ua w) {b : Nat} {cs : Array Value} {ty : TypeId} (hb : Blk w b cs ty) (h4 : b ≠ b4) (h5 : ty ≠ 43) (h6 : ty ≠ 86) (h7 : ty ≠ 3) : ¬SB b4 b5 ut ua b := by
  rintro (rfl | rfl | hh | hh)
  · exact h4 rfl
  · exact Blk.ne hb h.b h5 rfl
  · exact h.ht.neB hb h6 hh
  · exact h.ha.neB hb h7 hh
theorem BSt.neD {fs : List BS} {t : List (Int × BS)} {B0 b4 b5 : Nat} {L : List (Int × BS)} {ut ua : Value} {w : World} (h : BSt fs t B0 b4 b5 L ut ua w) {D : List Nat} (hD : Ds D w) {d : Nat} (hd : d ∈ D) : ¬SB b4 b5 ut ua d := by
  rintro (rfl | rfl | hh | hh)
  · exact hD.ne h.a hd
  · exact hD.ne h.b hd
  · exact h.ht.neD hD hd hh
  · exact h.ha.neD hD hd hh
theorem BSt.k {fs : List BS} {t : List (Int × BS)} {B0 b2 b3 b4 b5 b6 : Nat} {fv tv : Value} {L : List (Int × BS)} {ut ua : Value} {w : World} (h : BSt fs t B0 b4 b5 L ut ua w) (K : BK fs t B0 b2 b3 b4 b5 b6 fv tv w) (h0 : 0 < B0) (h4 : B0 ≤ b4) (h5 : B0 ≤ b5) (h34 : b3 ≠ b4) : ∀ b, SB b4 b5 ut ua b → B0 ≤ b ∧ b ≠ 0 ∧ b ≠ b2 ∧ b ≠ b3 ∧ b ≠ b6 := fun b hb => by
  have h1 := h.ge h4 h5 b hb
  refine ⟨h1, by omega, ?_, ?_, ?_⟩
  · rintro rfl; exact h.ne K.f (Blk.ne K.f h.a (by decide)) (by decide) (by decide) (by decide) hb
  · rintro rfl; exact h.ne K.t h34 (by decide) (by decide) (by decide) hb
  · rintro rfl; exact h.ne K.s (Blk.ne K.s h.a (by decide)) (by decide) (by decide) (by decide) hb

/-- where the loop over the bags outside stands -/
structure BJ (W : World) (fs : List BS) (t : List (Int × BS)) (B0 b2 b3 b4 b5 b6 b7 b9 b11 : Nat) (fv tv ut ua : Value) (L : List (Int × BS)) (part : BS) (c : Nat) (s : List Nat) (w : World) : Prop where
  e : Ext W w
  k : BK fs t B0 b2 b3 b4 b5 b6 fv tv w
  st : BSt fs t B0 b4 b5 L ut ua w
  b7 : Blk w b7 (setC part) 37
  b9 : Blk w b9 (setC (outM fs part)) 37
  b11 : Blk w b11 (setC (hasTo t c s)) 37
theorem BJ.kp {W : World} {fs : List BS} {t : List (Int × BS)} {B0 b2 b3 b4 b5 b6 b7 b9 b11 : Nat} {fv tv ut ua : Value} {L : List (Int × BS)} {part : BS} {c : Nat} {s : List Nat} {B : Nat} {w w' : World} (h : BJ W fs t B0 b2 b3 b4 b5 b6 b7 b9 b11 fv tv ut ua L part c s w) (k : Kp B w w') (hW : W.heap.size ≤ B) (h0 : 0 < B) (hB0 : B0 ≤ B) (l : b2 < B ∧ b3 < B ∧ b6 < B ∧ b7 < B ∧ b9 < B ∧ b11 < B) (hS : ∀ b, SB b4 b5 ut ua b → b < B) :
    BJ W fs t B0 b2 b3 b4 b5 b6 b7 b9 b11 fv tv ut ua L part c s w' :=
  have no : ∀ {b}, b < B → ¬Hole B b := fun h hh => by have := hh.1; omega
  ⟨h.e.kp k hW, h.k.ch k.chg fun b hb => by have := hb.1; omega, h.st.ch k.chg fun b hb hs => no (hS b hs) hb, h.b7.kp k (no l.2.2.2.1), h.b9.kp k (no l.2.2.2.2.1), h.b11.kp k (no l.2.2.2.2.2)⟩

theorem balc_spec {T : Tr} {fs : List BS} (F : Fo fs T) (t : List (Int × BS)) (htl : t.length = T.n) (B0 b2 b3 b4 b5 b6 : Nat) (fv tv : Value) (h0 : 0 < B0) (h4 : B0 ≤ b4) (h5 : B0 ≤ b5) (h34 : b3 ≠ b4) :
    ∀ (f : Nat) (part : BS) (up : Int) (L : List (Int × BS)) (ut ua : Value) (W : World), Pt fs T part → card part ≤ f → L.length + card part ≤ 3000 → BK fs t B0 b2 b3 b4 b5 b6 fv tv W → BSt fs t B0 b4 b5 L ut ua W →
    Calls Tryd.prog 116 #[setV part, I up, .pointer (some ⟨b2, 0, none⟩), .pointer (some ⟨b3, 0, none⟩), .pointer (some ⟨b4, 0, none⟩), .pointer (some ⟨b5, 0, none⟩), .pointer (some ⟨b6, 0, none⟩)] W
      (fun e w' => ∃ v, e = .returned v ∧ Chg (SB b4 b5 ut ua) W w' ∧ Any.p v w' ∧ ∃ ut' ua', BSt fs t B0 b4 b5 (balL fs f part up L) ut' ua' w' ∧ ∀ b, SB b4 b5 ut' ua' b → SB b4 b5 ut ua b ∨ W.heap.size ≤ b) := by
  intro f
  induction f with
  | zero =>
    intro part up L ut ua W hP hc
    obtain ⟨k, hk⟩ := hP.ne
    have := card_pos hk
    omega
  | succ f ih =>
    intro part up L ut ua W hP hc hL K St
    obtain ⟨p0, hp0⟩ := hP.ne
    have hin := hP.inn
    have hle := F.le
    have SP := hP.spl F
    have hinO : ∀ i, (outM fs part).getLsbD i = true → i < T.n := fun i hi => ((out_bit F hin i).1 hi).1
    have hcn : splitter fs part < t.length := by rw [htl]; exact hin _ SP.mem
    have hsc := subs_card F hP
    have l2 := K.f.lt
    have l3 := K.t.lt
    have l6 := K.s.lt
    have hSl := St.lt
    have hBW : B0 ≤ W.heap.size := by have := K.f; have := hSl b4 (.inl rfl); omega
    have h1 := one_cells (Dv.slOne K.hv)
    refine enterM (args := [setV part, I up, .pointer (some ⟨b2, 0, none⟩), .pointer (some ⟨b3, 0, none⟩), .pointer (some ⟨b4, 0, none⟩), .pointer (some ⟨b5, 0, none⟩), .pointer (some ⟨b6, 0, none⟩)]) (As := [E (setV part), E (I up), E (.pointer (some ⟨b2, 0, none⟩)), E (.pointer (some ⟨b3, 0, none⟩)), E (.pointer (some ⟨b4, 0, none⟩)), E (.pointer (some ⟨b5, 0, none⟩)), E (.pointer (some ⟨b6, 0, none⟩))]) Tryd.func116 rfl Tryd.ntmps116 (Nat.le_of_ble_eq_true rfl) ?_ (fun a hf => ?_) (Nat.le_of_ble_eq_true rfl)
    · exact argC rfl (argC rfl (argC rfl (argC rfl (argC rfl (argC rfl (argC rfl argZ))))))
    dsimp only [params, Nat.reduceAdd] at hf
    have e := Ext.rfl' W
    have hnot : ∀ b, W.heap.size ≤ b → ∀ c, (fun c => some b = some c) c → ¬SB b4 b5 ut ua c := fun b hb c hc hs => by cases hc; have := hSl _ hs; omega
    repeat refine seq ?_
    refine regn0 ?_
    refine tl_box hf rfl (by decide) fun a b7 w v7 hv7 e' hb7 hs7 B7 hf => ?_
    have hle7 := Nat.le_trans e.size (Nat.le_of_eq hb7.symm)
    replace K := K.ext e'
    replace St := St.ext e'
    replace e := Ext.tr e e'
    clear e'
    refine tl_nil ?_
    cases hv7
    replace B7 : Blk w b7 (setC part) 37 := B7
    have n7 : W.heap.size ≤ b7 := by omega
    replace hf := hf.keep [1, 2, 3, 4, 5, 6, 7]
    dsimp only [keep, List.filterMap, look, Nat.beq, Option.map] at hf
    repeat refine seq ?_
    refine regn 3 hf (by decide +kernel) ?_
    refine st (ld1 T125 rfl K.f rfl) ?_
    refine st (ldW T37 rfl B7 rfl) ?_
    refine st (call2 En117 rfl rfl (fun v u w he h h' => by cases h; cases h'; exact out_spec fs part fv w (K.t0.ext he) (Dv.ex K.hv he) (fun i hi => by rw [F.len]; exact hin i (mem_elems.1 hi).2))) ?_
    refine en fun a w e' hf => ?_
    replace K := K.ext e'
    replace St := St.ext e'
    replace e := Ext.tr e e'
    replace B7 := B7.ext e'
    clear e'
    refine tl_alloc I37 hf (by decide) fun a b9 w e' hb9 hs9 B9 hf => ?_
    have hle9 := Nat.le_trans e.size (Nat.le_of_eq hb9.symm)
    have lt9_B7 := B7.lt
    replace K := K.ext e'
    replace St := St.ext e'
    replace e := Ext.tr e e'
    replace B7 := B7.ext e'
    clear e'
    replace hf := hf.keep [1, 2, 3, 4, 5, 6, 7, 9, 18]
    dsimp only [keep, List.filterMap, look, Nat.beq, Option.map] at hf
    have n9 : W.heap.size ≤ b9 ∧ b9 ≠ b7 := by have := B7.lt; omega
    haveI hinr : ∀ G0, InR (GB W G0) (some b9) := fun G0 => InR.gb (by omega)
    refine tl_stW T37 hf rfl rfl (wordsC_one _) B9 rfl (rfl) fun w hg hsz B9 hf => ?_
    replace K := K.gr hg (by omega)
    replace St := St.ch (Chg.of_gro hg) (hnot _ (by omega))
    replace e := e.gr hg (by omega)
    replace B7 := B7.gr hg (by omega)
    clear hg
    refine tl_nil ?_
    replace B9 : Blk w b9 (setC (outM fs part)) 37 := B9
    replace hf := hf.keep [1, 2, 3, 4, 5, 6, 7, 9]
    dsimp only [keep, List.filterMap, look, Nat.beq, Option.map] at hf
    repeat refine seq ?_
    refine regn 4 hf (by decide +kernel) ?_
    refine st (ld1 T125 rfl K.f rfl) ?_
    refine st (ldW T37 rfl B7 rfl) ?_
    refine st (ldW T37 rfl B9 rfl) ?_
    refine st (call3 (A := E (I (splitter fs part : Nat))) En118 rfl rfl rfl (fun v u s w he h h' h'' => by cases h; cases h'; cases h''; exact spl_spec F part fv w (K.t0.ext he) (Dv.ex K.hv he) hin hP.conn hp0)) ?_
    refine en fun a w e' hf => ?_
    replace K := K.ext e'
    replace St := St.ext e'
    replace e := Ext.tr e e'
    replace B7 := B7.ext e'
    replace B9 := B9.ext e'
    clear e'
    refine tl_as hf rfl (by decide) fun a hf => ?_
    refine tl_nil ?_
    replace hf := hf.keep [1, 2, 3, 4, 5, 6, 7, 9, 10]
    dsimp only [keep, List.filterMap, look, Nat.beq, Option.map] at hf
    have hbc := bg_get hcn
    repeat refine seq ?_
    refine regn0 ?_
    refine tl_op hf (by decide) (ld1 T23 rfl K.t rfl) fun a w e' hf => ?_
    replace K := K.ext e'
    replace St := St.ext e'
    replace e := Ext.tr e e'
    replace B7 := B7.ext e'
    replace B9 := B9.ext e'
    clear e'
    refine tl_op hf (by decide) (mv rfl) fun a w e' hf => ?_
    replace K := K.ext e'
    replace St := St.ext e'
    replace e := Ext.tr e e'
    replace B7 := B7.ext e'
    replace B9 := B9.ext e'
    clear e'
    refine tl_op hf (by decide) (idxD Tryd.underlying23 S86 (isE rfl K.ht) rfl (by omega) (hbc)) fun a w e' hf => ?_
    replace K := K.ext e'
    replace St := St.ext e'
    replace e := Ext.tr e e'
    replace B7 := B7.ext e'
    replace B9 := B9.ext e'
    clear e'
    refine tl_op hf (by decide) (fldD Tryd.underlying86 rfl T37 (by decide) (Fld.snd Fld.refl rfl) (isR rfl)) fun a w e' hf => ?_
    replace K := K.ext e'
    replace St := St.ext e'
    replace e := Ext.tr e e'
    replace B7 := B7.ext e'
    replace B9 := B9.ext e'
    clear e'
    refine tl_op hf (by decide) (ldS T37 (isR rfl)) fun a w e' hf => ?_
    replace K := K.ext e'
    replace St := St.ext e'
    replace e := Ext.tr e e'
    replace B7 := B7.ext e'
    replace B9 := B9.ext e'
    clear e'
    refine tl_alloc I37 hf (by decide) fun a b11 w e' hb11 hs11 B11 hf => ?_
    have hle11 := Nat.le_trans e.size (Nat.le_of_eq hb11.symm)
    have lt11_B7 := B7.lt
    have lt11_B9 := B9.lt
    replace K := K.ext e'
    replace St := St.ext e'
    replace e := Ext.tr e e'
    replace B7 := B7.ext e'
    replace B9 := B9.ext e'
    clear e'
    have n11 : W.heap.size ≤ b11 ∧ b11 ≠ b7 ∧ b11 ≠ b9 := by have := B7.lt; have := B9.lt; omega
    replace hf := hf.keep [1, 2, 3, 4, 5, 6, 7, 9, 10, 11, 27]
    dsimp only [keep, List.filterMap, look, Nat.beq, Option.map] at hf
    haveI hinr : ∀ G0, InR (GB W G0) (some b11) := fun G0 => InR.gb (by omega)
    refine tl_stW T37 hf rfl rfl (wordsC_one _) B11 rfl (rfl) fun w hg hsz B11 hf => ?_
    replace K := K.gr hg (by omega)
    replace St := St.ch (Chg.of_gro hg) (hnot _ (by omega))
    replace e := e.gr hg (by omega)
    replace B7 := B7.gr hg (by omega)
    replace B9 := B9.gr hg (by omega)
    clear hg
    refine tl_nil ?_
    replace B11 : Blk w b11 (setC (hasTo t (splitter fs part) [])) 37 := B11
    replace hf := hf.keep [1, 2, 3, 4, 5, 6, 7, 9, 10, 11]
    dsimp only [keep, List.filterMap, look, Nat.beq, Option.map] at hf
    obtain ⟨Nz, hNz⟩ : ∃ Nz, Nz = w.heap.size := ⟨_, rfl⟩
    obtain ⟨c0, hsp0⟩ : ∃ c0, splitter fs part = c0 := ⟨_, rfl⟩
    obtain ⟨out, hout⟩ : ∃ out, outM fs part = out := ⟨_, rfl⟩
    rw [hsp0] at hf B11
    rw [hout] at B9
    repeat refine seq ?_
    refine regn 2 hf (by decide +kernel) ?_
    refine st (ldW T37 rfl B9 rfl) ?_
    refine st (call1 (A := SeqA Nz out) En106 rfl (fun v w' he h => by cases h; exact Calls.mono (all_spec _ w') (fun en w2 ⟨u, h1, h2, b', h3, h4, h5⟩ => ⟨u, h1, h2, b', by have := he.size; omega, h4, h5⟩))) ?_
    refine en fun a w e' hf => ?_
    replace K := K.ext e'
    replace St := St.ext e'
    replace e := Ext.tr e e'
    replace B7 := B7.ext e'
    replace B9 := B9.ext e'
    replace B11 := B11.ext e'
    clear e'
    refine tl_nil ?_
    obtain ⟨v, ⟨b29, h29, rfl, BS⟩, hf⟩ := hf.fix 29 rfl
    replace hf := hf.keep [1, 2, 3, 4, 5, 6, 7, 9, 10, 11, 29]
    dsimp only [keep, List.filterMap, look, Nat.beq, Option.map] at hf
    have hWw : W.heap.size ≤ w.heap.size := e.size
    have h0w : 0 < w.heap.size := by omega
    have ll : b2 < w.heap.size ∧ b3 < w.heap.size ∧ b6 < w.heap.size ∧ b7 < w.heap.size ∧ b9 < w.heap.size ∧ b11 < w.heap.size := ⟨K.f.lt, K.t.lt, K.s.lt, B7.lt, B9.lt, B11.lt⟩
    have hSw : ∀ b, SB b4 b5 ut ua b → b < w.heap.size := fun b hb => Nat.lt_of_lt_of_le (hSl b hb) hWw
    have hBw : B0 ≤ w.heap.size := Nat.le_trans hBW hWw
    repeat refine seq ?_
    refine blk ?_
    have hJ0 : ∀ s w1, BJ W fs t B0 b2 b3 b4 b5 b6 b7 b9 b11 fv tv ut ua L part c0 s w1 → Tab w1 := fun s w1 h => h.k.t0
    refine range_all3 (S := out) hf rfl BS (by decide) (fun s w1 => BJ W fs t B0 b2 b3 b4 b5 b6 b7 b9 b11 fv tv ut ua L part c0 s w1) (fun _ _ => False) hJ0
      ⟨e, K, St, B7, by rw [hout]; exact B9, B11⟩ (fun s w1 w2 h hs k => h.kp k hWw h0w hBw ll hSw) (fun _ _ _ h => h.elim) ?_ ?_ (fun _ _ _ _ _ _ h => h.elim)
    · intro l s x rest a1 w1 hs hJ hlw hf
      have hxo : out.getLsbD x = true := (mem_elems.1 (by rw [hs]; simp)).2
      have hxt : x < t.length := by rw [htl]; exact hinO x (by rw [hout]; exact hxo)
      have hbx := bg_get hxt
      generalize hBz : w.heap.size = Bz at *
      refine regn0 ?_
      refine tl_as hf rfl (by decide) fun a hf => ?_
      refine tl_nil ?_
      simp only [Exit.then]
      refine ⟨Kh.rfl' _ _, fun w3 k3 hsz3 => ?_⟩
      have hJ3 := hJ.kp k3 hWw h0w hBw ll hSw
      clear e K St B7 B9 B11 BS hJ
      replace hf := hf.pure w3
      obtain ⟨e, K, St, B7, B9, B11⟩ := hJ3
      have kh := Kh.rfl' Bz w3
      replace hf := hf.keep [3, 11, 12]
      dsimp only [keep, List.filterMap, look, Nat.beq, Option.map] at hf
      repeat refine seq ?_
      refine blk ?_
      repeat refine seq ?_
      refine reg 7 Mix.mix hf (by decide +kernel) ?_
      refine st (ldW T37 rfl B11 rfl) ?_
      refine st (ld1 (v := tv) T23 rfl K.t rfl) ?_
      refine st (mv rfl) ?_
      refine st (idxD Tryd.underlying23 S86 (isE rfl K.ht) rfl (by omega) (hbx)) ?_
      refine st (fldD Tryd.underlying86 rfl T37 (by decide) (Fld.snd Fld.refl rfl) (isR rfl)) ?_
      refine st (ldS T37 (isR rfl)) ?_
      refine st (call2 En80 rfl rfl (fun v u w he h h' => by cases h; cases h'; exact union_spec _ _ w)) ?_
      refine en fun a w e' hf => ?_
      replace K := K.ext e'
      replace St := St.ext e'
      replace kh := kh.tr (Kh.ext e')
      replace e := Ext.tr e e'
      replace B7 := B7.ext e'
      replace B9 := B9.ext e'
      replace B11 := B11.ext e'
      clear e'
      replace hf := hf.keep [3, 11, 12, 37]
      dsimp only [keep, List.filterMap, look, Nat.beq, Option.map] at hf
      haveI hinr : ∀ G0, InR (GB W G0) (some b11) := fun G0 => InR.gb (by omega)
      refine tl_stW T37 hf rfl rfl (wordsC_one _) B11 rfl (rfl) fun w hg hsz B11 hf => ?_
      replace K := K.gr hg (by omega)
      replace St := St.ch (Chg.of_gro hg) (hnot _ (by omega))
      replace kh := kh.tr (Kh.gr hg (fun hh => by have := hh.1; omega))
      replace e := e.gr hg (by omega)
      replace B7 := B7.gr hg (by omega)
      replace B9 := B9.gr hg (by omega)
      clear hg
      refine tl_nil ?_
      simp only [Exit.inBlock]
      exact ⟨⟨e, K, St, B7, B9, by rw [hasTo_app]; exact B11⟩, kh⟩
    · intro a' w' hf' hJ hsz hDn
      simp only [Exit.inBlock, ↓reduceIte, Exit.then]
      have hD : Ds [w.heap.size] w' := (Ds.nil w').cons hDn (by simp)
      have hf : FrD 64 (marks [w.heap.size]) a' w' [(1, E (I up)), (2, E (.pointer (some ⟨b2, 0, none⟩))), (4, E (.pointer (some ⟨b4, 0, none⟩))), (5, E (.pointer (some ⟨b5, 0, none⟩))), (6, E (.pointer (some ⟨b6, 0, none⟩))), (7, E (.pointer (some ⟨b7, 0, none⟩))), (10, E (I (c0 : Nat))), (11, E (.pointer (some ⟨b11, 0, none⟩)))] := hf'.keep [1, 2, 4, 5, 6, 7, 10, 11]
      have hDW : ∀ d ∈ [w.heap.size], W.heap.size ≤ d := fun d hd => by rw [List.mem_singleton] at hd; omega
      have hwW : w.heap.size ≤ w'.heap.size := hsz
      clear hf' e K St B7 B9 B11 BS hDn
      obtain ⟨e, K, St, B7, B9, B11⟩ := hJ
      clear ll hSw hBw hWw h0w h29 hsz hNz
      generalize [w.heap.size] = D at *
      clear hwW
      generalize w' = w at *
      have hhas : hasTo t c0 (elems out) = hasB fs t part := by rw [hasB, hsp0, hout]
      rw [hhas] at B11
      repeat refine seq ?_
      refine regn 2 hf (by decide +kernel) ?_
      refine st (ld1 (v := ut) T23 rfl St.a rfl) ?_
      refine st ((lenD Tryd.underlying23 (isE rfl St.ht.sl)).eq (congrArg (Value.int .i64) (congrArg (fun n : Nat => (n : Int)) (show (L.map (bagOf fs t)).length = L.length by simp)))) ?_
      refine en fun a w e' hf => ?_
      replace K := K.ext e'
      replace St := St.ext e'
      replace e := Ext.tr e e'
      replace B7 := B7.ext e'
      replace B11 := B11.ext e'
      replace hD := hD.ext e'
      clear e'
      refine tl_as hf rfl (by decide) fun a hf => ?_
      refine tl_nil ?_
      replace hf := hf.keep [1, 2, 4, 5, 6, 7, 10, 11, 13]
      dsimp only [keep, List.filterMap, look, Nat.beq, Option.map] at hf
      have hS0 := St.k K h0 h4 h5 h34
      repeat refine seq ?_
      refine regn 5 hf (by decide +kernel) ?_
      refine st (ld1 (v := ut) T23 rfl St.a rfl) ?_
      refine st (mv rfl) ?_
      refine st (ldW T37 rfl B11 rfl) ?_
      refine st (bld2 (e1 := intE) (e2 := setE) (a := up) (b := hasB fs t part) (G := GO Go.Mono.G0 ut) Tryd.underlying86 rfl rfl rfl S3 S37 I86 rfl (isI rfl) (isS rfl)) ?_
      refine st (bsl1 (e := bagE) (G := GO Go.Mono.G0 ut) Tryd.underlying23 I86 rfl (by decide) rfl St.ht.avs (isR rfl)) ?_
      refine en fun a w e' hf => ?_
      replace K := K.ext e'
      replace St := St.ext e'
      replace e := Ext.tr e e'
      replace B7 := B7.ext e'
      replace B11 := B11.ext e'
      replace hD := hD.ext e'
      clear e'
      have hLl : L.length ≤ 3000 := by omega
      refine tl_app Tryd.underlying23 I86 rfl rfl hf (by decide) rfl St.ht (isR rfl) (by simp only [List.length_singleton, List.length_map]; omega) (by simp only [List.length_singleton, List.length_map, maxLen]; omega) fun a ut1 w hg hat Hn hf => ?_
      have cg := Chg.of_gro hg
      have c := (e.chg (SB b4 b5 ut ua)).tr (cg.to fun b _ hb => .inr (.inr (.inl hb)))
      have n7u : ut.ownBlock ≠ some b7 := St.ht.neB B7 (by decide)
      have HA := St.ha.chE cg fun b hb hh => St.ht.neO St.ha (by decide) hh hb
      have hrt : ∀ g, ut1.ownBlock = some g → ut.ownBlock = some g ∨ W.heap.size ≤ g := fun g hg' => by
        rcases hat with h | h
        · rw [h] at hg'; exact .inl hg'
        · rw [h] at hg'; cases hg'; exact .inr e.size
      replace B7 := B7.ch cg fun hh => n7u hh
      have B5 := St.b.ch cg fun hh => St.ht.neB St.b (by decide) hh
      have B4 := St.a.ch cg fun hh => St.ht.neB St.a (by decide) hh
      replace hD := hD.ch cg fun d hd hh => St.ht.neD hD hd hh
      replace K := K.ch cg fun b hb => hS0 b (.inr (.inr (.inl hb)))
      clear cg hg hat e B11
      replace hf := hf.keep [1, 2, 4, 5, 6, 7, 10, 13, 45]
      dsimp only [keep, List.filterMap, look, Nat.beq, Option.map] at hf
      have n45 : b5 ≠ b4 := Blk.ne B5 B4 (by decide)
      have n74 : b7 ≠ b4 := by have := hSl b4 (.inl rfl); omega
      have n75 : b7 ≠ b5 := by have := hSl b5 (.inr (.inl rfl)); omega
      have n4u : ut1.ownBlock ≠ some b4 := Hn.neB B4 (by decide)
      have n4a : ua.ownBlock ≠ some b4 := HA.neB B4 (by decide)
      have n4D : ∀ d ∈ D, ¬some b4 = some d := fun d hd hh => by cases hh; exact hD.ne B4 hd
      refine tl_st1 T23 hf rfl rfl Hn.one B4 Nat.zero_lt_one fun w hg hsz B4 hf => ?_
      replace B4 : Blk w b4 #[ut1] 23 := B4
      have cg := Chg.of_gro hg
      replace c := c.tr (cg.to fun b _ hb => by cases hb; exact .inl rfl)
      replace Hn := Hn.chE cg fun b hb hh => by cases hh; exact n4u hb
      replace HA := HA.chE cg fun b hb hh => by cases hh; exact n4a hb
      replace B7 := B7.ch cg fun hh => by cases hh; exact n74 rfl
      replace B5 := B5.ch cg fun hh => by cases hh; exact n45 rfl
      replace hD := hD.ch cg n4D
      replace K := K.ch cg fun b hb => by cases hb; exact hS0 b4 (.inl rfl)
      clear cg hg n4u n4a n4D
      refine tl_nil ?_
      replace hf := hf.keep [1, 2, 4, 5, 6, 7, 10, 13]
      dsimp only [keep, List.filterMap, look, Nat.beq, Option.map] at hf
      repeat refine seq ?_
      refine regn 3 hf (by decide +kernel) ?_
      refine st (ld1 (v := ua) T43 rfl B5 rfl) ?_
      refine st (mv rfl) ?_
      refine st (bsl1 (e := intE) (G := GO Go.Mono.G0 ua) Tryd.underlying43 I3 rfl (by decide) rfl HA.avs (isI rfl)) ?_
      refine en fun a w e' hf => ?_
      replace K := K.ext e'
      replace c := c.ext e'
      replace Hn := Hn.ext e'
      replace HA := HA.ext e'
      replace B7 := B7.ext e'
      replace B4 := B4.ext e'
      replace B5 := B5.ext e'
      replace hD := hD.ext e'
      clear e'
      have n7u : ua.ownBlock ≠ some b7 := HA.neB B7 (by decide)
      have n4u : ua.ownBlock ≠ some b4 := HA.neB B4 (by decide)
      have n5u : ua.ownBlock ≠ some b5 := HA.neB B5 (by decide)
      have hwc := c.size
      have hSa : ∀ b, ua.ownBlock = some b → SB b4 b5 ut ua b := fun b hb => .inr (.inr (.inr hb))
      refine tl_app Tryd.underlying43 I3 rfl rfl hf (by decide) rfl HA (isR rfl) (by simp only [List.length_singleton, List.length_map]; omega) (by simp only [List.length_singleton, List.length_map, maxLen]; omega) fun a ua1 w hg hat Hm hf => ?_
      have cg := Chg.of_gro hg
      have hra : ∀ g, ua1.ownBlock = some g → ua.ownBlock = some g ∨ W.heap.size ≤ g := fun g hg' => by
        rcases hat with h | h
        · rw [h] at hg'; exact .inl hg'
        · rw [h] at hg'; cases hg'; exact .inr hwc
      have nua : ∀ b, ua.ownBlock = some b → ut1.ownBlock ≠ some b := fun b hb hh => Hn.neO HA (by decide) hh hb
      have naD : ∀ d ∈ D, ¬ua.ownBlock = some d := fun d hd hh => HA.neD hD hd hh
      replace c := c.tr (cg.to fun b _ hb => hSa b hb)
      replace Hn := Hn.chE cg fun b hb hh => nua b hh hb
      replace B7 := B7.ch cg n7u
      replace B4 := B4.ch cg n4u
      replace B5 := B5.ch cg n5u
      replace hD := hD.ch cg naD
      replace K := K.ch cg fun b hb => hS0 b (hSa b hb)
      clear cg hg hat n7u n4u n5u naD nua hwc HA
      replace hf := hf.keep [1, 2, 4, 5, 6, 7, 10, 13, 49]
      dsimp only [keep, List.filterMap, look, Nat.beq, Option.map] at hf
      have n5u : ut1.ownBlock ≠ some b5 := Hn.neB B5 (by decide)
      have n5a : ua1.ownBlock ≠ some b5 := Hm.neB B5 (by decide)
      have n5D : ∀ d ∈ D, ¬some b5 = some d := fun d hd hh => by cases hh; exact hD.ne B5 hd
      refine tl_st1 T43 hf rfl rfl Hm.one B5 Nat.zero_lt_one fun w hg hsz B5 hf => ?_
      replace B5 : Blk w b5 #[ua1] 43 := B5
      have cg := Chg.of_gro hg
      replace c := c.tr (cg.to fun b _ hb => by cases hb; exact .inr (.inl rfl))
      replace Hn := Hn.chE cg fun b hb hh => by cases hh; exact n5u hb
      replace Hm := Hm.chE cg fun b hb hh => by cases hh; exact n5a hb
      replace B7 := B7.ch cg fun hh => by cases hh; exact n75 rfl
      replace B4 := B4.ch cg fun hh => by cases hh; exact n45 rfl
      replace hD := hD.ch cg n5D
      replace K := K.ch cg fun b hb => by cases hb; exact hS0 b5 (.inr (.inl rfl))
      clear cg hg n5u n5a n5D
      refine tl_nil ?_
      have S1 : BSt fs t B0 b4 b5 (L ++ [(up, part)]) ut1 ua1 w := ⟨B4, B5, by rw [List.map_append]; exact Hn, by rw [List.map_append]; rw [← hsp0] at Hm; exact Hm⟩
      have hr1 : ∀ b, SB b4 b5 ut1 ua1 b → SB b4 b5 ut ua b ∨ W.heap.size ≤ b := by
        rintro b (hb | hb | hb | hb)
        · exact .inl (.inl hb)
        · exact .inl (.inr (.inl hb))
        · exact (hrt b hb).imp (fun h => .inr (.inr (.inl h))) id
        · exact (hra b hb).imp (fun h => .inr (.inr (.inr h))) id
      clear Hn Hm B4 B5 hrt hra St
      replace hf := hf.keep [2, 6, 7, 10, 13]
      dsimp only [keep, List.filterMap, look, Nat.beq, Option.map] at hf
      obtain ⟨ls, hls⟩ : ∃ ls, subs fs part = ls := ⟨_, rfl⟩
      have hls' : partsB fs (del part (c0 : Int)) = ls := by rw [← hsp0]; exact hls
      have hlsP : ∀ C ∈ ls, Pt fs T C ∧ card C ≤ f := fun C hC => by
        rw [← hls] at hC
        have := hP.step F hC
        exact ⟨this.1, by omega⟩
      rw [hls] at hsc
      have hll : ls.length ≤ 1024 := by
        have h1 := (parts_some F (del_in hin (c0 : Int))).2.1
        have h2 := card_le_n (S := del part (c0 : Int)) (n := 1024) fun i hi => bit_lt hi
        rw [hls'] at h1; omega
      have hcW := c.size
      obtain ⟨N1, hN1⟩ : ∃ N1, N1 = w.heap.size := ⟨_, rfl⟩
      have hSN : ∀ b, SB b4 b5 ut1 ua1 b → b < N1 := fun b hb => by rw [hN1]; exact S1.lt b hb
      have hW1 : W.heap.size ≤ N1 := by omega
      have hN1w : N1 ≤ w.heap.size := by omega
      repeat refine seq ?_
      refine regn 6 hf (by decide +kernel) ?_
      refine st (ld1 (v := fv) T125 rfl K.f rfl) ?_
      refine st (ldW T37 rfl B7 rfl) ?_
      refine st (mv rfl) ?_
      refine st (call3 (A := Dv (slE setE) (fun b => b < N1) ls) En119 rfl rfl rfl (fun v u s w he h h' h'' => by cases h; cases h'; cases h''; rw [← hls']; exact split_spec F part c0 fv w (K.t0.ext he) (Dv.ex K.hv he) hin (fun b hb => by have := he.size; omega))) ?_
      refine st (lenD Tryd.underlying88 (isR rfl)) ?_
      refine st (mv rfl) ?_
      refine en fun a w e' hf => ?_
      replace K := K.ext e'
      replace c := c.ext e'
      replace S1 := S1.ext e'
      replace hN1w := Nat.le_trans hN1w e'.size
      replace B7 := B7.ext e'
      replace hD := hD.ext e'
      clear e'
      refine tl_nil ?_
      obtain ⟨lv, hlv, hf⟩ := hf.fix 53 rfl
      obtain ⟨N0, hN0⟩ : ∃ N0, N0 = w.heap.size := ⟨_, rfl⟩
      have HL : (Dv (slE setE) (fun b => b < N1 ∨ N0 ≤ b) ls).p lv w := Dv.weak hlv fun b hb hg => hg.elim id fun hg => absurd hb (Nat.not_lt.2 (by omega))
      have hN01 : N1 ≤ N0 := by omega
      have hNw : N0 ≤ w.heap.size := by omega
      have hS1 : ∀ b, SB b4 b5 ut1 ua1 b → b < N1 ∨ N0 ≤ b := fun b hb => .inl (hSN b hb)
      clear hlv hN0 hN1 B7
      have hbal : balL fs (f + 1) part up L = balK fs f (L.length : Int) (ls.take ls.length) (L ++ [(up, part)]) := by
        rw [List.take_length, ← hls]; rfl
      rw [hbal]
      have S1' : BSt fs t B0 b4 b5 (balK fs f (L.length : Int) (ls.take 0) (L ++ [(up, part)])) ut1 ua1 w := S1
      replace hf := hf.keep [6, 13, 53, 54, 55]
      dsimp only [keep, List.filterMap, look, Nat.beq, Option.map] at hf
      repeat refine seq ?_
      refine blk (loopN (fun r0 a w => ∃ (k : Nat) (utk uak : Value), r0 = ls.length - k ∧ k ≤ ls.length ∧ FrD 64 (marks D) a w [(6, E (.pointer (some ⟨b6, 0, none⟩))), (13, E (I (L.length : Nat))), (53, E lv), (54, E (I (ls.length : Nat))), (55, E (I k))] ∧
        Chg (SB b4 b5 ut ua) W w ∧ BK fs t B0 b2 b3 b4 b5 b6 fv tv w ∧ BSt fs t B0 b4 b5 (balK fs f (L.length : Int) (ls.take k) (L ++ [(up, part)])) utk uak w ∧ (Dv (slE setE) (fun b => b < N1 ∨ N0 ≤ b) ls).p lv w ∧ Ds D w ∧
        (∀ b, SB b4 b5 utk uak b → (SB b4 b5 ut ua b ∨ W.heap.size ≤ b) ∧ (b < N1 ∨ N0 ≤ b)) ∧ N0 ≤ w.heap.size) ls.length ⟨0, ut1, ua1, rfl, by omega, hf, c, K, S1', HL, hD, fun b hb => ⟨hr1 b hb, hS1 b hb⟩, hNw⟩ ?_)
      clear hf c K S1 S1' HL hD hr1 hS1 hSN hNw hcW hN1w
      rintro r0 a w ⟨k, utk, uak, rfl, hk, hf, c, K, Sk, HL, hD, hrk, hNw⟩
      repeat refine seq ?_
      refine regn 1 hf (by decide +kernel) ?_
      refine st (lss rfl rfl) ?_
      refine en fun a w e' hf => ?_
      replace K := K.ext e'
      replace c := c.ext e'
      replace Sk := Sk.ext e'
      replace HL := Dv.ex HL e'
      replace hNw := Nat.le_trans hNw e'.size
      replace hD := hD.ext e'
      clear e'
      refine tl_nil ?_
      repeat refine seq ?_
      refine ifc hf rfl (fun hc => wskip ?_) (fun hc => wexit ?_)
      · have hlt : k < ls.length := by have := of_decide_eq_true hc; omega
        clear hc
        simp only [Exit.then, Exit.inBlock, ↓reduceIte]
        obtain ⟨C, hC⟩ : ∃ C, ls[k]? = some C := ⟨_, List.getElem?_eq_getElem hlt⟩
        obtain ⟨hCp, hCf⟩ := hlsP C (List.mem_of_getElem? hC)
        have hlenk := balK_len (u := (L.length : Int)) F (ls.take k) (L ++ [(up, part)]) fun D hD => hlsP D (List.mem_of_mem_take hD)
        have hst := sum_take_succ hC
        have hsle := sum_take_le ls (k + 1)
        rw [List.length_append, List.length_singleton] at hlenk
        repeat refine seq ?_
        refine blk ?_
        repeat refine seq ?_
        refine regn0 ?_
        refine tl_op hf (by decide) (idxD Tryd.underlying88 S37 (isE rfl HL) rfl (by omega) (hC)) fun a w e' hf => ?_
        replace K := K.ext e'
        replace c := c.ext e'
        replace Sk := Sk.ext e'
        replace HL := Dv.ex HL e'
        replace hNw := Nat.le_trans hNw e'.size
        replace hD := hD.ext e'
        clear e'
        refine tl_op hf (by decide) (ldS T37 (isR rfl)) fun a w e' hf => ?_
        replace K := K.ext e'
        replace c := c.ext e'
        replace Sk := Sk.ext e'
        replace HL := Dv.ex HL e'
        replace hNw := Nat.le_trans hNw e'.size
        replace hD := hD.ext e'
        clear e'
        replace hf := hf.keep [6, 13, 53, 54, 55, 58]
        dsimp only [keep, List.filterMap, look, Nat.beq, Option.map] at hf
        have hSlt := Sk.lt
        have hDlt : ∀ d ∈ D, d < w.heap.size := fun d hd => hD.lt hd
        have hBw2 : B0 ≤ w.heap.size := by omega
        refine tl_alloc I37 hf (by decide) fun a b15 w e' hb15 hs15 B15 hf => ?_
        have lo15_hNw := Nat.le_trans hNw (Nat.le_of_eq hb15.symm)
        replace K := K.ext e'
        replace c := c.ext e'
        replace Sk := Sk.ext e'
        replace HL := Dv.ex HL e'
        replace hNw := Nat.le_trans hNw e'.size
        replace hD := hD.ext e'
        clear e'
        have hkb15 : ¬SB b4 b5 utk uak b15 := fun h => by have := hSlt _ h; omega
        have hkD : ¬ b15 ∈ D := fun h => by have := hDlt _ h; omega
        have hN15 : N0 ≤ b15 := by omega
        haveI hav : AvL b15 [] := inferInstance
        refine tl_stW T37 hf rfl rfl (wordsC_one _) B15 rfl (setC_size _) fun w hg hsz B15 hf => ?_
        replace K := K.gr hg (by omega)
        replace c := c.gr hg (.inr (by omega))
        replace Sk := Sk.ch (Chg.of_gro hg) (fun b hb hs => by cases hb; exact hkb15 hs)
        replace HL := Dv.gr HL hg (.inr (by omega))
        replace hNw := Nat.le_trans hNw (Nat.le_of_eq hsz.symm)
        replace hD := hD.gr hg hkD
        clear hg
        refine tl_nil ?_
        replace B15 : Blk w b15 (setC C) 37 := B15
        replace hf := hf.keep [6, 13, 15, 53, 54, 55]
        dsimp only [keep, List.filterMap, look, Nat.beq, Option.map] at hf
        repeat refine seq ?_
        refine regn 3 hf (by decide +kernel) ?_
        refine st (ld1 T128 rfl K.s rfl) ?_
        refine st (ldW T37 rfl B15 rfl) ?_
        refine st (mv rfl) ?_
        refine en fun a w e' hf => ?_
        replace K := K.ext e'
        replace c := c.ext e'
        replace Sk := Sk.ext e'
        replace HL := Dv.ex HL e'
        replace hNw := Nat.le_trans hNw e'.size
        replace hD := hD.ext e'
        replace B15 := B15.ext e'
        clear e'
        have v60 : a.eval (.tmp 60) = setV C := hf.val 60 _ rfl
        have v61 : a.eval (.tmp 61) = I (L.length : Nat) := hf.val 61 _ rfl
        have hkS := Sk.k K h0 h4 h5 h34
        have hkDD : ∀ d ∈ D, ¬SB b4 b5 utk uak d := fun d hd => Sk.neD hD hd
        refine tl_callV (S := SB b4 b5 utk uak) (F := fun w' => ∃ ut' ua', BSt fs t B0 b4 b5 (balL fs f C (L.length : Int) (balK fs f (L.length : Int) (ls.take k) (L ++ [(up, part)]))) ut' ua' w' ∧ ∀ b, SB b4 b5 ut' ua' b → SB b4 b5 utk uak b ∨ w.heap.size ≤ b) (A := Any) hf (by decide) En116 rfl ?_ fun a w' hc hF hf => ?_
        · have := ih C (L.length : Int) (balK fs f (L.length : Int) (ls.take k) (L ++ [(up, part)])) utk uak w hCp hCf (by omega) K Sk
          simpa [v60, v61] using this
        obtain ⟨ut', ua', Sk', hr'⟩ := hF
        replace hr' : ∀ b, SB b4 b5 ut' ua' b → (SB b4 b5 ut ua b ∨ W.heap.size ≤ b) ∧ (b < N1 ∨ N0 ≤ b) := fun b hb => by
          rcases hr' b hb with h | h
          · exact hrk b h
          · have := c.size
            exact ⟨.inr (by omega), .inr (by omega)⟩
        replace K := K.ch hc hkS
        replace c := c.tr2 hc fun b hb => (hrk b hb).1
        replace HL := Dv.ch HL hc fun b hb => (hrk b hb).2
        replace hD := hD.ch hc hkDD
        replace hNw := Nat.le_trans hNw hc.size
        rw [← balK_succ fs f (L.length : Int) ls (L ++ [(up, part)]) hC] at Sk'
        clear hc Sk B15 hrk hkS hkDD v60 v61
        refine tl_nil ?_
        try simp only [Exit.then, Exit.inBlock, ↓reduceIte]
        replace hf := hf.keep [6, 13, 53, 54, 55]
        dsimp only [keep, List.filterMap, look, Nat.beq, Option.map] at hf
        repeat refine seq ?_
        refine regn 1 hf (by decide +kernel) ?_
        refine st ((add rfl rfl (by omega)).eq (congrArg (Value.int .i64) (show (k : Int) + 1 = ((k + 1 : Nat) : Int) from rfl))) ?_
        refine en fun a w e' hf => ?_
        replace K := K.ext e'
        replace c := c.ext e'
        replace Sk' := Sk'.ext e'
        replace HL := Dv.ex HL e'
        replace hNw := Nat.le_trans hNw e'.size
        replace hD := hD.ext e'
        clear e'
        refine tl_op hf (by decide) (mv rfl) fun a w e' hf => ?_
        replace K := K.ext e'
        replace c := c.ext e'
        replace Sk' := Sk'.ext e'
        replace HL := Dv.ex HL e'
        replace hNw := Nat.le_trans hNw e'.size
        replace hD := hD.ext e'
        clear e'
        refine tl_nil ?_
        replace hf := hf.keep [6, 13, 53, 54, 55]
        dsimp only [keep, List.filterMap, look, Nat.beq, Option.map] at hf
        exact ⟨ls.length - (k + 1), by omega, k + 1, ut', ua', rfl, by omega, hf, c, K, Sk', HL, hD, hr', hNw⟩
      · obtain rfl : k = ls.length := by have := of_decide_eq_false hc; omega
        clear hc
        simp only [Exit.then, Exit.inBlock, ↓reduceIte]
        have cs := chg_shut D w
        refine ret0M rfl hf hD ⟨_, rfl, c.tr2 cs fun b hb => .inr (hDW b hb), trivial, utk, uak, Sk.ch cs fun d hd => Sk.neD hD hd, fun b hb => (hrk b hb).1⟩
end Go.Mono

set_option linter.unusedVariables false
set_option linter.unusedSimpArgs false
namespace Go.Mono
open Go Go.Proofs Go.RowKit

def belowB (n : Nat) : BS := BitVec.ofNat 1024 (2 ^ n - 1)
theorem below_bit (n i : Nat) (hi : i < 1024) : (belowB n).getLsbD i = decide (i < n) := by
  rw [belowB, BitVec.getLsbD_ofNat, Nat.testBit_two_pow_sub_one]
  simp [hi]
theorem ones_low : ∀ m, m ≤ 64 → ∀ j, j < 64 → ((1#64 <<< m) - 1#64).getLsbD j = decide (j < m) := by decide +kernel
theorem word_below (n i : Nat) (hi : i < 16) : word (belowB n) i = (1#64 <<< (max 0 (min ((n : Int) - 64 * (i : Int)) 64)).toNat) - 1#64 := by
  refine BitVec.eq_of_getLsbD_eq fun j hj => ?_
  rw [word_bit _ _ _ hj, below_bit _ _ (by omega), ones_low _ (by omega) j hj, decide_eq_decide]
  omega

theorem below_spec' (n : Nat) (W : World) (hn : n ≤ 1024) : Calls Tryd.prog 120 #[I (n : Nat)] W (Post (E (setV (belowB n))) W) := by
  refine enter (args := [I (n : Nat)]) (As := [E (I (n : Nat))]) Tryd.func120 rfl Tryd.ntmps120 (Nat.le_of_ble_eq_true rfl) ?_ (fun a hf => ?_) (Nat.le_of_ble_eq_true rfl)
  rotate_left
  dsimp only [params, Nat.reduceAdd] at hf
  rotate_right
  · exact arg1 rfl
  have e := Ext.rfl' W
  repeat refine seq ?_
  refine regn0 ?_
  refine tl_alloc I37 hf (by decide) fun a b2 w e' hb2 hs2 B2 hf => ?_
  have hle2 := Nat.le_trans e.size (Nat.le_of_eq hb2.symm)
  replace e := Ext.tr e e'
  clear e'
  refine tl_nil ?_
  simp only [Value.cells, zeroC] at B2
  repeat refine seq ?_
  refine regn0 ?_
  refine tl_alloc I37 hf (by decide) fun a b3 w e' hb3 hs3 B3 hf => ?_
  have hle3 := Nat.le_trans e.size (Nat.le_of_eq hb3.symm)
  have lt3_B2 := B2.lt
  replace e := Ext.tr e e'
  replace B2 := B2.ext e'
  clear e'
  refine tl_nil ?_
  simp only [Value.cells, zeroC] at B3
  have n32 : b3 ≠ b2 := by omega
  replace hf := hf.keep [0, 2, 3]
  dsimp only [keep, List.filterMap, look, Nat.beq, Option.map] at hf
  repeat refine seq ?_
  refine regn 3 hf (by decide +kernel) ?_
  refine st (mv rfl) ?_
  refine st (min2 rfl rfl) ?_
  refine st ((max2 rfl rfl).eq (congrArg (Value.int .i64) (show max (0 : Int) (min (n : Int) 1024) = (n : Int) by omega))) ?_
  refine en fun a w e' hf => ?_
  replace e := Ext.tr e e'
  replace B2 := B2.ext e'
  replace B3 := B3.ext e'
  clear e'
  refine tl_as hf rfl (by decide) fun a hf => ?_
  refine tl_nil ?_
  repeat refine seq ?_
  refine regn 1 hf (by decide +kernel) ?_
  refine st (mv rfl) ?_
  refine en fun a w e' hf => ?_
  replace e := Ext.tr e e'
  replace B2 := B2.ext e'
  replace B3 := B3.ext e'
  clear e'
  refine tl_nil ?_
  replace hf := hf.keep [0, 2, 3, 8]
  dsimp only [keep, List.filterMap, look, Nat.beq, Option.map] at hf
  repeat refine seq ?_
  refine blk (loopN (fun r a w => ∃ k : Nat, r = 16 - k ∧ k ≤ 16 ∧ Fr 23 a w [(0, E (I (n : Nat))), (2, E (.pointer (some ⟨b2, 0, none⟩))), (3, E (.pointer (some ⟨b3, 0, none⟩))), (8, E (I k))] ∧ Ext W w ∧
    Blk w b2 (setC 0) 37 ∧ Blk w b3 (wordsC fun i => if i < k then word (belowB n) i else 0) 37) 16 ⟨0, rfl, by omega, hf, e, B2, ?_⟩ ?_)
  · have e0 : (wordsC fun i => if i < 0 then word (belowB n) i else 0) = setC 0 := by
      rw [setC_zero]
      exact wordsC_congr fun i _ => if_neg (Nat.not_lt_zero i)
    rw [e0]; exact B3
  clear hf e B2 B3
  rintro r a w ⟨k, rfl, hk, hf, e, B2, B3⟩
  by_cases hlt : k < 16
  · repeat refine seq ?_
    refine regn 1 hf (by decide +kernel) ?_
    refine st ((lss rfl rfl).eq (congrArg Value.bool (show decide ((k : Int) < 16) = true from decide_eq_true (by omega)))) ?_
    refine en fun a w e' hf => ?_
    replace e := Ext.tr e e'
    replace B2 := B2.ext e'
    replace B3 := B3.ext e'
    clear e'
    refine tl_nil ?_
    repeat refine seq ?_
    refine ifc hf rfl (fun _ => wskip ?_) (fun h => by cases h)
    repeat refine seq ?_
    refine blk ?_
    repeat refine seq ?_
    refine regn 1 hf (by decide +kernel) ?_
    refine st (mv rfl) ?_
    refine en fun a w e' hf => ?_
    replace e := Ext.tr e e'
    replace B2 := B2.ext e'
    replace B3 := B3.ext e'
    clear e'
    refine tl_as hf rfl (by decide) fun a hf => ?_
    refine tl_nil ?_
    have hwb := word_below n k hlt
    repeat refine seq ?_
    refine regn 10 hf (by decide +kernel) ?_
    refine st (mv rfl) ?_
    refine st (mv rfl) ?_
    refine st (mv rfl) ?_
    refine st (mul rfl rfl (by omega)) ?_
    refine st (sub rfl rfl (by omega)) ?_
    refine st (min2 rfl rfl) ?_
    refine st (max2 rfl rfl) ?_
    refine st (shlW (u := 1#64) rfl rfl (by omega)) ?_
    refine st ((subW (v := 1#64) rfl rfl).eq (show Mono.W _ = Mono.W (word (belowB n) k) from by rw [hwb])) ?_
    refine st (idxA Tryd.underlying37 ⟨_, T35⟩ rfl rfl (by omega)) ?_
    refine en fun a w e' hf => ?_
    replace e := Ext.tr e e'
    replace B2 := B2.ext e'
    replace B3 := B3.ext e'
    clear e'
    refine tl_st1 T35 hf rfl rfl rfl B3 (by rw [wordsC_size]; simp; omega) fun w hg hsz B3 hf => ?_
    replace e := e.gr hg (by omega)
    replace B2 := B2.gr hg (by omega)
    clear hg
    refine tl_nil ?_
    replace B3 : Blk w b3 (wordsC fun i => if i < k + 1 then word (belowB n) i else 0) 37 := by
      have : (wordsC fun i => if i < k then word (belowB n) i else 0).setIfInBounds k (Mono.W (word (belowB n) k)) = wordsC fun i => if i < k + 1 then word (belowB n) i else 0 := by
        rw [wordsC_set]
        refine wordsC_congr fun i hi => ?_
        by_cases h1 : i = k
        · subst h1; simp
        · simp only [h1, if_false]
          by_cases h2 : i < k
          · simp [h2, show i < k + 1 by omega]
          · simp [h2, show ¬ i < k + 1 by omega]
      rw [← this]
      simpa using B3
    replace hf := hf.keep [0, 2, 3, 8]
    dsimp only [keep, List.filterMap, look, Nat.beq, Option.map] at hf
    repeat refine seq ?_
    refine regn 1 hf (by decide +kernel) ?_
    refine st (add rfl rfl (by omega)) ?_
    refine en fun a w e' hf => ?_
    replace e := Ext.tr e e'
    replace B2 := B2.ext e'
    replace B3 := B3.ext e'
    clear e'
    refine tl_op hf (by decide) (mv rfl) fun a w e' hf => ?_
    replace e := Ext.tr e e'
    replace B2 := B2.ext e'
    replace B3 := B3.ext e'
    clear e'
    refine tl_nil ?_
    replace hf := hf.keep [0, 2, 3, 8]
    dsimp only [keep, List.filterMap, look, Nat.beq, Option.map] at hf
    exact ⟨16 - (k + 1), by omega, k + 1, rfl, by omega, by simpa using hf, e, B2, B3⟩
  · obtain rfl : k = 16 := by omega
    repeat refine seq ?_
    refine regn 1 hf (by decide +kernel) ?_
    refine st ((lss rfl rfl).eq (congrArg Value.bool (show decide (((16 : Nat) : Int) < 16) = false from rfl))) ?_
    refine en fun a w e' hf => ?_
    replace e := Ext.tr e e'
    replace B2 := B2.ext e'
    replace B3 := B3.ext e'
    clear e'
    refine tl_nil ?_
    repeat refine seq ?_
    refine ifc hf rfl (fun h => by cases h) (fun _ => wexit ?_)
    simp only [Exit.then, Exit.inBlock, ↓reduceIte]
    have hC : (wordsC fun i => if i < 16 then word (belowB n) i else 0) = setC (belowB n) := wordsC_congr fun i hi => by
      simp only [hi, if_true]
    rw [hC] at B3
    repeat refine seq ?_
    refine regn 1 hf (by decide +kernel) ?_
    refine st (ldW T37 rfl (by assumption) rfl) ?_
    refine en fun a w e' hf => ?_
    replace e := Ext.tr e e'
    replace B2 := B2.ext e'
    replace B3 := B3.ext e'
    clear e'
    haveI hinr : ∀ G0, InR (GB W G0) (some b2) := fun G0 => InR.gb (by omega)
    refine tl_stW T37 hf rfl rfl (wordsC_one _) B2 rfl (rfl) fun w hg hsz B2 hf => ?_
    replace e := e.gr hg (by omega)
    replace B3 := B3.gr hg (by omega)
    clear hg
    refine tl_nil ?_
    refine wret (retS rfl T37 hf rfl B2 e rfl)
end Go.Mono
