/-
  The walk library: a region that draws its order, with one operation that changes own blocks; ahead of it some operations are free; what stands behind it comes after it.
  No condition.
-/
import Derived.Test.YtnhbkdliljcedaaDoorMonoT
set_option linter.unusedVariables false
set_option linter.unusedSimpArgs false
set_option linter.unusedVariables false
set_option linter.unusedSimpArgs false
namespace Go.Mono
open Go Go.RowKit

/-- the operations behind the one that changes -/
def RegP (P : Program) (ops : Array Oper) (w0 : World) (S : Nat → Prop) (F : World → Prop) : List Oper → (Env → Prop) → Env → Prop
  | [], K, L2 => K L2
  | o :: rest, K, L2 => ∃ A, (∀ w1, Chg S w0 w1 → F w1 → GOp P ops w1 L2 o A) ∧ RegP P ops w0 S F rest K (push o.dst A L2)
/-- the operations in the order of the text; fr: which are free, of those ahead of the one that changes; L: for these, L2: for what stands behind -/
def RegQ (P : Program) (ops : Array Oper) (w0 : World) (S : Nat → Prop) (F : World → Prop) : List Bool → List Oper → (Env → Prop) → Env → Env → Prop
  | [], o :: rest, K, L, L2 => o.guard = none ∧ ∃ A, XOpZ P w0 S F L o A ∧ RegP P ops w0 S F rest K (push o.dst A L2)
  | true :: fr, o :: rest, K, L, L2 => ∃ A, (∀ w1, Chg S w0 w1 → GOp P ops w1 L o A) ∧ AvS S A ∧ RegQ P ops w0 S F fr rest K (push o.dst A L) (push o.dst A L2)
  | false :: fr, o :: rest, K, L, L2 => ∃ A, GOp P ops w0 L o A ∧ RegQ P ops w0 S F fr rest K (push o.dst A L) (push o.dst Any L2)
  | _, _, _, _, _ => False

section
variable {P : Program} {ops : Array Oper} {Q : Exit → Act → World → Prop} {w0 : World} {n : Nat} {ds : List Deferred} {r : Option Nat}

theorem RegP_As {S : Nat → Prop} {F : World → Prop} {K : Env → Prop} : ∀ (M : List Oper) (k : Nat) (L : Env), (∀ j, j < M.length → ops[k + j]? = M[j]?) → RegP P ops w0 S F M K L →
    ∃ As : Nat → VA, (∀ j o, j < M.length → ops[k + j]? = some o → ∀ w1, Chg S w0 w1 → F w1 → GOp P ops w1 (envF ops L As k j) o (As j)) ∧ K (envF ops L As k M.length)
  | [], k, L, _, h => ⟨fun _ => Any, fun j o hj => by simp at hj, h⟩
  | o :: M, k, L, hM, ⟨A, hA, hr⟩ => by
    have h0 : ops[k]? = some o := by simpa using hM 0 (by simp)
    have hd : dstOf ops k = o.dst := by simp [dstOf, h0]
    obtain ⟨As, h1, h2⟩ := RegP_As M (k + 1) (push o.dst A L) (fun j hj => by
      have := hM (j + 1) (by simpa using hj)
      rw [show k + 1 + j = k + (j + 1) by omega]
      simpa using this) hr
    refine ⟨consFY A As, ?_, ?_⟩
    · intro j o' hj ho'
      cases j with
      | zero =>
        rw [Nat.add_zero, h0] at ho'
        obtain rfl := Option.some.inj ho'
        exact hA
      | succ j =>
        rw [envFY_cons, hd]
        exact h1 j o' (by simpa using hj) (by rw [show k + 1 + j = k + (j + 1) by omega]; exact ho')
    · rw [List.length_cons, envFY_cons, hd]
      exact h2
theorem RegQ_As {S : Nat → Prop} {F : World → Prop} {K : Env → Prop} : ∀ (M : List Oper) (fr : List Bool) (k : Nat) (L L2 : Env), (∀ j, j < M.length → ops[k + j]? = M[j]?) → RegQ P ops w0 S F fr M K L L2 →
    ∃ As : Nat → VA, fr.length < M.length ∧ (∀ j o, j < fr.length → ops[k + j]? = some o → (frF fr j = false → GOp P ops w0 (envF ops L As k j) o (As j)) ∧ (frF fr j = true → (∀ w1, Chg S w0 w1 → GOp P ops w1 (envF ops L As k j) o (As j)) ∧ AvS S (As j))) ∧
      (∀ o, ops[k + fr.length]? = some o → o.guard = none ∧ XOpZ P w0 S F (envF ops L As k fr.length) o (As fr.length)) ∧
      (∀ j o, fr.length < j → j < M.length → ops[k + j]? = some o → ∀ w1, Chg S w0 w1 → F w1 → GOp P ops w1 (envF ops L2 (fun j => if frF fr j = true ∨ fr.length ≤ j then As j else Any) k j) o (As j)) ∧
      K (envF ops L2 (fun j => if frF fr j = true ∨ fr.length ≤ j then As j else Any) k M.length)
  | [], [], _, _, _, _, h => h.elim
  | [], _ :: _, _, _, _, _, h => by
    rename_i f fr _ _ _ _
    cases f <;> exact h.elim
  | o :: M, [], k, L, L2, hM, ⟨hg, A, h1, h2⟩ => by
    have h0 : ops[k]? = some o := by simpa using hM 0 (by simp)
    have hd : dstOf ops k = o.dst := by simp [dstOf, h0]
    obtain ⟨As, h3, h4⟩ := RegP_As M (k + 1) (push o.dst A L2) (fun j hj => by
      have := hM (j + 1) (by simpa using hj)
      rw [show k + 1 + j = k + (j + 1) by omega]
      simpa using this) h2
    have e : (fun j => if frF [] j = true ∨ ([] : List Bool).length ≤ j then consFY A As j else Any) = consFY A As := by
      funext j
      simp
    refine ⟨consFY A As, by simp, fun j o hj => by simp at hj, fun o' ho' => ?_, fun j o' hj hj2 ho' => ?_, ?_⟩
    · rw [List.length_nil, Nat.add_zero, h0] at ho'
      obtain rfl := Option.some.inj ho'
      exact ⟨hg, h1⟩
    · rw [e]
      cases j with
      | zero => simp at hj
      | succ j =>
        rw [envFY_cons, hd]
        exact h3 j o' (by simpa using hj2) (by rw [show k + 1 + j = k + (j + 1) by omega]; exact ho')
    · rw [e, List.length_cons, envFY_cons, hd]
      exact h4
  | o :: M, f :: fr, k, L, L2, hM, h => by
    have h0 : ops[k]? = some o := by simpa using hM 0 (by simp)
    have hd : dstOf ops k = o.dst := by simp [dstOf, h0]
    obtain ⟨A, hA, hr⟩ : ∃ A, ((f = false → GOp P ops w0 L o A) ∧ (f = true → (∀ w1, Chg S w0 w1 → GOp P ops w1 L o A) ∧ AvS S A)) ∧ RegQ P ops w0 S F fr M K (push o.dst A L) (push o.dst (if f = true then A else Any) L2) := by
      cases f with
      | true =>
        obtain ⟨A, h1, h2, h3⟩ := h
        exact ⟨A, ⟨(fun h => by cases h), (fun _ => ⟨h1, h2⟩)⟩, h3⟩
      | false =>
        obtain ⟨A, h1, h3⟩ := h
        exact ⟨A, ⟨(fun _ => h1), (fun h => by cases h)⟩, h3⟩
    obtain ⟨As, h1, h2, h3, h5, h4⟩ := RegQ_As M fr (k + 1) _ _ (fun j hj => by
      have := hM (j + 1) (by simpa using hj)
      rw [show k + 1 + j = k + (j + 1) by omega]
      simpa using this) hr
    have e : (fun j => if frF (f :: fr) j = true ∨ (f :: fr).length ≤ j then consFY A As j else Any) = consFY (if f = true then A else Any) (fun j => if frF fr j = true ∨ fr.length ≤ j then As j else Any) := by
      funext j
      cases j with
      | zero =>
        show (if f = true ∨ fr.length + 1 ≤ 0 then A else Any) = (if f = true then A else Any)
        have : ¬ fr.length + 1 ≤ 0 := by omega
        simp [this]
      | succ j =>
        show (if frF fr j = true ∨ fr.length + 1 ≤ j + 1 then As j else Any) = _
        simp [consFY]
    refine ⟨consFY A As, by simp only [List.length_cons]; omega, ?_, ?_, ?_, ?_⟩
    · intro j o' hj ho'
      cases j with
      | zero =>
        rw [Nat.add_zero, h0] at ho'
        obtain rfl := Option.some.inj ho'
        exact hA
      | succ j =>
        rw [envFY_cons, hd]
        exact h2 j o' (by simpa using hj) (by rw [show k + 1 + j = k + (j + 1) by omega]; exact ho')
    · intro o' ho'
      rw [List.length_cons, envFY_cons, hd]
      exact h3 o' (by rw [show k + 1 + fr.length = k + (fr.length + 1) by omega]; exact ho')
    · intro j o' hj hj2 ho'
      rw [e]
      cases j with
      | zero => simp at hj
      | succ j =>
        rw [envFY_cons, hd]
        exact h5 j o' (by simpa using hj) (by simpa using hj2) (by rw [show k + 1 + j = k + (j + 1) by omega]; exact ho')
    · rw [e, List.length_cons, envFY_cons, hd]
      exact h4

structure InvQ (ops : Array Oper) (m x : Nat) (fr : Nat → Bool) (S : Nat → Prop) (F : World → Prop) (n : Nat) (ds : List Deferred) (w0 : World) (L : Env) (As : Nat → VA) (listed : Array Bool) (a : Act) (w : World) : Prop where
  ext : Chg S w0 w
  pre : listed.getD x true = false → Ext w0 w
  post : listed.getD x false = true → F w
  size : a.tmps.size = n
  defers : a.defers = ds
  hL : ∀ t A, look L t = some A → (∀ j, j < m → dstOf ops j ≠ some t) → A.p (a.eval (.tmp t)) w
  hA : ∀ i, i < m → listed.getD i false = true → (listed.getD x true = false ∨ fr i = true ∨ x ≤ i) → ∀ d, dstOf ops i = some d → (As i).p (a.eval (.tmp d)) w

theorem wpAny_mainQ {m x : Nat} {fr : Nat → Bool} {S : Nat → Prop} {F : World → Prop} (hx0 : x < m) (hFst : ∀ w w', Ext w w' → F w → F w') {L : Env} {As : Nat → VA} (hm : m ≤ ops.size) (hchk : ∀ i, i < m → chkOp ops m n i = true) (hchk2 : ∀ i, m ≤ i → i < ops.size → chkTail ops i = true)
    (hanc : ∀ j, j < x → fr j = false → covers ops 12 x j = true) (hpo : ∀ j, x < j → j < m → covers ops 12 j x = true)
    (hfree : ∀ i o, i < x → fr i = true → ops[i]? = some o → ∀ t, (t ∈ tmpsOf o ∨ gdst ops o = some t) → ∀ j, j < m → dstOf ops j = some t → fr j = true ∧ j ≠ x)
    (hopsP : ∀ j o, x < j → j < m → ops[j]? = some o → ∀ w1, Chg S w0 w1 → F w1 → GOp P ops w1 (envF ops L (fun j => if fr j = true ∨ x ≤ j then As j else Any) 0 j) o (As j))
    (hops : ∀ j o, j < x → ops[j]? = some o → (fr j = false → GOp P ops w0 (envF ops L As 0 j) o (As j)) ∧ (fr j = true → (∀ w1, Chg S w0 w1 → GOp P ops w1 (envF ops L As 0 j) o (As j)) ∧ AvS S (As j)))
    (hX : ∀ o, ops[x]? = some o → o.guard = none ∧ XOpZ P w0 S F (envF ops L As 0 x) o (As x)) (hLav : AvSL S L)
    (hend : ∀ a w, Chg S w0 w → F w → FrD n ds a w (envF ops L (fun j => if fr j = true ∨ x ≤ j then As j else Any) 0 m) → wpListIn (FW r) 0 P ops Q (ops.toList.drop m) a w) :
    ∀ (c : Nat) (listed : Array Bool) (a : Act) (w : World), (List.range m).countP (fun i => !listed.getD i true) = c → listed.size = ops.size →
      (∀ j, m ≤ j → j < ops.size → listed.getD j true = false) → LD ops listed → InvQ ops m x fr S F n ds w0 L As listed a w → wpAnyIn (FW r) 0 P .any ops Q (c + (ops.size - m)) listed a w
  | 0, listed, a, w, hc, hsz, hun, hld, hi => by
    have hall : ∀ j, j < m → listed.getD j false = true := by
      intro j hj
      have := (List.countP_eq_zero.1 hc) j (List.mem_range.2 hj)
      have hjl : j < listed.size := by omega
      simpa [hjl] using this
    rw [Nat.zero_add]
    refine wpAny_tail m hchk2 (ops.size - m) m (by omega) (Nat.le_refl _) listed a w hall hun hsz hld (hend a w hi.ext (hi.post (hall x hx0)) ⟨hi.size, hi.defers, fun t A ht => ?_⟩)
    rcases look_envF L _ t A m ht with ⟨j, hj, hd, rfl⟩ | ⟨hn, hl⟩
    · by_cases hk : fr j = true ∨ x ≤ j
      · rw [if_pos hk]
        exact hi.hA j hj (hall j hj) (.inr hk) t hd
      · rw [if_neg hk]; trivial
    · exact hi.hL t A hl hn
  | c + 1, listed, a, w, hc, hsz, hun, hld, hi => by
    have facts : ∀ i o, i < m → ops[i]? = some o → (∀ e ∈ o.after, Region.binds .any e = true → e.on < i) ∧ (∀ d, o.dst = some d → d < n) ∧
        (∀ t, t ∈ tmpsOf o ∨ gdst ops o = some t → ∀ j, j < m → dstOf ops j = some t → bnd ops i j = true) ∧ (∀ j, j < m → j ≠ i → ∀ d, o.dst = some d → dstOf ops j ≠ some d) := by
      intro i o hlt ho
      have := hchk i hlt
      simp only [chkOp, ho, Bool.and_eq_true, Array.all_eq_true_iff_forall_mem, Bool.or_eq_true, Bool.not_eq_true', List.all_eq_true, List.mem_range, List.mem_append, Option.mem_toList] at this
      obtain ⟨⟨⟨h1, h2⟩, h3⟩, h4⟩ := this
      refine ⟨fun e he hb => ?_, fun d hd => ?_, fun t ht j hj hd => ?_, fun j hj hne d hd hd' => ?_⟩
      · rcases h1 e he with h | h
        · rw [hb] at h; cases h
        · simpa [Nat.blt_eq] using h
      · simpa [hd, Nat.blt_eq] using h2
      · have := h3 t ht j hj
        rcases this with h | h
        · rw [hd] at h; simp at h
        · exact h
      · have := h4 j hj
        rcases this with h | h
        · exact hne (Nat.eq_of_beq_eq_true h)
        · rw [hd, hd'] at h; simp at h
    have prog : ∃ i, i < m ∧ listed.getD i true = false ∧ ∀ j, j < i → listed.getD j true = true := by
      have hex : ∃ i, i < m ∧ listed.getD i true = false := by
        have hpos : 0 < (List.range m).countP (fun i => !listed.getD i true) := by omega
        obtain ⟨i, hi, hb⟩ := List.countP_pos_iff.1 hpos
        exact ⟨i, List.mem_range.1 hi, by simpa using hb⟩
      obtain ⟨i, hlt, hb⟩ := hex
      induction i using Nat.strongRecOn with
      | _ i ih =>
        by_cases h : ∃ j, j < i ∧ listed.getD j true = false
        · obtain ⟨j, hj, hjb⟩ := h
          exact ih j hj (by omega) hjb
        · refine ⟨i, hlt, hb, fun j hj => ?_⟩
          cases hjb : listed.getD j true with
          | true => rfl
          | false => exact absurd ⟨j, hj, hjb⟩ h
    obtain ⟨i0, hi0, hu0, hbelow⟩ := prog
    have hready : i0 ∈ Region.ready .any ops listed := by
      have ho : ops[i0]? = some (ops[i0]'(by omega)) := by simp
      refine mem_ready.2 ⟨hu0, _, ho, fun e he hb => ?_⟩
      have hlt := (facts i0 _ hi0 ho).1 e he hb
      have := hbelow _ hlt
      have hjl : e.on < listed.size := by omega
      simpa [hjl] using this
    rw [show c + 1 + (ops.size - m) = (c + (ops.size - m)) + 1 by omega]
    refine ⟨fun h0 => (by rw [h0] at hready; cases hready), fun i hir => ?_⟩
    obtain ⟨hu, o, ho, hall⟩ := mem_ready.1 hir
    have hilt : i < ops.size := (Array.getElem?_eq_some_iff.1 ho).1
    have listed_of_bnd : ∀ j, bnd ops i j = true → listed.getD j false = true := by
      intro j hb
      simp only [bnd, ho] at hb
      obtain ⟨e, he, hb⟩ := Array.any_eq_true'.1 hb
      simp only [Bool.and_eq_true] at hb
      have := hall e he hb.1
      rwa [Nat.eq_of_beq_eq_true hb.2] at this
    have him : i < m := by
      rcases Nat.lt_or_ge i m with h | h
      · exact h
      · have hc := hchk2 i h hilt
        simp only [chkTail, ho, Bool.and_eq_true, List.all_eq_true, List.mem_range] at hc
        have := cov hld 12 i i0 (hc.2 i0 (by omega)) (fun o' ho' e he hb => by
          rw [ho] at ho'
          obtain rfl := Option.some.inj ho'
          exact hall e he hb)
        rw [not_listed hu0] at this
        cases this
    obtain ⟨f1, f2, f3, f4⟩ := facts i o him ho
    have hlx : x < i → listed.getD x false = true := fun hxi => cov hld 12 i x (hpo i hxi him) (fun o' ho' e he hb => by
      rw [ho] at ho'
      obtain rfl := Option.some.inj ho'
      exact hall e he hb)
    have hxun : i < x → fr i = false → listed.getD x true = false := by
      intro hix hfr
      cases hlx : listed.getD x true with
      | false => rfl
      | true =>
        have hxl : x < listed.size := by omega
        have hlx' : listed.getD x false = true := by simpa [hxl] using hlx
        have := cov hld 12 x i (hanc i hix hfr) (fun o' ho' e he hb => hld x o' hlx' ho' e he hb)
        rw [not_listed hu] at this
        cases this
    have hcond : i ≤ x → ∀ j, j < m → (∃ t, (t ∈ tmpsOf o ∨ gdst ops o = some t) ∧ dstOf ops j = some t) → (listed.getD x true = false ∨ fr j = true ∨ x ≤ j) := by
      rintro hix0 j hj ⟨t, ht, hd⟩
      by_cases hix : i = x
      · exact .inl (hix ▸ hu)
      · cases hfr : fr i with
        | true => exact .inr (.inl (hfree i o (by omega) hfr ho t ht j hj hd).1)
        | false => exact .inl (hxun (by omega) hfr)
    have byLook : i ≤ x → ∀ t, (t ∈ tmpsOf o ∨ gdst ops o = some t) → ∀ B, look (envF ops L As 0 i) t = some B → B.p (a.eval (.tmp t)) w := by
      intro hix t ht B hB
      rcases look_envF L As t B i hB with ⟨j, hj, hd, rfl⟩ | ⟨hn, hl⟩
      · exact hi.hA j (by omega) (listed_of_bnd j (f3 t ht j (by omega) hd)) (hcond hix j (by omega) ⟨t, ht, hd⟩) t hd
      · refine hi.hL t B hl fun j hj hd => ?_
        have hb := f3 t ht j hj hd
        simp only [bnd, ho] at hb
        obtain ⟨e, he, hb⟩ := Array.any_eq_true'.1 hb
        simp only [Bool.and_eq_true] at hb
        have hlt := f1 e he hb.1
        rw [Nat.eq_of_beq_eq_true hb.2] at hlt
        exact hn j hlt hd
    have byLookP : ∀ t, (t ∈ tmpsOf o ∨ gdst ops o = some t) → ∀ B, look (envF ops L (fun j => if fr j = true ∨ x ≤ j then As j else Any) 0 i) t = some B → B.p (a.eval (.tmp t)) w := by
      intro t ht B hB
      rcases look_envF L _ t B i hB with ⟨j, hj, hd, rfl⟩ | ⟨hn, hl⟩
      · by_cases hk : fr j = true ∨ x ≤ j
        · rw [if_pos hk]
          exact hi.hA j (by omega) (listed_of_bnd j (f3 t ht j (by omega) hd)) (.inr hk) t hd
        · rw [if_neg hk]; trivial
      · refine hi.hL t B hl fun j hj hd => ?_
        have hb := f3 t ht j hj hd
        simp only [bnd, ho] at hb
        obtain ⟨e, he, hb⟩ := Array.any_eq_true'.1 hb
        simp only [Bool.and_eq_true] at hb
        have hlt := f1 e he hb.1
        rw [Nat.eq_of_beq_eq_true hb.2] at hlt
        exact hn j hlt hd
    have ops1 : i ≤ x → ∀ x ∈ o.op.operands, ∀ B, opd (envF ops L As 0 i) x = some B → B.p (a.eval x) w := fun hix x hx B hB => by
      cases x with
      | tmp t => exact byLook hix t (.inl (List.mem_filterMap.2 ⟨.tmp t, by simpa using hx, rfl⟩)) B hB
      | const v => simp [opd] at hB; subst hB; rfl
      | global g => simp [opd] at hB; subst hB; rfl
      | func f => simp [opd] at hB; subst hB; rfl
    have ops2 : ∀ x' ∈ o.op.operands, ∀ B, opd (envF ops L (fun j => if fr j = true ∨ x ≤ j then As j else Any) 0 i) x' = some B → B.p (a.eval x') w := fun x' hx B hB => by
      cases x' with
      | tmp t => exact byLookP t (.inl (List.mem_filterMap.2 ⟨.tmp t, by simpa using hx, rfl⟩)) B hB
      | const v => simp [opd] at hB; subst hB; rfl
      | global g => simp [opd] at hB; subst hB; rfl
      | func f => simp [opd] at hB; subst hB; rfl
    have hdst : dstOf ops i = o.dst := by simp [dstOf, ho]
    have step : ∀ v w', Chg S w w' → (i ≠ x → Ext w w') → (i = x → ∀ j, j < x → fr j = true → AvS S (As j)) → (As i).p v w' → (i = x → F w') → wpAnyIn (FW r) 0 P .any ops Q (c + (ops.size - m)) (listed.setIfInBounds i true) (a.put o.dst v) w' := by
      intro v w' hx hxe hxa hv hvF
      have stab : ∀ (A : VA) u, AvS S A → A.p u w → A.p u w' := fun A u hA h => hA.av _ _ _ hx h
      refine wpAny_mainQ hx0 hFst hm hchk hchk2 hanc hpo hfree hopsP hops hX hLav hend c _ _ _ ?_ (by simpa using hsz) ?_ ?_ ?_
      · have := countP_upd m (fun j => !listed.getD j true) (fun j => !(listed.setIfInBounds i true).getD j true) i him (by simp only [hu, Bool.not_false])
          (by have hjl : i < listed.size := by omega
              simp [hjl]) (fun j hj => by simp only [getD_set_ne true (Ne.symm hj)])
        omega
      · intro j hj hj'
        rw [getD_set_ne true (by omega)]
        exact hun j hj hj'
      · exact hld.set fun o' ho' e he hb => by
          rw [ho] at ho'
          obtain rfl := Option.some.inj ho'
          exact hall e he hb
      · refine ⟨Chg.tr hi.ext hx, fun hl => ?_, fun hl => ?_, by simp [hi.size], by simp [hi.defers], fun t A ht hn => ?_, fun j hj hl hcj d hd => ?_⟩
        · have hix : i ≠ x := by
            rintro rfl
            have hjl : i < listed.size := by omega
            simp [hjl] at hl
          rw [getD_set_ne true hix] at hl
          exact Ext.tr (hi.pre hl) (hxe hix)
        · by_cases hix : i = x
          · exact hvF hix
          · rw [getD_set_ne false hix] at hl
            exact hFst _ _ (hxe hix) (hi.post hl)
        · have h0 := stab A _ ⟨hLav.av t A ht⟩ (hi.hL t A ht hn)
          cases hod : o.dst with
          | none => exact h0
          | some d =>
            have : d ≠ t := fun e => hn i him (by rw [hdst, hod, e])
            rw [eval_put_ne this]
            exact h0
        · by_cases hji : j = i
          · subst hji
            rw [hdst] at hd
            rw [hd, eval_put_same (by rw [hi.size]; exact f2 d hd)]
            exact hv
          · have hl' : listed.getD j false = true := by rwa [getD_set_ne false (Ne.symm hji)] at hl
            have hcj' : listed.getD x true = false ∨ fr j = true ∨ x ≤ j := by
              by_cases hix : i = x
              · exact .inl (hix ▸ hu)
              · rw [getD_set_ne true hix] at hcj
                exact hcj
            have h1 := hi.hA j hj hl' hcj' d hd
            have h0 : (As j).p (a.eval (.tmp d)) w' := by
              by_cases hix : i = x
              · have hjx : j < x := by
                  rcases Nat.lt_trichotomy j x with h | h | h
                  · exact h
                  · exact absurd (h.trans hix.symm) hji
                  · have := cov hld 12 j x (hpo j h hj) (fun o' ho' e he hb => hld j o' hl' ho' e he hb)
                    rw [not_listed (hix ▸ hu)] at this
                    cases this
                refine stab _ _ (hxa hix j hjx ?_) h1
                rcases hcj with h | h | h
                · have hxl : x < listed.size := by omega
                  subst hix
                  simp [hxl] at h
                · exact h
                · omega
              · exact (As j).st _ _ _ (hxe hix) h1
            cases hod : o.dst with
            | none => exact h0
            | some d' =>
              have : d' ≠ d := fun e => f4 j hj hji d' hod (by rw [hd, e])
              rw [eval_put_ne this]
              exact h0
    unfold wpOpIn
    simp only [ho]
    by_cases hix : i = x
    · obtain ⟨hgd, hxo⟩ := hX o (hix ▸ ho)
      have hw : Region.wanted o (yielded ops a.tmps) = true := by unfold Region.wanted; rw [hgd]
      rw [if_pos hw]
      have hpre : Ext w0 w := hi.pre (hix ▸ hu)
      exact (hxo.out a.eval w hpre (hix ▸ ops1 (Nat.le_of_eq hix))).wp fun v w' hv => step v w' hv.1 (fun h => absurd hix h) (fun _ j hj => by
        have hoj : ops[j]? = some (ops[j]'(by omega)) := by simp
        exact fun hfj => ((hops j _ hj hoj).2 hfj).2) (hix ▸ hv.2.1) (fun _ => hv.2.2)
    · have hg : if Region.wanted o (yielded ops a.tmps) then OpR P o a.eval w (fun v w' => Ext w w' ∧ (As i).p v w') else (As i).p undef w := by
        by_cases hlt : i < x
        · cases hfr : fr i with
          | true => exact ((hops i o hlt ho).2 hfr).1 w hi.ext a w (Ext.rfl' w) (ops1 (by omega)) (fun d B hd hB => byLook (by omega) d (.inr hd) B hB)
          | false => exact (hops i o hlt ho).1 hfr a w (hi.pre (hxun hlt hfr)) (ops1 (by omega)) (fun d B hd hB => byLook (by omega) d (.inr hd) B hB)
        · exact hopsP i o (by omega) him ho w hi.ext (hi.post (hlx (by omega))) a w (Ext.rfl' w) ops2 (fun d B hd hB => byLookP d (.inr hd) B hB)
      split
      · rename_i hw
        rw [if_pos hw] at hg
        exact (hg.wp fun v w' hv => step v w' (Ext.chg hv.1 S) (fun _ => hv.1) (fun h => absurd h hix) hv.2 (fun h => absurd h hix))
      · rename_i hw
        rw [if_neg hw] at hg
        exact ⟨fun _ _ => trivial, step undef w (Chg.rfl' S w) (fun _ => Ext.rfl' _) (fun h => absurd h hix) hg (fun h => absurd h hix)⟩

def chkQ (ops : Array Oper) (m : Nat) (fr : List Bool) : Bool :=
  Nat.blt fr.length m && ((List.range fr.length).all fun j => frF fr j || covers ops 12 fr.length j) && ((List.range m).all fun j => Nat.ble j fr.length || covers ops 12 j fr.length) &&
  ((List.range fr.length).all fun i => !frF fr i || match ops[i]? with
    | none => false
    | some o => (tmpsOf o ++ (gdst ops o).toList).all fun t => (List.range m).all fun j => (match dstOf ops j with | some d => !Nat.beq d t | none => true) || (frF fr j && Nat.blt j fr.length))
/-- THE RULE: m operations; the one behind those that fr tells of changes blocks of S -/
theorem regQ {id : Nat} {ops : Array Oper} {L : Env} {a : Act} {w : World} (m : Nat) (fr : List Bool) (S : Nat → Prop) (F : World → Prop) (hFst : ∀ w w', Ext w w' → F w → F w') (hmix : P.follows .mixedOrders = true) (hf : FrD n ds a w L) [hL : AvSL S L] (hchk : chk ops m n = true) (hchkZ : chkQ ops m fr = true)
    (h : RegQ P ops w S F fr (ops.toList.take m) (fun L' => ∀ a' w', Chg S w w' → F w' → FrD n ds a' w' L' → wpListIn (FW r) 0 P ops Q (ops.toList.drop m) a' w') L L) : (Code.region id ops true).wpIn (FW r) 0 P Q a w := by
  simp only [chk, Bool.and_eq_true, List.all_eq_true, List.mem_range, Bool.or_eq_true, Nat.ble_eq] at hchk
  obtain ⟨⟨hm, h1⟩, h2⟩ := hchk
  refine wpIn_region_any hmix ?_
  have hlen : (ops.toList.take m).length = m := by simp; omega
  obtain ⟨As, hfl, hAs, hX, hPo, hK⟩ := RegQ_As (ops := ops) (ops.toList.take m) fr 0 L L (fun j hj => by
    rw [hlen] at hj
    rw [Nat.zero_add, List.getElem?_take, if_pos hj]; simp) h
  rw [hlen] at hK hfl hPo
  simp only [chkQ, Bool.and_eq_true, List.all_eq_true, List.mem_range, Bool.or_eq_true, Nat.blt_eq, Nat.ble_eq] at hchkZ
  obtain ⟨⟨⟨hx, z1⟩, z3⟩, z2⟩ := hchkZ
  have hext : Ext w { w with drawn := w.drawn + 1 } := Ext.drew w
  have := wpAny_mainQ (P := P) (ops := ops) (Q := Q) (w0 := w) (n := n) (ds := ds) (m := m) (x := fr.length) (fr := frF fr) (S := S) (F := F) (r := r) (L := L) (As := As) hx hFst hm h1 (fun i hi hi' => by
      rcases h2 i hi' with h | h
      · simp only [Nat.blt_eq] at h; omega
      · exact h) (fun j hj hfj => by
      rcases z1 j hj with h | h
      · rw [hfj] at h; cases h
      · exact h) (fun j hj hjm => by
      rcases z3 j hjm with h | h
      · omega
      · exact h) (fun i o hi hfi ho t ht j hj hd => by
      have := z2 i hi
      rw [hfi, ho] at this
      simp only [Bool.not_true, Bool.false_eq_true, false_or, List.all_eq_true, List.mem_append, Option.mem_toList, List.mem_range, Bool.or_eq_true] at this
      rcases this t ht j hj with h | h
      · rw [hd] at h; simp at h
      · rw [Bool.and_eq_true, Nat.blt_eq] at h
        exact ⟨h.1, by omega⟩) (fun j o hj hjm ho => hPo j o hj hjm (by simpa using ho)) (fun j o hj ho => hAs j o hj (by simpa using ho)) (fun o ho => hX o (by simpa using ho)) hL (fun a w hx hF hf => hK a w hx hF hf) m
    (Array.replicate ops.size false) a { w with drawn := w.drawn + 1 } ?_ (by simp) ?_ ?_ ⟨hext.chg S, fun _ => hext, fun hl => ?_, hf.size, hf.defers, fun t A ht _ => A.st _ _ _ hext (hf.val t A ht), fun i hi hl => ?_⟩
  · rwa [show m + (ops.size - m) = ops.size by omega] at this
  · have : (List.range m).countP (fun i => !(Array.replicate ops.size false).getD i true) = (List.range m).length := by
      refine List.countP_eq_length.2 fun i hi => ?_
      have := List.mem_range.1 hi
      have hlt : i < ops.size := by omega
      simp [hlt]
    simpa using this
  · intro j _ hj
    simp [hj]
  · intro i o hl
    have : (Array.replicate ops.size false).getD i false = false := by
      by_cases hlt : i < ops.size <;> simp [hlt]
    rw [this] at hl; cases hl
  · have : (Array.replicate ops.size false).getD fr.length false = false := by
      by_cases hlt : fr.length < ops.size <;> simp [hlt]
    rw [this] at hl; cases hl
  · have : (Array.replicate ops.size false).getD i false = false := by
      by_cases hlt : i < ops.size <;> simp [hlt]
    rw [this] at hl; cases hl
end
section
variable {P : Program} {w0 : World} {L L2 : Env} {ty : TypeId} {pos : String} {aft : Array Edge}
variable {ops : Array Oper} {rest : List Oper} {K : Env → Prop} {A : VA} {op : Op} {dd : Nat} {S : Nat → Prop} {F : World → Prop} {fr : List Bool}
theorem qf (h : ∀ w1, Chg S w0 w1 → OpC P w1 L ⟨some dd, op, ty, pos, aft, none⟩ A) [hA : AvS S A] (k : RegQ P ops w0 S F fr rest K ((dd, A) :: L) ((dd, A) :: L2)) : RegQ P ops w0 S F (true :: fr) (⟨some dd, op, ty, pos, aft, none⟩ :: rest) K L L2 :=
  ⟨A, fun w1 h1 a w he hv _ => by simp only [Region.wanted, if_true]; exact (h w1 h1).out _ w he hv, hA, k⟩
theorem qa (h : OpC P w0 L ⟨some dd, op, ty, pos, aft, none⟩ A) (k : RegQ P ops w0 S F fr rest K ((dd, A) :: L) ((dd, Any) :: L2)) : RegQ P ops w0 S F (false :: fr) (⟨some dd, op, ty, pos, aft, none⟩ :: rest) K L L2 :=
  ⟨A, fun a w he hv _ => by simp only [Region.wanted, if_true]; exact h.out _ w he hv, k⟩
theorem qx {d : Option Nat} (h : XOpZ P w0 S F L ⟨d, op, ty, pos, aft, none⟩ A) (k : RegP P ops w0 S F rest K (push d A L2)) : RegQ P ops w0 S F [] (⟨d, op, ty, pos, aft, none⟩ :: rest) K L L2 := ⟨rfl, A, h, k⟩
theorem qp (h : ∀ w1, Chg S w0 w1 → F w1 → OpC P w1 L2 ⟨some dd, op, ty, pos, aft, none⟩ A) (k : RegP P ops w0 S F rest K ((dd, A) :: L2)) : RegP P ops w0 S F (⟨some dd, op, ty, pos, aft, none⟩ :: rest) K L2 :=
  ⟨A, fun w1 h1 h2 a w he hv _ => by simp only [Region.wanted, if_true]; exact (h w1 h1 h2).out _ w he hv, k⟩
theorem qe (h : K L2) : RegP P ops w0 S F [] K L2 := h
end
end Go.Mono
