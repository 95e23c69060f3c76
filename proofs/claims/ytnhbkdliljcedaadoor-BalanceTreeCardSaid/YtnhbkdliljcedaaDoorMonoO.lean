/-
  The walk library: two own slices that grow in turn: own slices whose elements need not lie below the base; a call with a post of its own.
  No condition.
-/
import Derived.Test.YtnhbkdliljcedaaDoorWD
set_option linter.unusedVariables false
set_option linter.unusedSimpArgs false
set_option linter.unusedVariables false
set_option linter.unusedSimpArgs false
namespace Go.Mono
open Go Go.Proofs Go.RowKit

/-- a slice of the call's own: the data avoid G and the slice's own block -/
structure OwX {α : Type} (e : Enc α) (ty : TypeId) (B : Nat) (G : Nat → Prop) (w : World) (xs : List α) (v : Value) : Prop where
  own : ∃ cs, w.ownsRow B ty e.k v xs.length cs ∧ Cells e (GO G v) w xs cs
  base : B ≤ w.heap.size
section
variable {α β : Type} {e : Enc α} {ty ty' : TypeId} {B B' : Nat} {G G' : Nat → Prop} {w w' : World} {xs : List α} {ys : List β} {v u : Value}
theorem OwX.lt (h : OwX e ty B G w xs v) {b : Nat} (hb : v.ownBlock = some b) : B ≤ b ∧ b < w.heap.size := by
  obtain ⟨cs, h1, _⟩ := h.own
  exact h1.lt b hb
theorem OwX.nil (e : Enc α) (ty : TypeId) {B : Nat} (hB : B ≤ w.heap.size) : OwX e ty B G w [] (.slice none 0 0) :=
  ⟨⟨[], World.ownsRow_nil _ _ _ _, rfl⟩, hB⟩
theorem OwX.weak (h : OwX e ty B G w xs v) (hG : ∀ b, b < w.heap.size → G' b → G b) : OwX e ty B G' w xs v := by
  obtain ⟨cs, h1, h2⟩ := h.own
  exact ⟨⟨cs, h1, h2.weak fun b hb h => h.imp (hG b hb) id⟩, h.base⟩
theorem OwX.ch (h : OwX e ty B G w xs v) {S : Nat → Prop} (c : Chg S w w') (hS : ∀ b, v.ownBlock = some b → ¬S b) (hG : ∀ b, S b → G b) : OwX e ty B G w' xs v := by
  obtain ⟨cs, h1, h2⟩ := h.own
  refine ⟨⟨cs, ⟨h1.1, ?_⟩, h2.pres (fun b hb hn => c.block b hb fun hs => hn (.inl (hG b hs))) c.size⟩, Nat.le_trans h.base c.size⟩
  rcases h1.2 with h3 | ⟨g, cap, cur, a1, a2, a3, a4⟩
  · exact .inl h3
  · refine .inr ⟨g, cap, cur, a1, a2, ?_, a4⟩
    rw [c.block g (Array.getElem?_eq_some_iff.1 a3).1 (hS g (by rw [a1]; rfl))]
    exact a3
theorem OwX.ext (h : OwX e ty B G w xs v) (k : Ext w w') : OwX e ty B G w' xs v := h.ch (k.chg fun _ => False) (fun _ _ h => h) fun _ h => h.elim
theorem OwX.sl (h : OwX e ty B G w xs v) (hG : ∀ b, v.ownBlock = some b → ¬G' b) (hGG : ∀ b, b < w.heap.size → G' b → G b) : (Dv (slE e) G' xs).p v w := by
  obtain ⟨cs, h1, h2⟩ := h.own
  refine Dv.sl.2 ?_
  rcases h1.2 with ⟨hv, hn⟩ | ⟨g, cap, cur, hv, hB, hg, hn, hm, hs, ht⟩
  · exact .inl ⟨hv, List.eq_nil_of_length_eq_zero hn⟩
  · refine .inr ⟨_, cap, cs, hv, hn, hG _ (by rw [hv]; rfl), (Array.getElem?_eq_some_iff.1 hg).1, h2.weak fun b hb h => .inl (hGG b hb h), h1.cells (by rw [hv]; rfl)⟩
theorem OwX.sl0 (h : OwX e ty B G w xs v) : (Dv (slE e) Go.Mono.G0 xs).p v w := h.sl (fun _ _ h => h) fun _ _ h => h.elim
theorem OwX.one (h : OwX e ty B G w xs v) : v.oneCell' = true := by
  rcases Dv.sl.1 h.sl0 with ⟨rfl, _⟩ | ⟨ad, cap, cs, rfl, _⟩ <;> rfl
theorem OwX.neR {f : Enc β} {G2 : Nat → Prop} (h : OwX e ty B G w xs u) (h' : OwR f ty' B' G2 w ys v) (ht : ty ≠ ty') {g : Nat} (hu : u.ownBlock = some g) : v.ownBlock ≠ some g := by
  obtain ⟨cs, h1, _⟩ := h.own
  rcases h1.2 with ⟨rfl, _⟩ | ⟨g', cap, cur, rfl, _, hg, _⟩
  · simp [Value.ownBlock] at hu
  · simp only [Value.ownBlock, Option.some.injEq] at hu
    subst hu
    exact h'.neB (show Blk w g' cur ty from hg) ht
end
section tail
variable {P : Program} {L : Env} {ty : TypeId} {pos : String} {aft : Array Edge} {r : Option Nat} {ds : List Deferred}
variable {ops : Array Oper} {rest : List Oper} {Q : Exit → Act → World → Prop} {n : Nat} {a : Act} {w : World} {x y : Operand}
variable {α : Type} {e : Enc α} {G : Nat → Prop} {xs ys : List α} {v : Value}
theorem run_appX {t te : TypeId} {z0 : Value} {sz bz B : Nat} (ht : P.underlying t = some (.slice te)) (hi : (P.info? te).map (fun i => (i.zero, i.size, i.bytes)) = some (some z0, sz, bz)) (hsz : sz = e.k) (hz0 : z0.cells.size = e.k)
    (ho : OwX e te B G w xs v) {u : Value} (hy : (Dv (slE e) (GO G v) ys).p u w) (h63 : (xs.length + ys.length) ≤ maxLen) (hb : (xs.length + ys.length) * bz ≤ 140737488355328) :
    ∃ v' w', (Builtin.append_ #[t, t] ty #[v, u]).run P w = .ok v' w' ∧ OwX e te B G w' (xs ++ ys) v' ∧ w.grownBy w' v.ownBlock ∧ (v'.ownBlock = v.ownBlock ∨ v'.ownBlock = some w.heap.size) := by
  obtain ⟨it, hit, hiz, hsz', hbz⟩ := info_parts hi
  subst hsz
  obtain ⟨cs, h1, h2⟩ := ho.own
  rcases Dv.sl.1 hy with ⟨rfl, rfl⟩ | ⟨ad, cap, ds', rfl, _, h3, h4, h5, h6⟩
  · refine ⟨v, w, run_append_owned_none w B t ty te it e.k ht hit v _ cs h1, by simpa using ho, ⟨rfl, rfl, rfl, Nat.le_refl _, fun _ _ _ => rfl⟩, .inl rfl⟩
  · obtain ⟨v', w', h7, h8, h9, _, h10⟩ := run_append_own_at (P := P) w B t ty te it z0 e.k bz ht hit hiz hsz' hbz hz0 e.pos v _ cs h1 ad ys.length cap ds' h5.len h6 h5.one h63 hb ho.base
    refine ⟨v', w', h7, ⟨⟨cs ++ ds', by simpa using h8, ?_⟩, Nat.le_trans ho.base h9.size⟩, h9, h10⟩
    have hp : ∀ {zs : List α} {ms : List Value}, Cells e (GO G v) w zs ms → Cells e (GO G v') w' zs ms := fun h => by
      have h11 : Cells e (fun b => GO G v b ∨ v'.ownBlock = some b) w _ _ := h.weak fun b hb hb' => by
        rcases hb' with hb' | hb'
        · exact hb'
        · rcases h10 with h | h
          · exact .inr (by rw [← h]; exact hb')
          · rw [h] at hb'; cases hb'; omega
      exact (h11.pres (fun b hb hn => h9.block b hb (fun he => hn (.inl (.inr he.symm)))) h9.size).weak fun b _ hb => hb.elim (fun h => .inl (.inl h)) .inr
    exact (hp h2).app (hp h5)
/-- append to a slice of the call's own -/
theorem tl_appX {t te : TypeId} {z0 : Value} {d sz bz B : Nat} (ht : P.underlying t = some (.slice te)) (hi : (P.info? te).map (fun i => (i.zero, i.size, i.bytes)) = some (some z0, sz, bz)) (hsz : sz = e.k) (hz0 : z0.cells.size = e.k)
    (hf : FrD n ds a w L) [hL : AvRL v.ownBlock L] (hd : d < n) (hx : opd L x = some (E v)) (ho : OwX e te B G w xs v) (hy : Is L w y (Dv (slE e) (GO G v) ys)) (hb : (xs.length + ys.length) * bz ≤ 140737488355328)
    (h63 : xs.length + ys.length ≤ maxLen)
    (k : ∀ a' v' w', w.grownBy w' v.ownBlock → (v'.ownBlock = v.ownBlock ∨ v'.ownBlock = some w.heap.size) → OwX e te B G w' (xs ++ ys) v' → FrD n ds a' w' ((d, E v') :: L) → wpListIn (FW r) 0 P ops Q rest a' w') :
    wpListIn (FW r) 0 P ops Q (⟨some d, .call ⟨.builtin .append, #[x, y], #[t, t]⟩, ty, pos, aft, none⟩ :: rest) a w :=
  wpListIn_plain rfl fun K hK => by
    have hxv : a.eval x = v := hf.opd x _ hx
    obtain ⟨C, hy1, hy2⟩ := hy
    have hyv := hy2 _ _ (Ext.rfl' _) (hf.opd y _ hy1)
    obtain ⟨v', w', h1, h2, h3, h4⟩ := run_appX (P := P) (ty := ty) ht hi hsz hz0 ho hyv h63 hb
    refine OpR.wp (R := fun u w1 => u = v' ∧ w1 = w') ?_ ?_
    · simp only [OpR, execOp, resolve, invoke, builtin, Sem.run_bind, Sem.run_pure, Result.andThen_ok, List.map_toArray, List.map_cons, List.map_nil, hxv, h1]
      trivial
    · rintro u w1 ⟨rfl, rfl⟩
      refine hK _ _ (k _ _ _ h3 h4 h2 ?_)
      exact (hf.gro h3).put (d := some d) (A := E u) (Ext.rfl' _) (fun k hk => by cases hk; exact hd) rfl
/-- a call whose post speaks of its value -/
theorem tl_callE {S : Nat → Prop} {F : Value → World → Prop} {id : FuncId} {xs : Array Operand} {tys : Array TypeId} {d : Nat} (hf : FrD n ds a w L) [hL : AvSL S L] (hd : d < n) (he : Proofs.Enters P id)
    (h : Calls P id (xs.map a.eval) w (fun e w' => ∃ v, e = .returned v ∧ Chg S w w' ∧ F v w'))
    (k : ∀ a' v w', Chg S w w' → F v w' → FrD n ds a' w' ((d, E v) :: L) → wpListIn (FW r) 0 P ops Q rest a' w') :
    wpListIn (FW r) 0 P ops Q (⟨some d, .call ⟨.value (.func id), xs, tys⟩, ty, pos, aft, none⟩ :: rest) a w :=
  wpListIn_plain rfl fun K hK => by
    have hfv : a.eval (.func id) = .func (.func id) #[] #[] := rfl
    have hrun : (execOp a.eval ⟨some d, .call ⟨.value (.func id), xs, tys⟩, ty, pos, aft, none⟩).run P w = .ok (.enter id (xs.map a.eval)) w := by
      have := he (xs.map a.eval) w
      simp [execOp, resolve, hfv, Deferred.ofValue, invoke, this]
    refine OpR.wp (R := fun v w' => Chg S w w' ∧ F v w') ?_ ?_
    · simp only [OpR, hrun]
      exact h
    · rintro v w' ⟨h1, h3⟩
      exact hK _ _ (k _ _ _ h1 h3 ((hf.ch h1).put (d := some d) (A := E v) (Ext.rfl' _) (fun k hk => by cases hk; exact hd) rfl))
end tail
end Go.Mono
