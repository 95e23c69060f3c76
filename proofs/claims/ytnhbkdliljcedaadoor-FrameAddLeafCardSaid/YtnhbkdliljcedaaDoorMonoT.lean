/-
  The walk library: a store of a struct into an own row; append to an own slice at the end of a region that draws its order.
  No condition.
-/
import Derived.Test.YtnhbkdliljcedaaDoorMonoU
set_option linter.unusedVariables false
set_option linter.unusedSimpArgs false
set_option linter.unusedVariables false
set_option linter.unusedSimpArgs false
namespace Go.Mono
open Go Go.RowKit
section tail
variable {P : Program} {L : Env} {ty : TypeId} {pos : String} {aft : Array Edge} {r : Option Nat} {ds : List Deferred}
variable {ops : Array Oper} {rest : List Oper} {Q : Exit → Act → World → Prop} {n : Nat} {a : Act} {w : World} {x y : Operand}
/-- a store of a struct into a part of a block -/
theorem tl_stP {t bt : TypeId} {b off s : Nat} {cs new : Array Value} (ht : TI P t true s) (hf : FrD n ds a w L) [hL : AvL b L] (hx : opd L x = some (E (.pointer (some ⟨b, off, none⟩)))) (hy : opd L y = some (E (.agg new))) (h1 : new.all (·.oneCell') = true)
    (hb : Blk w b cs bt) (hn : new.size = s) (ho : off + s ≤ cs.size) (k : ∀ w', w.grownBy w' (some b) → w'.heap.size = w.heap.size → Blk w' b (cs.toList.take off ++ new.toList ++ cs.toList.drop (off + s)).toArray bt → FrD n ds a w' L → wpListIn (FW r) 0 P ops Q rest a w') :
    wpListIn (FW r) 0 P ops Q (⟨none, .store t x y, ty, pos, aft, none⟩ :: rest) a w :=
  wpListIn_plain rfl fun K hK => by
    have hxv : a.eval x = .pointer (some ⟨b, off, none⟩) := hf.opd x _ hx
    have hyv : a.eval y = .agg new := hf.opd y _ hy
    have hrun := run_storeCells_at (P := P) b off bt new.toList 0 cs w hb (by simp; omega) (fun v hv => by rw [Array.all_eq_true_iff_forall_mem] at h1; exact h1 v (by simpa using hv))
    simp only [Nat.add_zero, Array.length_toList, hn] at hrun
    have hc : (Value.agg new).cells = new := rfl
    refine OpR.wp (R := fun _ w' => w' = w.setRow b (cs.toList.take off ++ new.toList ++ cs.toList.drop (off + s)).toArray) ?_ ?_
    · simp [OpR, execOp, Instr.storeAt, Instr.sureAddr, hxv, hyv, storeVar, hc, ht.size, hn, hrun]
    · rintro _ w' rfl
      exact hK _ _ (k _ (grownBy_setRow _ _ _) (by simp) (setRow_heap _ _ _ _ _ _ hb) (hf.gr (grownBy_setRow _ _ _)))
end tail
section
variable {P : Program} {w0 : World} {L : Env} {dst : Option Tmp} {ty : TypeId} {pos : String} {aft : Array Edge} {α : Type} {e : Enc α}
/-- append to a slice whose blocks all lie behind N -/
theorem xappZ {x y : Operand} {t te : TypeId} {z0 : Value} {sz bz N : Nat} {G : Nat → Prop} {F : World → Prop} {xs ys : List α} (ht : P.underlying t = some (.slice te)) (hi : (P.info? te).map (fun i => (i.zero, i.size, i.bytes)) = some (some z0, sz, bz)) (hsz : sz = e.k) (hz0 : z0.cells.size = e.k)
    (hx : opd L x = some (OwA e te N G xs)) (hy : ∀ v ρy w, Ext w0 w → OwR e te N G w xs v → (∀ B, opd L y = some B → B.p ρy w) → (Dv (slE e) (GO G v) ys).p ρy w) (hb : (xs.length + ys.length) * bz ≤ 140737488355328) (h63 : xs.length + ys.length ≤ maxLen) (hF : ∀ w, F w) :
    XOpZ P w0 (fun b => N ≤ b) F L ⟨dst, .call ⟨.builtin .append, #[x, y], #[t, t]⟩, ty, pos, aft, none⟩ (OwA e te N G (xs ++ ys)) := by
  refine ⟨fun ρ w he hv => ?_⟩
  have ho : OwR e te N G w xs (ρ x) := hv x (by simp [Op.operands, Call.operands]) _ hx
  have hyv := hy (ρ x) (ρ y) w he ho (fun B hB => hv y (by simp [Op.operands, Call.operands]) _ hB)
  obtain ⟨v', w', h1, h2, h3, h4⟩ := run_appD (P := P) (ty := ty) ht hi hsz hz0 ho hyv h63 hb
  simp only [OpR, execOp, resolve, invoke, builtin, Sem.run_bind, Sem.run_pure, Result.andThen_ok, List.map_toArray, List.map_cons, List.map_nil, h1]
  refine ⟨⟨h3.os, h3.tape, h3.output, h3.size, fun b hb hS => h3.block b hb fun hbb => hS (ho.lt hbb.symm).1⟩, h2, hF _⟩
end
/-- append where the elements stand in their own cells alone: where the new ones come from does not matter -/
theorem run_appF {P : Program} {ty : TypeId} {α : Type} {e : Enc α} [FlE e] {G G' : Nat → Prop} {w : World} {xs ys : List α} {v : Value} {t te : TypeId} {z0 : Value} {sz bz B : Nat} (ht : P.underlying t = some (.slice te)) (hi : (P.info? te).map (fun i => (i.zero, i.size, i.bytes)) = some (some z0, sz, bz)) (hsz : sz = e.k) (hz0 : z0.cells.size = e.k)
    (ho : OwR e te B G w xs v) {u : Value} (hy : (Dv (slE e) G' ys).p u w) (h63 : (xs.length + ys.length) ≤ maxLen) (hb : (xs.length + ys.length) * bz ≤ 140737488355328) :
    ∃ v' w', (Builtin.append_ #[t, t] ty #[v, u]).run P w = .ok v' w' ∧ OwR e te B G w' (xs ++ ys) v' ∧ w.grownBy w' v.ownBlock ∧ (v'.ownBlock = v.ownBlock ∨ v'.ownBlock = some w.heap.size) := by
  obtain ⟨it, hit, hiz, hsz', hbz⟩ := info_parts hi
  subst hsz
  obtain ⟨cs, h1, h2⟩ := ho.own
  rcases Dv.sl.1 hy with ⟨rfl, rfl⟩ | ⟨ad, cap, ds', rfl, _, h3, h4, h5, h6⟩
  · refine ⟨v, w, run_append_owned_none w B t ty te it e.k ht hit v _ cs h1, by simpa using ho, ⟨rfl, rfl, rfl, Nat.le_refl _, fun _ _ _ => rfl⟩, .inl rfl⟩
  · obtain ⟨v', w', h7, h8, h9, _, h10⟩ := run_append_own_at (P := P) w B t ty te it z0 e.k bz ht hit hiz hsz' hbz hz0 e.pos v _ cs h1 ad ys.length cap ds' h5.len h6 h5.one h63 hb ho.base
    exact ⟨v', w', h7, ⟨⟨cs ++ ds', by simpa using h8, (Cells.fl h2).app (Cells.fl h5)⟩, ho.av, Nat.le_trans ho.base h9.size⟩, h9, h10⟩
/-- .. at the end of a region that draws its order -/
theorem xappF {P : Program} {w0 : World} {L : Env} {dst : Option Tmp} {ty : TypeId} {pos : String} {aft : Array Edge} {α : Type} {e : Enc α} [FlE e] {x y : Operand} {t te : TypeId} {z0 : Value} {sz bz N : Nat} {G G' : Nat → Prop} {F : World → Prop} {xs ys : List α} (ht : P.underlying t = some (.slice te)) (hi : (P.info? te).map (fun i => (i.zero, i.size, i.bytes)) = some (some z0, sz, bz)) (hsz : sz = e.k) (hz0 : z0.cells.size = e.k)
    (hx : opd L x = some (OwA e te N G xs)) (hy : Is L w0 y (Dv (slE e) G' ys)) (hb : (xs.length + ys.length) * bz ≤ 140737488355328) (h63 : xs.length + ys.length ≤ maxLen) (hF : ∀ w w', Chg (fun b => N ≤ b) w w' → F w → F w') (hF0 : ∀ w, Ext w0 w → F w) :
    XOpZ P w0 (fun b => N ≤ b) F L ⟨dst, .call ⟨.builtin .append, #[x, y], #[t, t]⟩, ty, pos, aft, none⟩ (OwA e te N G (xs ++ ys)) := by
  refine ⟨fun ρ w he hv => ?_⟩
  have ho : OwR e te N G w xs (ρ x) := hv x (by simp [Op.operands, Call.operands]) _ hx
  have hyv := hy.v he hv (by simp [Op.operands, Call.operands])
  obtain ⟨v', w', h1, h2, h3, h4⟩ := run_appF (P := P) (ty := ty) ht hi hsz hz0 ho hyv h63 hb
  simp only [OpR, execOp, resolve, invoke, builtin, Sem.run_bind, Sem.run_pure, Result.andThen_ok, List.map_toArray, List.map_cons, List.map_nil, h1]
  have hc : Chg (fun b => N ≤ b) w w' := ⟨h3.os, h3.tape, h3.output, h3.size, fun b hb hS => h3.block b hb fun hbb => hS (ho.lt hbb.symm).1⟩
  exact ⟨hc, h2, hF _ _ hc (hF0 w he)⟩
end Go.Mono
