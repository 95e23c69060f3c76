/-
  Walks and plain facts, in this order: MonoD2, MonoD3, Cmps, Cmpe, SortO, Lay, Verts, Edgs, Frame, Chkg, Tw1, Tw4, Tw6, Twa, Twb, Twc, Ring, TwG, TwK.
  No condition.
-/
import Derived.Test.YtlfbebmhghpkaaaGreatDoorHD
import Derived.Shelf.Abstract
import Derived.Tactics
import Derived.IntWalk
import Derived.Laws.Tables
import Derived.Laws.Cells
import Derived.Laws.Rows
import Derived.Laws.CopyRow
import Derived.OwnWalk
import Derived.Test.YtlfbebmhghpkaaaGreatDoorHB
import Derived.Sort.Grow
import Derived.Great.BuildSlice
import Derived.Deep.Draws
import Derived.Shelf.SlSortCmp.NoneTotal
import Derived.Test.YtlfbebmhghpkaaaGreatDoorProg
import Derived.Test.YtlfbebmhghpkaaaGreatDoorHC
import Derived.Test.YtlfbebmhghpkaaaGreatDoorHA
set_option linter.unusedVariables false
set_option linter.unusedSimpArgs false
namespace Go.MonoD
open Go Go.RowKit

variable {P : Program} {w0 : World} {L : Env} {dst : Option Tmp} {ty : TypeId} {pos : String} {aft : Array Edge} {g : Option (Nat × Bool)} {r : Option Nat} {ds : List Deferred}
theorem opc_pure {o : Oper} {A : VA} (h : ∀ ρ w, Ext w0 w → (∀ x ∈ o.op.operands, ∀ B, opd L x = some B → B.p (ρ x) w) → ∃ v, (execOp ρ o).run P w = .ok (.value v) w ∧ A.p v w) : OpC P w0 L o A := by
 refine ⟨fun ρ w he hv => ?_⟩
 obtain ⟨v, h1, h2⟩ := h ρ w he hv
 simp only [OpR, h1]
 exact ⟨Ext.rfl' _, h2⟩

theorem opE {ρ : Operand → Value} {w : World} {o : Oper} (hv : ∀ x ∈ o.op.operands, ∀ B, opd L x = some B → B.p (ρ x) w) {x : Operand} {v : Value} (hx : x ∈ o.op.operands) (h : opd L x = some (E v)) : ρ x = v := hv x hx _ h

theorem mv {x : Operand} {A : VA} (h : opd L x = some A) : OpC P w0 L ⟨dst, .move x, ty, pos, aft, g⟩ A :=
 opc_pure fun ρ w _ hv => ⟨ρ x, rfl, hv x (by simp [Op.operands]) A h⟩
theorem asg {x : Operand} {A : VA} (h : opd L x = some A) : OpC P w0 L ⟨dst, .assign x, ty, pos, aft, g⟩ A :=
 opc_pure fun ρ w _ hv => ⟨ρ x, rfl, hv x (by simp [Op.operands]) A h⟩

theorem pkT {c x y : Operand} {A : VA} (hc : opd L c = some (E (.bool true))) (hx : opd L x = some A) : OpC P w0 L ⟨dst, .pick c x y, ty, pos, aft, g⟩ A :=
 opc_pure fun ρ w _ hv => by
  have h1 := opE hv (x := c) (by simp [Op.operands]) hc
  exact ⟨ρ x, by simp [execOp, h1, asBool], hv x (by simp [Op.operands]) A hx⟩
theorem pkF {c x y : Operand} {A : VA} (hc : opd L c = some (E (.bool false))) (hy : opd L y = some A) : OpC P w0 L ⟨dst, .pick c x y, ty, pos, aft, g⟩ A :=
 opc_pure fun ρ w _ hv => by
  have h1 := opE hv (x := c) (by simp [Op.operands]) hc
  exact ⟨ρ y, by simp [execOp, h1, asBool], hv y (by simp [Op.operands]) A hy⟩

theorem notp {x : Operand} {t : TypeId} {b : Bool} (h : opd L x = some (E (.bool b))) : OpC P w0 L ⟨dst, .unOp .not t x, ty, pos, aft, g⟩ (E (.bool !b)) :=
 opc_pure fun ρ w _ hv => by
  have h1 := opE hv (x := x) (by simp [Op.operands]) h
  exact ⟨_, by simp [execOp, h1, Op.unary], rfl⟩

section num
variable {x y : Operand} {k : IntKind} {a b : Int} {t yt : TypeId}

theorem binInt {op : BinOp} {v : Value} (hop : (binOp op t (.int k a) (.int k b)) = pure v) (hx : opd L x = some (E (.int k a))) (hy : opd L y = some (E (.int k b))) :
  OpC P w0 L ⟨dst, .binOp op t x y yt, ty, pos, aft, g⟩ (E v) :=
 opc_pure fun ρ w _ hv => by
  have h1 := opE hv (x := x) (by simp [Op.operands]) hx
  have h2 := opE hv (x := y) (by simp [Op.operands]) hy
  refine ⟨v, ?_, rfl⟩
  have hg : (eqGuard op t x y (.int k a) (.int k b)).run P w = .ok () w := by
   unfold eqGuard
   split <;> rfl
  simp [execOp, h1, h2, hg, hop]

theorem add (hx : opd L x = some (E (.int .i64 a))) (hy : opd L y = some (E (.int .i64 b))) (h : -9223372036854775808 ≤ a + b ∧ a + b ≤ 9223372036854775807) :
  OpC P w0 L ⟨dst, .binOp .add t x y yt, ty, pos, aft, g⟩ (E (.int .i64 (a + b))) :=
 binInt (by simp [binOp, Op.intArith, IntWalk.i64_in _ h]) hx hy
theorem sub (hx : opd L x = some (E (.int .i64 a))) (hy : opd L y = some (E (.int .i64 b))) (h : -9223372036854775808 ≤ a - b ∧ a - b ≤ 9223372036854775807) :
  OpC P w0 L ⟨dst, .binOp .sub t x y yt, ty, pos, aft, g⟩ (E (.int .i64 (a - b))) :=
 binInt (by simp [binOp, Op.intArith, IntWalk.i64_in _ h]) hx hy
theorem mul (hx : opd L x = some (E (.int .i64 a))) (hy : opd L y = some (E (.int .i64 b))) (h : -9223372036854775808 ≤ a * b ∧ a * b ≤ 9223372036854775807) :
  OpC P w0 L ⟨dst, .binOp .mul t x y yt, ty, pos, aft, g⟩ (E (.int .i64 (a * b))) :=
 binInt (by simp [binOp, Op.intArith, IntWalk.i64_in _ h]) hx hy
theorem quo (hx : opd L x = some (E (.int .i64 a))) (hy : opd L y = some (E (.int .i64 b))) (h : 0 ≤ a ∧ a ≤ 9223372036854775807 ∧ 0 < b) :
  OpC P w0 L ⟨dst, .binOp .quo t x y yt, ty, pos, aft, g⟩ (E (.int .i64 (a / b))) := by
 refine binInt ?_ hx hy
 have h1 : a.tdiv b = a / b := Int.tdiv_eq_ediv_of_nonneg h.1
 have h2 : 0 ≤ a / b := Int.ediv_nonneg h.1 (by omega)
 have h3 : a / b ≤ a := Int.ediv_le_self b h.1
 have hb : b ≠ 0 := by omega
 simp [binOp, Op.intDiv, hb, h1, IntWalk.i64_in (a / b) (by omega)]
theorem rem (hx : opd L x = some (E (.int .i64 a))) (hy : opd L y = some (E (.int .i64 b))) (h : 0 ≤ a ∧ 0 < b) :
  OpC P w0 L ⟨dst, .binOp .rem t x y yt, ty, pos, aft, g⟩ (E (.int .i64 (a % b))) := by
 refine binInt ?_ hx hy
 have h1 : a.tmod b = a % b := Int.tmod_eq_emod_of_nonneg h.1
 have hb : b ≠ 0 := by omega
 simp [binOp, Op.intDiv, hb, h1]

theorem eql (hx : opd L x = some (E (.int k a))) (hy : opd L y = some (E (.int k b))) : OpC P w0 L ⟨dst, .binOp .eql t x y yt, ty, pos, aft, g⟩ (E (.bool (a == b))) :=
 binInt (by simp [binOp, Op.intCmp]) hx hy
theorem neq (hx : opd L x = some (E (.int k a))) (hy : opd L y = some (E (.int k b))) : OpC P w0 L ⟨dst, .binOp .neq t x y yt, ty, pos, aft, g⟩ (E (.bool (a != b))) :=
 binInt (by simp [binOp, Op.intCmp]) hx hy
theorem lss (hx : opd L x = some (E (.int k a))) (hy : opd L y = some (E (.int k b))) : OpC P w0 L ⟨dst, .binOp .lss t x y yt, ty, pos, aft, g⟩ (E (.bool (decide (a < b)))) :=
 binInt (by simp [binOp, Op.intCmp]) hx hy
theorem leq (hx : opd L x = some (E (.int k a))) (hy : opd L y = some (E (.int k b))) : OpC P w0 L ⟨dst, .binOp .leq t x y yt, ty, pos, aft, g⟩ (E (.bool (decide (a ≤ b)))) :=
 binInt (by simp [binOp, Op.intCmp]) hx hy
theorem gtr (hx : opd L x = some (E (.int k a))) (hy : opd L y = some (E (.int k b))) : OpC P w0 L ⟨dst, .binOp .gtr t x y yt, ty, pos, aft, g⟩ (E (.bool (decide (b < a)))) :=
 binInt (by simp [binOp, Op.intCmp]) hx hy
theorem geq (hx : opd L x = some (E (.int k a))) (hy : opd L y = some (E (.int k b))) : OpC P w0 L ⟨dst, .binOp .geq t x y yt, ty, pos, aft, g⟩ (E (.bool (decide (b ≤ a)))) :=
 binInt (by simp [binOp, Op.intCmp]) hx hy
end num

theorem run_equalIn_bool (d : Nat) {t : TypeId} (a b : Bool) (ht : P.underlying t = some .bool) (w : World) : (Op.equalIn (d + 1) t (.bool a) (.bool b)).run P w = .ok (a == b) w := by
 simp [Op.equalIn, run_underlying ht]
theorem run_equal_bool {t : TypeId} (a b : Bool) (ht : P.underlying t = some .bool) (w : World) : (Op.equal t (.bool a) (.bool b)).run P w = .ok (a == b) w := by
 simp [Op.equal, Op.maxDepth, run_equalIn_bool 9999 a b ht w]
theorem opc_eql {x y : Operand} {t yt : TypeId} {u v : Value} {b : Bool} (hx : opd L x = some (E u)) (hy : opd L y = some (E v)) (hn : ∀ w, (eqGuard .eql t x y u v).run P w = .ok () w)
  (hop : binOp .eql t u v = (do pure (.bool (← Op.equal t u v)))) (he : ∀ w, Ext w0 w → (Op.equal t u v).run P w = .ok b w) : OpC P w0 L ⟨dst, .binOp .eql t x y yt, ty, pos, aft, g⟩ (E (.bool b)) :=
 opc_pure fun ρ w hw hv => by
  have h1 := opE hv (x := x) (by simp [Op.operands]) hx
  have h2 := opE hv (x := y) (by simp [Op.operands]) hy
  exact ⟨_, by simp only [execOp, h1, h2, Sem.run_bind, hn w, Result.andThen_ok, hop, he w hw, Sem.run_pure], rfl⟩
theorem opc_neq {x y : Operand} {t yt : TypeId} {u v : Value} {b : Bool} (hx : opd L x = some (E u)) (hy : opd L y = some (E v)) (hn : ∀ w, (eqGuard .neq t x y u v).run P w = .ok () w)
  (hop : binOp .neq t u v = (do pure (.bool (!(← Op.equal t u v))))) (he : ∀ w, Ext w0 w → (Op.equal t u v).run P w = .ok b w) : OpC P w0 L ⟨dst, .binOp .neq t x y yt, ty, pos, aft, g⟩ (E (.bool !b)) :=
 opc_pure fun ρ w hw hv => by
  have h1 := opE hv (x := x) (by simp [Op.operands]) hx
  have h2 := opE hv (x := y) (by simp [Op.operands]) hy
  exact ⟨_, by simp only [execOp, h1, h2, Sem.run_bind, hn w, Result.andThen_ok, hop, he w hw, Sem.run_pure], rfl⟩
theorem neqB {x y : Operand} {t yt : TypeId} {a b : Bool} (ht : P.underlying t = some .bool) (hx : opd L x = some (E (.bool a))) (hy : opd L y = some (E (.bool b))) :
  OpC P w0 L ⟨dst, .binOp .neq t x y yt, ty, pos, aft, g⟩ (E (.bool (a != b))) :=
 opc_neq hx hy (fun _ => rfl) rfl fun w _ => run_equal_bool a b ht w

def Tup (As : List VA) : VA := ⟨fun v w => ∃ vs : List Value, v = .tuple vs.toArray ∧ vs.length = As.length ∧ ∀ (i : Nat) (A : VA), As[i]? = some A → A.p (vs.getD i undef) w,
 fun _ w w' e ⟨vs, h1, h2, h3⟩ => ⟨vs, h1, h2, fun i (A : VA) h => A.st _ w w' e (h3 i A h)⟩⟩

theorem ext_ {x : Operand} {As : List VA} {i : Nat} {A : VA} (hx : opd L x = some (Tup As)) (hi : As[i]? = some A) : OpC P w0 L ⟨dst, .extract x i, ty, pos, aft, g⟩ A :=
 opc_pure fun ρ w _ hv => by
  obtain ⟨vs, h1, h2, h3⟩ := hv x (by simp [Op.operands]) _ hx
  have hlt : i < vs.length := by have := (List.getElem?_eq_some_iff.1 hi).1; omega
  exact ⟨vs.getD i undef, by simp [execOp, h1, Instr.extract, hlt], h3 i A hi⟩

theorem Tup.two {A B : VA} {u v : Value} {w : World} (h1 : A.p u w) (h2 : B.p v w) : (Tup [A, B]).p (.tuple #[u, v]) w :=
 ⟨[u, v], rfl, rfl, fun i C h => by
  match i with
  | 0 => simp at h; subst h; exact h1
  | 1 => simp at h; subst h; exact h2
  | i + 2 => simp at h⟩
theorem Tup.three {A B C : VA} {u v x : Value} {w : World} (h1 : A.p u w) (h2 : B.p v w) (h3 : C.p x w) : (Tup [A, B, C]).p (.tuple #[u, v, x]) w :=
 ⟨[u, v, x], rfl, rfl, fun i D h => by
  match i with
  | 0 => simp at h; subst h; exact h1
  | 1 => simp at h; subst h; exact h2
  | 2 => simp at h; subst h; exact h3
  | i + 3 => simp at h⟩

abbrev Post (A : VA) (w : World) : Ending → World → Prop := fun e w' => ∃ v, e = .returned v ∧ Ext w w' ∧ A.p v w'

theorem opc_call {f : FuncId} {xs : Array Operand} {tys : Array TypeId} {A : VA} (hf : Proofs.Enters P f)
  (h : ∀ ρ w, Ext w0 w → (∀ x ∈ (Op.call ⟨.value (.func f), xs, tys⟩).operands, ∀ B, opd L x = some B → B.p (ρ x) w) → Calls P f (xs.map ρ) w (Post A w)) :
  OpC P w0 L ⟨dst, .call ⟨.value (.func f), xs, tys⟩, ty, pos, aft, g⟩ A := by
 refine ⟨fun ρ w he hv => ?_⟩
 have hfv : ρ (.func f) = .func (.func f) #[] #[] := hv (.func f) (by simp [Op.operands, Call.operands]) _ rfl
 have hrun : (execOp ρ ⟨dst, .call ⟨.value (.func f), xs, tys⟩, ty, pos, aft, g⟩).run P w = .ok (.enter f (xs.map ρ)) w := by
  simp [execOp, resolve, hfv, Deferred.ofValue, invoke, hf (xs.map ρ) w]
 simp only [OpR, hrun]
 exact h ρ w he hv

theorem call0 {f : FuncId} {tys : Array TypeId} {A : VA} (hf : Proofs.Enters P f) (h : ∀ w, Ext w0 w → Calls P f #[] w (Post A w)) :
  OpC P w0 L ⟨dst, .call ⟨.value (.func f), #[], tys⟩, ty, pos, aft, g⟩ A :=
 opc_call hf fun ρ w he hv => by simpa using h w he
theorem call1 {f : FuncId} {x : Operand} {tys : Array TypeId} {A B : VA} (hf : Proofs.Enters P f) (hx : opd L x = some B) (h : ∀ v w, Ext w0 w → B.p v w → Calls P f #[v] w (Post A w)) :
  OpC P w0 L ⟨dst, .call ⟨.value (.func f), #[x], tys⟩, ty, pos, aft, g⟩ A :=
 opc_call hf fun ρ w he hv => by simpa using h (ρ x) w he (hv x (by simp [Op.operands, Call.operands]) _ hx)
theorem call2 {f : FuncId} {x y : Operand} {tys : Array TypeId} {A B C : VA} (hf : Proofs.Enters P f) (hx : opd L x = some B) (hy : opd L y = some C)
  (h : ∀ v u w, Ext w0 w → B.p v w → C.p u w → Calls P f #[v, u] w (Post A w)) :
  OpC P w0 L ⟨dst, .call ⟨.value (.func f), #[x, y], tys⟩, ty, pos, aft, g⟩ A :=
 opc_call hf fun ρ w he hv => by simpa using h (ρ x) (ρ y) w he (hv x (by simp [Op.operands, Call.operands]) _ hx) (hv y (by simp [Op.operands, Call.operands]) _ hy)
theorem call3 {f : FuncId} {x y z : Operand} {tys : Array TypeId} {A B C D : VA} (hf : Proofs.Enters P f) (hx : opd L x = some B) (hy : opd L y = some C) (hz : opd L z = some D)
  (h : ∀ v u s w, Ext w0 w → B.p v w → C.p u w → D.p s w → Calls P f #[v, u, s] w (Post A w)) :
  OpC P w0 L ⟨dst, .call ⟨.value (.func f), #[x, y, z], tys⟩, ty, pos, aft, g⟩ A :=
 opc_call hf fun ρ w he hv => by
  simpa using h (ρ x) (ρ y) (ρ z) w he (hv x (by simp [Op.operands, Call.operands]) _ hx) (hv y (by simp [Op.operands, Call.operands]) _ hy) (hv z (by simp [Op.operands, Call.operands]) _ hz)

section guards
variable {ops : Array Oper} {rest : List Oper} {K : Env → Prop} {A : VA} {op : Op} {dd : Nat}
theorem st (h : OpC P w0 L ⟨some dd, op, ty, pos, aft, none⟩ A) (k : RegM P ops w0 rest K ((dd, A) :: L)) : RegM P ops w0 (⟨some dd, op, ty, pos, aft, none⟩ :: rest) K L :=
 ⟨A, fun a w he hv _ => by simp only [Region.wanted, if_true]; exact h.out _ w he hv, k⟩
theorem yielded_of {a : Act} {d : Nat} {b : Bool} {i : Nat} (hd : (ops[i]?).bind (·.dst) = some d) (h : a.eval (.tmp d) = .bool b) : yielded ops a.tmps i = some b := by
 unfold yielded
 rw [hd]
 simp only [Act.eval] at h
 have : a.tmps[d]? = some (.bool b) := by
  cases hh : a.tmps[d]? with
  | none => simp [hh, undef] at h
  | some v => simpa [hh] using h
 simp [this]
theorem sy {i d : Nat} {want : Bool} (hd : (ops[i]?).bind (·.dst) = some d) (hl : look L d = some (E (.bool want)))
  (h : OpC P w0 L ⟨some dd, op, ty, pos, aft, some (i, want)⟩ A) (k : RegM P ops w0 rest K ((dd, A) :: L)) : RegM P ops w0 (⟨some dd, op, ty, pos, aft, some (i, want)⟩ :: rest) K L :=
 ⟨A, fun a w he hv hgd => by
  have h1 : a.eval (.tmp d) = .bool want := hgd d _ (by simp [gdst, hd]) hl
  have h2 := yielded_of (ops := ops) hd h1
  simp only [Region.wanted, h2, beq_self_eq_true, if_true]
  exact h.out _ w he hv, k⟩
theorem sn {i d : Nat} {want b : Bool} (hd : (ops[i]?).bind (·.dst) = some d) (hl : look L d = some (E (.bool b))) (hb : b = !want)
  (k : RegM P ops w0 rest K ((dd, E undef) :: L)) : RegM P ops w0 (⟨some dd, op, ty, pos, aft, some (i, want)⟩ :: rest) K L :=
 ⟨E undef, fun a w he hv hgd => by
  have h1 : a.eval (.tmp d) = .bool b := hgd d _ (by simp [gdst, hd]) hl
  have h2 := yielded_of (ops := ops) hd h1
  have h3 : (some b == some want) = false := by subst hb; cases want <;> rfl
  simp only [Region.wanted, h2, h3]
  rfl, k⟩
theorem su {i d : Nat} {want : Bool} (hd : (ops[i]?).bind (·.dst) = some d) (hl : look L d = some (E undef))
  (k : RegM P ops w0 rest K ((dd, E undef) :: L)) : RegM P ops w0 (⟨some dd, op, ty, pos, aft, some (i, want)⟩ :: rest) K L :=
 ⟨E undef, fun a w he hv hgd => by
  have h1 : a.eval (.tmp d) = undef := hgd d _ (by simp [gdst, hd]) hl
  have h2 : yielded ops a.tmps i = none := by
   unfold yielded
   rw [hd]
   simp only [Act.eval] at h1
   cases hh : a.tmps[d]? with
   | none => simp [hh]
   | some v => simp [hh] at h1; subst h1; simp [hh, undef]
  simp only [Region.wanted, h2]
  rfl, k⟩
theorem en (h : K L) : RegM P ops w0 [] K L := h
end guards

section tail
variable {ops : Array Oper} {rest : List Oper} {Q : Exit → Act → World → Prop} {n : Nat} {a : Act} {w : World}

theorem tl_nil (h : Q .normal a w) : wpListIn (FW r) 0 P ops Q [] a w := h
theorem tl_op {op : Op} {d : Nat} {A : VA} (hf : FrD n ds a w L) (hd : d < n) (h : OpC P w L ⟨some d, op, ty, pos, aft, none⟩ A)
  (k : ∀ a' w', Ext w w' → FrD n ds a' w' ((d, A) :: L) → wpListIn (FW r) 0 P ops Q rest a' w') : wpListIn (FW r) 0 P ops Q (⟨some d, op, ty, pos, aft, none⟩ :: rest) a w :=
 wpListIn_plain rfl fun K hK => (h.out a.eval w (Ext.rfl' _) (fun x _ B hB => hf.opd x B hB)).wp fun v w' hv => hK _ _ (k _ _ hv.1 (hf.put (d := some d) hv.1 (fun k hk => by cases hk; exact hd) hv.2))
theorem tl_as {x : Operand} {A : VA} {d : Nat} (hf : FrD n ds a w L) (h : opd L x = some A) (hd : d < n) (k : ∀ a', FrD n ds a' w ((d, A) :: L) → wpListIn (FW r) 0 P ops Q rest a' w) :
  wpListIn (FW r) 0 P ops Q (⟨some d, .assign x, ty, pos, aft, none⟩ :: rest) a w :=
 wpListIn_plain rfl fun K hK => by
  refine OpR.wp (R := fun v w' => w' = w ∧ v = a.eval x) (by simp [OpR, execOp]) ?_
  rintro v w' ⟨rfl, rfl⟩
  exact hK _ _ (k _ (hf.put (d := some d) (Ext.rfl' _) (fun k hk => by cases hk; exact hd) (hf.opd x A h)))
end tail

def keep (ks : List Nat) (L : Env) : Env := ks.filterMap fun k => (look L k).map fun A => (k, A)
theorem look_keep (L : Env) : ∀ (ks : List Nat) t A, look (keep ks L) t = some A → look L t = some A
 | [], t, A, h => by simp [keep, look] at h
 | k :: ks, t, A, h => by
  simp only [keep, List.filterMap_cons] at h
  cases hk : look L k with
  | none => rw [hk] at h; exact look_keep L ks t A h
  | some B =>
   rw [hk] at h
   simp only [Option.map_some] at h
   by_cases hkt : k = t
   ·subst hkt
    rw [look_cons_same] at h
    rw [hk]; exact h
   ·rw [look_cons_ne _ _ hkt] at h
    exact look_keep L ks t A h
theorem FrD.keep {n : Nat} {a : Act} {w : World} (h : FrD n ds a w L) (ks : List Nat) : FrD n ds a w (MonoD.keep ks L) :=
 ⟨h.size, h.defers, fun t A ht => h.val t A (look_keep L ks t A ht)⟩
theorem FrD.kp {n : Nat} {a : Act} {w : World} (h : FrD n ds a w L) (ks : List Nat) {L' : Env} (hL : MonoD.keep ks L = L' := by dsimp only [keep, List.filterMap, look, Nat.beq, Option.map] <;> rfl) : FrD n ds a w L' := hL ▸ h.keep ks
theorem FrD.cons {n : Nat} {a : Act} {w : World} {k : Nat} {A : VA} (hv : A.p (a.eval (.tmp k)) w) (h : FrD n ds a w L) : FrD n ds a w ((k, A) :: L) :=
 ⟨h.size, h.defers, fun t B ht => by
  by_cases hkt : k = t
  ·subst hkt; rw [look_cons_same] at ht; cases ht; exact hv
  ·rw [look_cons_ne _ _ hkt] at ht; exact h.val t B ht⟩
theorem FrD.nil {n : Nat} {a : Act} {w : World} (h : FrD n ds a w L) : FrD n ds a w [] := ⟨h.size, h.defers, fun t A ht => by simp [look] at ht⟩
theorem FrD.weak {n : Nat} {a : Act} {w : World} {k : Nat} {A B : VA} (h : FrD n ds a w ((k, A) :: L)) (hAB : ∀ v, A.p v w → B.p v w) : FrD n ds a w ((k, B) :: L) :=
 ⟨h.size, h.defers, fun t C ht => by
  by_cases hkt : k = t
  ·subst hkt; rw [look_cons_same] at ht; cases ht; exact hAB _ (h.val k A (look_cons_same _ _ _))
  ·rw [look_cons_ne _ _ hkt] at ht; exact h.val t C (by rw [look_cons_ne _ _ hkt]; exact ht)⟩

theorem least {p : Nat → Prop} (h : ∃ n, p n) : ∃ n, p n ∧ ∀ m, m < n → ¬p m := by
 obtain ⟨n, hn⟩ := h
 induction n using Nat.strongRecOn with
 | _ n ih =>
  by_cases hm : ∃ m, m < n ∧ p m
  ·obtain ⟨m, hm, hp⟩ := hm
   exact ih m hm hp
  ·exact ⟨n, hn, fun m hlt hp => hm ⟨m, hlt, hp⟩⟩
open Classical in
theorem loopN {ro : Option Nat} {c : Code} {Q : Exit → Act → World → Prop} {a : Act} {w : World} (J : Nat → Act → World → Prop) (k : Nat) (h0 : J k a w)
  (round : ∀ r a w, J r a w → c.wpIn (FW ro) 0 P (Exit.then (fun a' w' => ∃ m, m < r ∧ J m a' w') Q) a w) : (Code.loop c).wpIn (FW ro) 0 P Q a w := by
 refine wpIn_loop (fun a w => ∃ r, J r a w) (fun a w => if h : ∃ r, J r a w then Classical.choose (least h) else 0) ⟨k, h0⟩ fun a w hJ => ?_
 have hs := Classical.choose_spec (least hJ)
 refine wpIn_mono (round _ a w hs.1) fun e a' w' hq => ?_
 cases e with
 | normal =>
  obtain ⟨m, hm, hJm⟩ := hq
  refine ⟨⟨m, hJm⟩, ?_⟩
  have h' : ∃ r, J r a' w' := ⟨m, hJm⟩
  have hs' := Classical.choose_spec (least h')
  simp only [dif_pos h', dif_pos hJ]
  rcases Nat.lt_or_ge m (Classical.choose (least h')) with hlt | hge
  ·exact absurd hJm (hs'.2 m hlt)
  ·omega
 | _ => exact hq
theorem blk {c : Code} {id : Nat} {Q : Exit → Act → World → Prop} {a : Act} {w : World} (h : c.wpIn (FW r) 0 P (Exit.inBlock id Q) a w) : (Code.block id c).wpIn (FW r) 0 P Q a w := wpIn_block h

def params : Nat → List VA → Env
 | _, [] => []
 | k, A :: As => (k, A) :: params (k + 1) As
theorem look_params : ∀ (As : List VA) (k t : Nat) (A : VA), look (params k As) t = some A → k ≤ t ∧ As[t - k]? = some A
 | [], k, t, A, h => by simp [params, look] at h
 | B :: As, k, t, A, h => by
  by_cases hkt : k = t
  ·subst hkt
   rw [params, look_cons_same] at h
   simp [h]
  ·rw [params, look_cons_ne _ _ hkt] at h
   obtain ⟨h1, h2⟩ := look_params As (k + 1) t A h
   exact ⟨by omega, by rw [show t - k = (t - (k + 1)) + 1 by omega]; simpa using h2⟩
theorem enter {f : FuncId} {fn : Func} {c : Code} {n : Nat} {args : List Value} {As : List VA} {w : World} {R : Ending → World → Prop} (hf : P.funcs[f]? = some fn) (hb : fn.body = some c) (hn : fn.ntmps = n) (hl : args.length ≤ n)
  (hA : ∀ (i : Nat) (A : VA), As[i]? = some A → A.p (args.getD i undef) w) (h : ∀ a, Fr n a w (params 0 As) → c.wpIn (FW none) 0 P (bodyPost P fn R) a w) (hlen : As.length ≤ args.length) : Calls P f args.toArray w R := by
 refine calls_of_wp hf hb ((wpIn_wide (n := 0)).1 (h _ ⟨?_, rfl, fun t A ht => ?_⟩))
 ·simp [hn]; omega
 ·obtain ⟨_, h2⟩ := look_params As 0 t A ht
  rw [Nat.sub_zero] at h2
  have hlt : t < As.length := (List.getElem?_eq_some_iff.1 h2).1
  have := hA t A h2
  have e : (args.toArray ++ Array.replicate (fn.ntmps - args.toArray.size) undef).getD t undef = args.getD t undef := by
   have : t < args.length := by omega
   simp [Array.getElem?_append, this]
  simp only [Act.eval, e]
  exact this
theorem ret1 {fn : Func} {t : Nat} {R : Ending → World → Prop} {n : Nat} {a : Act} {w : World} {A : VA} (hr : fn.results = #[.tmp t]) (hf : Fr n a w L) (h : look L t = some A) (hR : ∀ v, A.p v w → R (.returned v) w) :
  bodyPost P fn R .ret a w :=
 ⟨hf.defers, _, results_tmp hr _ _ _, hR _ (hf.val t A h)⟩
theorem ret2 {fn : Func} {t u : Nat} {R : Ending → World → Prop} {n : Nat} {a : Act} {w : World} {A B : VA} (hr : fn.results = #[.tmp t, .tmp u]) (hf : Fr n a w L) (h : look L t = some A) (h' : look L u = some B)
  (hR : ∀ v x, A.p v w → B.p x w → R (.returned (.tuple #[v, x])) w) : bodyPost P fn R .ret a w :=
 ⟨hf.defers, _, results_tmp2 hr _ _ _, hR _ _ (hf.val t A h) (hf.val u B h')⟩
theorem ret0 {fn : Func} {R : Ending → World → Prop} {n : Nat} {a : Act} {w : World} (hr : fn.results = #[]) (hf : Fr n a w L) (hR : R (.returned (.tuple #[])) w) : bodyPost P fn R .ret a w :=
 ⟨hf.defers, _, results_none hr _ _ _, hR⟩
theorem ret0n {fn : Func} {R : Ending → World → Prop} {n : Nat} {a : Act} {w : World} (hr : fn.results = #[]) (hf : Fr n a w L) (hR : R (.returned (.tuple #[])) w) : bodyPost P fn R .normal a w :=
 ⟨hf.defers, _, results_none hr _ _ _, hR⟩
theorem ifc {x : Operand} {thn els : Code} {Q : Exit → Act → World → Prop} {n : Nat} {a : Act} {w : World} {b : Bool} (hf : FrD n ds a w L) (h : opd L x = some (E (.bool b)))
  (ht : b = true → thn.wpIn (FW r) 0 P Q a w) (he : b = false → els.wpIn (FW r) 0 P Q a w) : (Code.cond x thn els).wpIn (FW r) 0 P Q a w :=
 wpIn_cond_split (hf.opd x _ h) ht he
theorem seq {x y : Code} {Q : Exit → Act → World → Prop} {a : Act} {w : World} (h : x.wpIn (FW r) 0 P (Exit.then (y.wpIn (FW r) 0 P Q) Q) a w) : (Code.seq x y).wpIn (FW r) 0 P Q a w := wpIn_seq h
theorem wskip {Q : Exit → Act → World → Prop} {a : Act} {w : World} (h : Q .normal a w) : Code.skip.wpIn (FW r) 0 P Q a w := wpIn_skip h
theorem wexit {id : Nat} {Q : Exit → Act → World → Prop} {a : Act} {w : World} (h : Q (.exit id) a w) : (Code.exit id).wpIn (FW r) 0 P Q a w := wpIn_exit h
theorem wret {Q : Exit → Act → World → Prop} {a : Act} {w : World} (h : Q .ret a w) : Code.ret.wpIn (FW r) 0 P Q a w := wpIn_ret h
end Go.MonoD

namespace Go.MonoD
open Go Go.RowKit

variable {P : Program} {w0 : World} {L : Env} {dst : Option Tmp} {ty : TypeId} {pos : String} {aft : Array Edge} {g : Option (Nat × Bool)} {r : Option Nat} {ds : List Deferred}
def Blk (w : World) (b : Nat) (cs : Array Value) (t : TypeId) : Prop := w.heap[b]? = some (.cells cs t (0, 0))
theorem Blk.lt {w : World} {b : Nat} {cs : Array Value} {t : TypeId} (h : Blk w b cs t) : b < w.heap.size := (Array.getElem?_eq_some_iff.1 h).1
theorem Blk.ext {w w' : World} {b : Nat} {cs : Array Value} {t : TypeId} (h : Blk w b cs t) (e : Ext w w') : Blk w' b cs t := (e.block b h.lt).trans h
theorem Blk.gr {w w' : World} {b b' : Nat} {cs : Array Value} {t : TypeId} (h : Blk w b cs t) (e : w.grownBy w' (some b')) (hne : b ≠ b') : Blk w' b cs t :=
 (e.block b h.lt (by simpa using hne)).trans h
theorem Blk.cell {w : World} {b : Nat} {cs : Array Value} {t : TypeId} (h : Blk w b cs t) (i : Nat) : w.cell? ⟨b, i, none⟩ = cs[i]? := by
 unfold Blk at h
 simp [World.cell?, h]
structure TI (P : Program) (t : TypeId) (agg : Bool) (n : Nat) : Prop where
 u : ∃ d, P.underlying t = some d ∧ (match d with | .struct _ | .array _ _ => true | _ => false) = agg
 s : (P.info? t).map (·.size) = some n
def tiB (P : Program) (t : TypeId) (agg : Bool) (n : Nat) : Bool :=
 (match P.underlying t with | some d => (match d with | .struct _ | .array _ _ => true | _ => false) == agg | none => false) && (match P.info? t with | some i => Nat.beq i.size n | none => false)
theorem ti {t : TypeId} {agg : Bool} {n : Nat} (h : tiB P t agg n = true) : TI P t agg n := by
 simp only [tiB, Bool.and_eq_true] at h
 constructor
 ·cases hu : P.underlying t with
  | none => simp [hu] at h
  | some d => exact ⟨d, rfl, by simpa [hu] using h.1⟩
 ·cases hi : P.info? t with
  | none => simp [hi] at h
  | some i => simpa [hi] using h.2

theorem TI.size {t : TypeId} {agg : Bool} {n : Nat} (h : TI P t agg n) (w : World) : (sizeOf t).run P w = .ok n w := by
 have := h.s
 cases hi : P.info? t with
 | none => simp [hi] at this
 | some i => simp [hi] at this; simp [sizeOf, typeInfo, hi, this]
theorem TI.agg {t : TypeId} {agg : Bool} {n : Nat} (h : TI P t agg n) (w : World) : (isAgg t).run P w = .ok agg w := by
 obtain ⟨d, h1, h2⟩ := h.u
 cases d <;> simp_all [isAgg, underlying]

theorem loadVar1 {t : TypeId} (h : TI P t false 1) {w : World} {a : Addr} {v : Value} (hv : w.cell? a = some v) : (loadVar t a).run P w = .ok v w := by
 simp [loadVar, h.agg w, hv]
theorem loadVarA {t : TypeId} {n : Nat} (h : TI P t true n) {w : World} {a : Addr} {cs : List Value} (hl : cs.length = n) (hv : ∀ j v, cs[j]? = some v → w.cell? (a.add j) = some v) :
  (loadVar t a).run P w = .ok (.agg cs.toArray) w := by
 have := run_loadCells_list (P := P) w a cs hv
 rw [hl] at this
 simp [loadVar, h.agg w, h.size w, this]

section ops
variable {x y : Operand} {b off : Nat} {cs : Array Value} {t : TypeId} {v : Value}

theorem ldW {n : Nat} (ht : TI P t true n) (hx : opd L x = some (E (.pointer (some ⟨b, 0, none⟩)))) {bt : TypeId} (hb : Blk w0 b cs bt) (hn : cs.size = n) : OpC P w0 L ⟨dst, .load t x, ty, pos, aft, g⟩ (E (.agg cs)) :=
 opc_pure fun ρ w he hv => by
  have h1 := opE hv (x := x) (by simp [Op.operands]) hx
  refine ⟨_, ?_, rfl⟩
  have := loadVarA ht (w := w) (a := ⟨b, 0, none⟩) (cs := cs.toList) (by simpa using hn) (fun j v hj => by
   rw [Addr.add_lit, Nat.zero_add, (hb.ext he).cell j]; simpa using hj)
  simp [execOp, h1, Instr.loadAt, Instr.sureAddr, this]
theorem ld1 (ht : TI P t false 1) (hx : opd L x = some (E (.pointer (some ⟨b, off, none⟩)))) {bt : TypeId} (hb : Blk w0 b cs bt) (hc : cs[off]? = some v) : OpC P w0 L ⟨dst, .load t x, ty, pos, aft, g⟩ (E v) :=
 opc_pure fun ρ w he hv => by
  have h1 := opE hv (x := x) (by simp [Op.operands]) hx
  refine ⟨_, ?_, rfl⟩
  have := loadVar1 ht (w := w) (a := ⟨b, off, none⟩) (v := v) (by rw [(hb.ext he).cell off]; exact hc)
  simp [execOp, h1, Instr.loadAt, Instr.sureAddr, this]
theorem ldP {n : Nat} (ht : TI P t true n) (hx : opd L x = some (E (.pointer (some ⟨b, off, none⟩)))) {bt : TypeId} (hb : Blk w0 b cs bt) (hn : off + n ≤ cs.size) :
  OpC P w0 L ⟨dst, .load t x, ty, pos, aft, g⟩ (E (.agg (cs.extract off (off + n)))) :=
 opc_pure fun ρ w he hv => by
  have h1 := opE hv (x := x) (by simp [Op.operands]) hx
  refine ⟨_, ?_, rfl⟩
  have hx' : ((cs.toList.drop off).take n).toArray = cs.extract off (off + n) := by
   apply Array.toList_inj.1
   simp [List.take_drop]
  have := loadVarA ht (w := w) (a := ⟨b, off, none⟩) (cs := (cs.toList.drop off).take n) (by simp; omega) (fun j v hj => by
   rw [Addr.add_lit, (hb.ext he).cell (off + j)]
   rw [List.getElem?_take] at hj
   split at hj
   ·simpa using hj
   ·cases hj)
  rw [hx'] at this
  simp [execOp, h1, Instr.loadAt, Instr.sureAddr, this]
theorem OpC.as {o : Oper} {A : VA} (h : OpC P w0 L o (E v)) (hA : A.p v w0) : OpC P w0 L o A := by
 refine ⟨fun ρ w he hv => ?_⟩
 refine (h.out ρ w he hv).mono ?_
 rintro u w' ⟨h1, rfl⟩
 exact ⟨h1, A.st _ _ _ (Ext.tr he h1) hA⟩
theorem OpC.eq {o : Oper} {u : Value} (h : OpC P w0 L o (E v)) (hA : v = u) : OpC P w0 L o (E u) := hA ▸ h

theorem idxA {n e s : Nat} {k : IntKind} {i : Int} (ht : P.underlying t = some (.array n e)) (hs : ∃ ag, TI P e ag s) (hx : opd L x = some (E (.pointer (some ⟨b, off, none⟩)))) (hy : opd L y = some (E (.int k i))) (hi : 0 ≤ i ∧ i < (n : Int)) :
  OpC P w0 L ⟨dst, .indexAddr t x y, ty, pos, aft, g⟩ (E (.pointer (some ⟨b, off + i.toNat * s, none⟩))) :=
 opc_pure fun ρ w _ hv => by
  have h1 := opE hv (x := x) (by simp [Op.operands]) hx
  have h2 := opE hv (x := y) (by simp [Op.operands]) hy
  obtain ⟨ag, hs⟩ := hs
  refine ⟨_, ?_, rfl⟩
  simp [execOp, h1, h2, Instr.indexAt, Instr.sureAddr, asIntOf, run_underlying ht, hi, hs.size, Addr.add_lit]
theorem idxV {n e : Nat} {k : IntKind} {i : Int} (ht : P.underlying t = some (.array n e)) (hs : TI P e false 1) (hx : opd L x = some (E (.agg cs))) (hy : opd L y = some (E (.int k i))) (hi : 0 ≤ i ∧ i < (n : Int)) (hc : cs[i.toNat]? = some v) :
  OpC P w0 L ⟨dst, .index t x y, ty, pos, aft, g⟩ (E v) :=
 opc_pure fun ρ w _ hv => by
  have h1 := opE hv (x := x) (by simp [Op.operands]) hx
  have h2 := opE hv (x := y) (by simp [Op.operands]) hy
  refine ⟨_, ?_, rfl⟩
  simp [execOp, h1, h2, Instr.index, asIntOf, run_underlying ht, hi, hs.size, part, hs.agg, hc]
theorem fldA {fs : Array Field} {f : Nat} {fl : Field} {s : Nat} {ag : Bool} (ht : P.underlying t = some (.struct fs)) (hf : fs[f]? = some fl) (hs : TI P fl.type ag s) (h0 : 0 < s) (hx : opd L x = some (E (.pointer (some ⟨b, off, none⟩)))) :
  OpC P w0 L ⟨dst, .fieldAddr t x f, ty, pos, aft, g⟩ (E (.pointer (some ⟨b, off + fl.offset, none⟩))) :=
 opc_pure fun ρ w _ hv => by
  have h1 := opE hv (x := x) (by simp [Op.operands]) hx
  have hne : s ≠ 0 := by omega
  refine ⟨_, ?_, rfl⟩
  simp [execOp, h1, Instr.fieldAt, Instr.sureAddr, run_underlying ht, hf, fieldPlace, hs.size, hne, Addr.add_lit]
end ops

class AvC (b : Nat) (A : VA) : Prop where
 av : ∀ v w w', w.grownBy w' (some b) → A.p v w → A.p v w'
instance (b : Nat) (v : Value) : AvC b (E v) := ⟨fun _ _ _ _ h => h⟩
instance (b : Nat) : AvC b Any := ⟨fun _ _ _ _ h => h⟩
class AvL (b : Nat) (L : Env) : Prop where
 av : ∀ t A, look L t = some A → ∀ v w w', w.grownBy w' (some b) → A.p v w → A.p v w'
instance (b : Nat) : AvL b [] := ⟨fun t A h => by simp [look] at h⟩
instance (b k : Nat) (A : VA) (L : Env) [h : AvC b A] [hl : AvL b L] : AvL b ((k, A) :: L) := ⟨fun t B ht => by
 by_cases hkt : k = t
 ·subst hkt; rw [look_cons_same] at ht; cases ht; exact h.av
 ·rw [look_cons_ne _ _ hkt] at ht; exact hl.av t B ht⟩
theorem FrD.gr {n : Nat} {a : Act} {w w' : World} {b : Nat} [h : AvL b L] (hf : FrD n ds a w L) (hg : w.grownBy w' (some b)) : FrD n ds a w' L :=
 ⟨hf.size, hf.defers, fun t A ht => h.av t A ht _ _ _ hg (hf.val t A ht)⟩
class PureC (A : VA) : Prop where
 pu : ∀ v w w', A.p v w → A.p v w'
instance (v : Value) : PureC (E v) := ⟨fun _ _ _ h => h⟩
instance : PureC Any := ⟨fun _ _ _ h => h⟩
class PureL (L : Env) : Prop where
 pu : ∀ t A, look L t = some A → ∀ v w w', A.p v w → A.p v w'
instance : PureL [] := ⟨fun t A h => by simp [look] at h⟩
instance (k : Nat) (A : VA) (L : Env) [h : PureC A] [hl : PureL L] : PureL ((k, A) :: L) := ⟨fun t B ht => by
 by_cases hkt : k = t
 ·subst hkt; rw [look_cons_same] at ht; cases ht; exact h.pu
 ·rw [look_cons_ne _ _ hkt] at ht; exact hl.pu t B ht⟩
theorem FrD.pure {n : Nat} {a : Act} {w : World} [h : PureL L] (hf : FrD n ds a w L) (w' : World) : FrD n ds a w' L :=
 ⟨hf.size, hf.defers, fun t A ht => h.pu t A ht _ _ _ (hf.val t A ht)⟩

theorem ext_alloc (w : World) (o : Obj) : Ext w (w.alloc o) := ⟨(Below.refl _ w).alloc (Nat.le_refl _) o, Nat.le_refl _⟩
theorem blk_alloc (w : World) (cs : Array Value) (t : TypeId) : Blk (w.alloc (.cells cs t)) w.heap.size cs t := by
 show (w.heap.push _)[w.heap.size]? = _
 simp
theorem run_newVar (t : TypeId) (v : Value) (w : World) : (newVar t v).run P w = .ok ⟨w.heap.size, 0, none⟩ (w.alloc (.cells v.cells t)) := by
 simp [newVar, newRow, newObj, Sem.run]
theorem grownBy_setRow (w : World) (b : Nat) (cs : Array Value) : w.grownBy (w.setRow b cs) (some b) :=
 ⟨rfl, rfl, rfl, by simp, fun k _ hk => setRow_other w b k cs (by simpa using hk)⟩

section tail
variable {ops : Array Oper} {rest : List Oper} {Q : Exit → Act → World → Prop} {n : Nat} {a : Act} {w : World} {x y : Operand}

theorem tl_box {e : TypeId} {A : VA} {d : Nat} (hf : FrD n ds a w L) (hx : opd L x = some A) (hd : d < n)
  (k : ∀ a' b w' v, A.p v w → Ext w w' → b = w.heap.size → w'.heap.size = b + 1 → Blk w' b v.cells e → FrD n ds a' w' ((d, E (.pointer (some ⟨b, 0, none⟩))) :: L) → wpListIn (FW r) 0 P ops Q rest a' w') :
  wpListIn (FW r) 0 P ops Q (⟨some d, .box e x, ty, pos, aft, none⟩ :: rest) a w :=
 wpListIn_plain rfl fun K hK => by
  refine OpR.wp (R := fun v w' => v = .pointer (some ⟨w.heap.size, 0, none⟩) ∧ w' = w.alloc (.cells (a.eval x).cells e)) ?_ ?_
  ·simp [OpR, execOp, Instr.box, run_newVar]
  ·rintro v w' ⟨rfl, rfl⟩
   exact hK _ _ (k _ _ _ _ (hf.opd x A hx) (ext_alloc _ _) rfl (by simp) (blk_alloc _ _ _) (hf.put (d := some d) (ext_alloc _ _) (fun k hk => by cases hk; exact hd) rfl))
end tail
end Go.MonoD

namespace Go.MonoD
open Go Go.Proofs Go.RowKit
abbrev I (n : Int) : Value := .int .i64 n
theorem Mix.mix : Tryz.prog.follows .mixedOrders = true := Go.Mono.Mix.mix
theorem T3 : TI Tryz.prog 3 false 1 := ti (by decide +kernel)
theorem T54 : TI Tryz.prog 54 true 3 := ti (by decide +kernel)
theorem T56 : TI Tryz.prog 56 true 4 := ti (by decide +kernel)
def cmpI (x y : Int) : Int := if x < y then -1 else if y < x then 1 else 0
theorem arg1 {A : VA} {v : Value} {w : World} (h : A.p v w) : ∀ (i : Nat) (B : VA), [A][i]? = some B → B.p ([v].getD i undef) w := fun i B hB => by
 match i with
 | 0 => simp at hB; subst hB; exact h
 | i + 1 => simp at hB
theorem arg2 {A B : VA} {u v : Value} {w : World} (h : A.p u w) (h' : B.p v w) : ∀ (i : Nat) (C : VA), [A, B][i]? = some C → C.p ([u, v].getD i undef) w := fun i C hC => by
 match i with
 | 0 => simp at hC; subst hC; exact h
 | 1 => simp at hC; subst hC; exact h'
 | i + 2 => simp at hC
theorem nan_spec (x : Int) (W : World) : Calls Tryz.prog 109 #[I x] W (Post (E (.bool false)) W) := by
 refine enter (args := [I x]) (As := [E (I x)]) Tryz.func109 rfl Tryz.ntmps109 (Nat.le_of_ble_eq_true rfl) ?_ (fun a hf => ?_) (Nat.le_of_ble_eq_true rfl)
 rotate_left
 dsimp only [params, Nat.reduceAdd] at hf
 rotate_right
 ·exact arg1 rfl
 have e := Ext.rfl' W
 repeat refine seq ?_
 refine regn0 ?_
 refine tl_as hf rfl (by decide) fun a hf => ?_
 refine tl_nil ?_
 repeat refine seq ?_
 refine regn 3 hf (by decide +kernel) ?_
 refine st (mv rfl) ?_
 refine st (mv rfl) ?_
 refine st ((neq rfl rfl).eq (congrArg Value.bool ((show (x != x) = false by simp)))) ?_
 refine en fun a w e' hf => ?_
 replace e := e.tr e'
 refine tl_as hf rfl (by decide) fun a hf => ?_
 refine tl_nil ?_
 refine wret ?_
 try simp only [Exit.then, Exit.inBlock]
 refine ret1 rfl hf rfl ?_
 rintro _ rfl
 exact ⟨_, rfl, e, rfl⟩
theorem nan_call (x : Int) (v : Value) (w : World) (h : (E (I x)).p v w) : Calls Tryz.prog 109 #[v] w (Post (E (.bool false)) w) := by cases h; exact nan_spec x w
theorem cmpD_spec (x y : Int) (W : World) : Calls Tryz.prog 94 #[I x, I y] W (Post (E (I (cmpI x y))) W) := by
 refine enter (args := [I x, I y]) (As := [E (I x), E (I y)]) Tryz.func94 rfl Tryz.ntmps94 (Nat.le_of_ble_eq_true rfl) ?_ (fun a hf => ?_) (Nat.le_of_ble_eq_true rfl)
 rotate_left
 dsimp only [params, Nat.reduceAdd] at hf
 rotate_right
 ·exact arg2 rfl rfl
 have e := Ext.rfl' W
 repeat refine seq ?_
 refine regn0 ?_
 refine tl_as hf rfl (by decide) fun a hf => ?_
 refine tl_nil ?_
 repeat refine seq ?_
 refine regn 2 hf (by decide +kernel) ?_
 refine st (mv rfl) ?_
 refine st (call1 Mono.En109 rfl (fun v w he h => nan_call x v w h)) ?_
 refine en fun a w e' hf => ?_
 replace e := e.tr e'
 refine tl_as hf rfl (by decide) fun a hf => ?_
 refine tl_nil ?_
 repeat refine seq ?_
 refine regn 2 hf (by decide +kernel) ?_
 refine st (mv rfl) ?_
 refine st (call1 Mono.En109 rfl (fun v w he h => nan_call y v w h)) ?_
 refine en fun a w e' hf => ?_
 replace e := e.tr e'
 refine tl_as hf rfl (by decide) fun a hf => ?_
 refine tl_nil ?_
 repeat refine seq ?_
 refine regn 1 hf (by decide +kernel) ?_
 refine st (mv rfl) ?_
 refine en fun a w e' hf => ?_
 replace e := e.tr e'
 refine tl_nil ?_
 repeat refine seq ?_
 refine ifc hf rfl (fun h => by cases h) (fun _ => ?_)
 refine wskip ?_
 try simp only [Exit.then, Exit.inBlock, ↓reduceIte]
 repeat refine seq ?_
 refine regn 1 hf (by decide +kernel) ?_
 refine st (mv rfl) ?_
 refine en fun a w e' hf => ?_
 replace e := e.tr e'
 refine tl_nil ?_
 repeat refine seq ?_
 refine ifc hf rfl (fun h => by cases h) (fun _ => ?_)
 refine wskip ?_
 try simp only [Exit.then, Exit.inBlock, ↓reduceIte]
 repeat refine seq ?_
 refine regn 3 hf (by decide +kernel) ?_
 refine st (mv rfl) ?_
 refine st (mv rfl) ?_
 refine st (lss rfl rfl) ?_
 refine en fun a w e' hf => ?_
 replace e := e.tr e'
 refine tl_nil ?_
 repeat refine seq ?_
 refine ifc hf rfl (fun hb => ?_) (fun hb => ?_)
 ·repeat refine seq ?_
  refine regn0 ?_
  refine tl_as hf rfl (by decide) fun a hf => ?_
  refine tl_nil ?_
  refine wret ?_
  try simp only [Exit.then, Exit.inBlock]
  refine ret1 rfl hf rfl ?_
  rintro _ rfl
  exact ⟨_, rfl, e, congrArg I (by rw [cmpI, if_pos (of_decide_eq_true hb)])⟩
 ·refine wskip ?_
  try simp only [Exit.then, Exit.inBlock, ↓reduceIte]
  repeat refine seq ?_
  refine regn 3 hf (by decide +kernel) ?_
  refine st (mv rfl) ?_
  refine st (mv rfl) ?_
  refine st (gtr rfl rfl) ?_
  refine en fun a w e' hf => ?_
  replace e := e.tr e'
  refine tl_nil ?_
  have hb1 := of_decide_eq_false hb
  repeat refine seq ?_
  refine ifc hf rfl (fun hb => ?_) (fun hb => ?_)
  ·repeat refine seq ?_
   refine regn0 ?_
   refine tl_as hf rfl (by decide) fun a hf => ?_
   refine tl_nil ?_
   refine wret ?_
   try simp only [Exit.then, Exit.inBlock]
   refine ret1 rfl hf rfl ?_
   rintro _ rfl
   exact ⟨_, rfl, e, congrArg I (by rw [cmpI, if_neg hb1, if_pos (of_decide_eq_true hb)])⟩
  ·refine wskip ?_
   try simp only [Exit.then, Exit.inBlock, ↓reduceIte]
   repeat refine seq ?_
   refine regn0 ?_
   refine tl_as hf rfl (by decide) fun a hf => ?_
   refine tl_nil ?_
   refine wret ?_
   try simp only [Exit.then, Exit.inBlock]
   refine ret1 rfl hf rfl ?_
   rintro _ rfl
   exact ⟨_, rfl, e, congrArg I (by rw [cmpI, if_neg hb1, if_neg (of_decide_eq_false hb)])⟩
theorem cmp_call (x y : Int) (v u : Value) (w : World) (h : (E (I x)).p v w) (h' : (E (I y)).p u w) : Calls Tryz.prog 94 #[v, u] w (Post (E (I (cmpI x y))) w) := by cases h; cases h'; exact cmpD_spec x y w
theorem Ext.grown {W w : World} (e : Ext W w) : ∃ q os, w = Sort.grow (W.drewN q) os := by
 refine ⟨w.drawn - W.drawn, w.heap.extract W.heap.size w.heap.size, ?_⟩
 have hh : w.heap = W.heap ++ w.heap.extract W.heap.size w.heap.size := by
  apply Array.ext_getElem?
  intro i
  rw [Array.getElem?_append]
  split
  ·rename_i h; exact e.block i h
  ·rename_i h
   rw [Array.getElem?_extract]
   by_cases hi : i < w.heap.size
   ·have e1 : W.heap.size + (i - W.heap.size) = i := by omega
    rw [if_pos (by omega), e1]
   ·rw [if_neg (by omega)]
    simp only [Array.getElem?_eq_none_iff]; omega
 have hd : W.drawn + (w.drawn - W.drawn) = w.drawn := by have := e.drawn; omega
 cases w
 simp only at hh hd
 have ho := e.os; have ht := e.tape; have hp := e.output
 simp only at ho ht hp
 simp only [Sort.grow, World.drewN, World.mk.injEq]
 exact ⟨hh, ht, hd.symm, ho, hp⟩
theorem cmpV_spec (x y : Int × Int × Int) (W : World) : Calls Tryz.prog 93 #[.agg #[.int .i64 x.1, .int .u8 x.2.1, .int .i64 x.2.2], .agg #[.int .i64 y.1, .int .u8 y.2.1, .int .i64 y.2.2]] W (Post (E (I (cmpI x.1 y.1))) W) := by
 refine enter (args := [.agg #[.int .i64 x.1, .int .u8 x.2.1, .int .i64 x.2.2], .agg #[.int .i64 y.1, .int .u8 y.2.1, .int .i64 y.2.2]]) (As := [E (.agg #[.int .i64 x.1, .int .u8 x.2.1, .int .i64 x.2.2]), E (.agg #[.int .i64 y.1, .int .u8 y.2.1, .int .i64 y.2.2])]) Tryz.func93 rfl Tryz.ntmps93 (Nat.le_of_ble_eq_true rfl) ?_ (fun a hf => ?_) (Nat.le_of_ble_eq_true rfl)
 rotate_left
 dsimp only [params, Nat.reduceAdd] at hf
 rotate_right
 ·exact arg2 rfl rfl
 have e := Ext.rfl' W
 repeat refine seq ?_
 refine regn0 ?_
 refine tl_box hf rfl (by decide) fun a b2 w v2 hv2 e' hb2 hs2 B2 hf => ?_
 have hle2 := Nat.le_trans e.size (Nat.le_of_eq hb2.symm)
 replace e := e.tr e'
 clear e'
 refine tl_box hf rfl (by decide) fun a b3 w v3 hv3 e' hb3 hs3 B3 hf => ?_
 have hle3 := Nat.le_trans e.size (Nat.le_of_eq hb3.symm)
 have lt3_B2 := B2.lt
 replace e := e.tr e'
 replace B2 := B2.ext e'
 refine tl_as hf rfl (by decide) fun a hf => ?_
 refine tl_nil ?_
 cases hv2; cases hv3
 repeat refine seq ?_
 refine regn 5 hf (by decide +kernel) ?_
 refine st (fldA Tryz.underlying54 rfl T3 (by decide) rfl) ?_
 refine st (ld1 T3 rfl B2 rfl) ?_
 refine st (fldA Tryz.underlying54 rfl T3 (by decide) rfl) ?_
 refine st (ld1 T3 rfl B3 rfl) ?_
 refine st (call2 Mono.En94 rfl rfl (fun v u w he h h' => cmp_call x.1 y.1 v u w h h')) ?_
 refine en fun a w e' hf => ?_
 replace e := e.tr e'
 replace B2 := B2.ext e'
 replace B3 := B3.ext e'
 refine tl_as hf rfl (by decide) fun a hf => ?_
 refine tl_nil ?_
 refine wret ?_
 try simp only [Exit.then, Exit.inBlock]
 refine ret1 rfl hf rfl ?_
 rintro _ rfl
 exact ⟨_, rfl, e, rfl⟩
end Go.MonoD

namespace Go.MonoD
open Go Go.Proofs Go.RowKit
section
variable {P : Program} {w0 : World} {L : Env} {dst : Option Tmp} {ty : TypeId} {pos : String} {aft : Array Edge} {g : Option (Nat × Bool)} {t te : TypeId} {x y : Operand}
def Sl2 (t : TypeId) (p q : Int) : VA := ⟨fun v w => ∃ b, v = .slice (some ⟨b, 0, none⟩) 2 2 ∧ Blk w b #[I p, I q] t, fun v w w' e ⟨b, h1, h2⟩ => ⟨b, h1, h2.ext e⟩⟩
theorem bsl2D {p q : Int} {bz : Nat} {z0 : Value} (ht : P.underlying t = some (.slice te)) (hi : (P.info? te).map (fun i => (i.zero, i.size, i.bytes)) = some (some z0, 1, bz)) (hz0 : z0.cells.size = 1) (hx : opd L x = some (E (I p))) (hy : opd L y = some (E (I q))) :
  OpC P w0 L ⟨dst, .buildSlice t 2 #[(0, x), (1, y)], ty, pos, aft, g⟩ (Sl2 te p q) := by
 refine ⟨fun ρ w he hv => ?_⟩
 have hxv := opE hv (x := x) (by simp [Op.operands]) hx
 have hyv := opE hv (x := y) (by simp [Op.operands]) hy
 obtain ⟨it, hit, hiz, hsz, _⟩ := info_parts hi
 have hfl := Mono.fill_seq (k := 1) [I p, I q] [[I p], [I q]] 0 [] ((Array.range (2 * 1)).map (z0.cells[· % z0.cells.size]!)) rfl (by simp) (by simp) (by simp) (by simp)
 have hr := run_buildSlice (P := P) w t te 2 #[(0, I p), (1, I q)] #[I p, I q] it z0 ht hit hiz (by rw [hsz]; omega) (by rw [hsz]; omega) (by rw [hsz]; exact hfl)
 have hrun : (execOp ρ ⟨dst, .buildSlice t 2 #[(0, x), (1, y)], ty, pos, aft, g⟩).run P w = .ok (.value (.slice (some ⟨w.heap.size, 0, none⟩) 2 2)) (w.alloc (.cells #[I p, I q] te)) := by
  simp only [execOp, Sem.run_bind, List.map_toArray, List.map_cons, List.map_nil, hxv, hyv, hr, Result.andThen_ok, Sem.run_pure]
 simp only [OpR, hrun]
 exact ⟨ext_alloc w _, _, rfl, blk_alloc w _ _⟩
theorem idxS {b : Nat} {k : Nat} (ht : P.underlying t = some (.slice te)) (hs : (P.info? te).map (·.size) = some 1) (hx : opd L x = some (E (.slice (some ⟨b, 0, none⟩) 2 2))) (hy : opd L y = some (E (I k))) (hk : k < 2) :
  OpC P w0 L ⟨dst, .indexAddr t x y, ty, pos, aft, g⟩ (E (.pointer (some ⟨b, k, none⟩))) :=
 opc_pure fun ρ w he hv => by
  have h := opE hv (x := x) (by simp [Op.operands]) hx
  have h2 := opE hv (x := y) (by simp [Op.operands]) hy
  have hi : (0 : Int) ≤ (k : Int) ∧ (k : Int) < ((2 : Nat) : Int) := by omega
  have hsz : ∀ w, (sizeOf te).run P w = .ok 1 w := fun w => by
   cases hi : P.info? te with
   | none => simp [hi] at hs
   | some i => simp [hi] at hs; simp [sizeOf, typeInfo, hi, hs]
  have hi' : (k : Int) < 2 := by omega
  refine ⟨_, ?_, rfl⟩
  rcases (show k = 0 ∨ k = 1 by omega) with rfl | rfl <;> simp [execOp, h, h2, Instr.indexAt, asIntOf, run_underlying ht, hsz, Addr.add]
theorem lenS {b : Nat} (ht : P.underlying t = some (.slice te)) (hx : opd L x = some (E (.slice (some ⟨b, 0, none⟩) 2 2))) : OpC P w0 L ⟨dst, .call ⟨.builtin .len, #[x], #[t]⟩, ty, pos, aft, g⟩ (E (I 2)) :=
 opc_pure fun ρ w he hv => by
  have h := opE hv (x := x) (by simp [Op.operands, Call.operands]) hx
  exact ⟨_, by simp [execOp, resolve, invoke, builtin, Builtin.len_, h, run_underlying ht, goInt], rfl⟩
end
def orI (p q : Int) : Int := if p != 0 then p else q
theorem orI_spec (p q : Int) (b : Nat) (W : World) (hB : Blk W b #[I p, I q] 3) : Calls Tryz.prog 101 #[.slice (some ⟨b, 0, none⟩) 2 2] W (Post (E (I (orI p q))) W) := by
 refine enter (args := [.slice (some ⟨b, 0, none⟩) 2 2]) (As := [E (.slice (some ⟨b, 0, none⟩) 2 2)]) Tryz.func101 rfl Tryz.ntmps101 (Nat.le_of_ble_eq_true rfl) ?_ (fun a hf => ?_) (Nat.le_of_ble_eq_true rfl)
 rotate_left
 dsimp only [params, Nat.reduceAdd] at hf
 rotate_right
 ·exact arg1 rfl
 have e := Ext.rfl' W
 repeat refine seq ?_
 refine regn0 ?_
 refine tl_as hf rfl (by decide) fun a hf => ?_
 refine tl_nil ?_
 repeat refine seq ?_
 refine regn0 ?_
 refine tl_as hf rfl (by decide) fun a hf => ?_
 refine tl_nil ?_
 repeat refine seq ?_
 refine regn 3 hf (by decide +kernel) ?_
 refine st (mv rfl) ?_
 refine st (lenS Tryz.underlying26 rfl) ?_
 refine st (mv rfl) ?_
 refine en fun a w e' hf => ?_
 replace e := e.tr e'
 refine tl_nil ?_
 replace hf := hf.kp [3, 6, 7, 8]
 repeat refine seq ?_
 refine blk (loopN (fun r0 a w => ∃ (k : Nat) , r0 = 2 - k ∧ k ≤ 2 ∧ Fr 18 a w [(3, E (I 0)), (6, E (.slice (some ⟨b, 0, none⟩) 2 2)), (7, E (I 2)), (8, E (I k))] ∧ Ext W w ∧ (k = 0 ∨ p = 0) ∧ (k = 2 → q = 0)) 2 ⟨0, rfl, by omega, hf, e, ⟨.inl rfl, (fun h => by cases h)⟩⟩ ?_)
 clear hf e; try clear hp
 rintro r0 a w ⟨k, rfl, hk, hf, e, hp⟩
 repeat refine seq ?_
 refine regn 1 hf (by decide +kernel) ?_
 refine st (lss rfl rfl) ?_
 refine en fun a w e' hf => ?_
 replace e := e.tr e'
 refine tl_nil ?_
 repeat refine seq ?_
 refine ifc hf rfl (fun hc => wskip ?_) (fun hc => wexit ?_)
 rotate_left
 rotate_left
 ·have hlt : k < 2 := by have := of_decide_eq_true hc; (try dsimp only at this); omega
  clear hc
  replace hf := hf.kp [3, 6, 7, 8]
  repeat refine seq ?_
  refine blk ?_
  have hB' := hB.ext e
  have hcell : (#[I p, I q] : Array Value)[k]? = some (I (if k = 0 then p else q)) := by
   rcases (show k = 0 ∨ k = 1 by omega) with rfl | rfl <;> rfl
  repeat refine seq ?_
  refine regn 2 hf (by decide +kernel) ?_
  refine st (idxS Tryz.underlying26 Mono.S3 rfl rfl hlt) ?_
  refine st (ld1 T3 rfl hB' hcell) ?_
  refine en fun a w e' hf => ?_
  replace e := e.tr e'
  refine tl_as hf rfl (by decide) fun a hf => ?_
  refine tl_nil ?_
  repeat refine seq ?_
  refine regn 3 hf (by decide +kernel) ?_
  refine st (mv rfl) ?_
  refine st (mv rfl) ?_
  refine st (neq rfl rfl) ?_
  refine en fun a w e' hf => ?_
  replace e := e.tr e'
  refine tl_nil ?_
  repeat refine seq ?_
  refine ifc hf rfl (fun hb => ?_) (fun hb => ?_)
  ·have hb' : (if k = 0 then p else q) ≠ 0 := by simpa using hb
   have hor : (if k = 0 then p else q) = orI p q := by
    rw [orI]
    rcases (show k = 0 ∨ k = 1 by omega) with rfl | rfl
    ·simp only [if_true] at hb' ⊢; rw [if_pos (by simpa using hb')]
    ·simp only [Nat.one_ne_zero, if_false] at hb' ⊢; rw [if_neg (by simpa using hp.1)]
   repeat refine seq ?_
   refine regn 1 hf (by decide +kernel) ?_
   refine st (mv rfl) ?_
   refine en fun a w e' hf => ?_
   replace e := e.tr e'
   refine tl_as hf rfl (by decide) fun a hf => ?_
   refine tl_nil ?_
   refine wret ?_
   try simp only [Exit.then, Exit.inBlock]
   refine ret1 rfl hf rfl ?_
   rintro _ rfl
   exact ⟨_, rfl, e, congrArg I hor⟩
  ·have hb' : (if k = 0 then p else q) = 0 := by simpa using hb
   refine wskip ?_
   try simp only [Exit.then, Exit.inBlock, ↓reduceIte]
   try simp only [Exit.then, Exit.inBlock, ↓reduceIte]
   repeat refine seq ?_
   refine regn 1 hf (by decide +kernel) ?_
   refine st ((add rfl rfl (by omega)).eq (congrArg (Value.int .i64) (show (k : Int) + 1 = ((k + 1 : Nat) : Int) from rfl))) ?_
   refine en fun a w e' hf => ?_
   replace e := e.tr e'
   clear e'
   refine tl_op hf (by decide) (mv rfl) fun a w e' hf => ?_
   replace e := e.tr e'
   refine tl_nil ?_
   replace hf := hf.kp [3, 6, 7, 8]
   refine ⟨_, ?_, k + 1, rfl, by omega, hf, e, ?_⟩
   ·omega
   rcases (show k = 0 ∨ k = 1 by omega) with rfl | rfl
   ·exact ⟨.inr (by simpa using hb'), fun h => by cases h⟩
   ·exact ⟨.inr (by simpa using hp.1), fun _ => by simpa using hb'⟩
 ·obtain rfl : k = 2 := by have := of_decide_eq_false hc; (try dsimp only at this); omega
  clear hc
  simp only [Exit.then, Exit.inBlock, ↓reduceIte]
  repeat refine seq ?_
  refine regn 1 hf (by decide +kernel) ?_
  refine st (mv rfl) ?_
  refine en fun a w e' hf => ?_
  replace e := e.tr e'
  refine tl_as hf rfl (by decide) fun a hf => ?_
  refine tl_nil ?_
  refine wret ?_
  try simp only [Exit.then, Exit.inBlock]
  refine ret1 rfl hf rfl ?_
  rintro _ rfl
  exact ⟨_, rfl, e, congrArg I (by have h1 : p = 0 := (by simpa using hp.1); have h2 := hp.2 rfl; rw [orI, h1, h2]; rfl)⟩
theorem cmpE_spec (x y : (Int × Int) × (Int × Int)) (W : World) : Calls Tryz.prog 100 #[.agg #[.int .i64 x.1.1, .int .i64 x.1.2, .int .u8 x.2.1, .int .i64 x.2.2], .agg #[.int .i64 y.1.1, .int .i64 y.1.2, .int .u8 y.2.1, .int .i64 y.2.2]] W (Post (E (I (orI (cmpI x.1.1 y.1.1) (cmpI x.1.2 y.1.2)))) W) := by
 refine enter (args := [.agg #[.int .i64 x.1.1, .int .i64 x.1.2, .int .u8 x.2.1, .int .i64 x.2.2], .agg #[.int .i64 y.1.1, .int .i64 y.1.2, .int .u8 y.2.1, .int .i64 y.2.2]]) (As := [E (.agg #[.int .i64 x.1.1, .int .i64 x.1.2, .int .u8 x.2.1, .int .i64 x.2.2]), E (.agg #[.int .i64 y.1.1, .int .i64 y.1.2, .int .u8 y.2.1, .int .i64 y.2.2])]) Tryz.func100 rfl Tryz.ntmps100 (Nat.le_of_ble_eq_true rfl) ?_ (fun a hf => ?_) (Nat.le_of_ble_eq_true rfl)
 rotate_left
 dsimp only [params, Nat.reduceAdd] at hf
 rotate_right
 ·exact arg2 rfl rfl
 have e := Ext.rfl' W
 repeat refine seq ?_
 refine regn0 ?_
 refine tl_box hf rfl (by decide) fun a b2 w v2 hv2 e' hb2 hs2 B2 hf => ?_
 have hle2 := Nat.le_trans e.size (Nat.le_of_eq hb2.symm)
 replace e := e.tr e'
 clear e'
 refine tl_box hf rfl (by decide) fun a b3 w v3 hv3 e' hb3 hs3 B3 hf => ?_
 have hle3 := Nat.le_trans e.size (Nat.le_of_eq hb3.symm)
 have lt3_B2 := B2.lt
 replace e := e.tr e'
 replace B2 := B2.ext e'
 refine tl_as hf rfl (by decide) fun a hf => ?_
 refine tl_nil ?_
 cases hv2; cases hv3
 repeat refine seq ?_
 refine reg 12 Mix.mix hf (by decide +kernel) ?_
 refine st (fldA Tryz.underlying56 rfl T3 (by decide) rfl) ?_
 refine st (ld1 T3 rfl B2 rfl) ?_
 refine st (fldA Tryz.underlying56 rfl T3 (by decide) rfl) ?_
 refine st (ld1 T3 rfl B3 rfl) ?_
 refine st (call2 Mono.En94 rfl rfl (fun v u w he h h' => cmp_call x.1.1 y.1.1 v u w h h')) ?_
 refine st (fldA Tryz.underlying56 rfl T3 (by decide) rfl) ?_
 refine st (ld1 T3 rfl B2 rfl) ?_
 refine st (fldA Tryz.underlying56 rfl T3 (by decide) rfl) ?_
 refine st (ld1 T3 rfl B3 rfl) ?_
 refine st (call2 Mono.En94 rfl rfl (fun v u w he h h' => cmp_call x.1.2 y.1.2 v u w h h')) ?_
 refine st (bsl2D Tryz.underlying26 Mono.I3 rfl rfl rfl) ?_
 refine st (call1 Mono.En101 rfl (fun v w he h => by obtain ⟨b, rfl, hB⟩ := h; exact orI_spec _ _ b w hB)) ?_
 refine en fun a w e' hf => ?_
 replace e := e.tr e'
 replace B2 := B2.ext e'
 replace B3 := B3.ext e'
 refine tl_as hf rfl (by decide) fun a hf => ?_
 refine tl_nil ?_
 refine wret ?_
 try simp only [Exit.then, Exit.inBlock]
 refine ret1 rfl hf rfl ?_
 rintro _ rfl
 exact ⟨_, rfl, e, rfl⟩
end Go.MonoD

namespace Go.Mono
open Go Go.Proofs Go.RowKit Go.Shelf Go.Sort
theorem flatMap_get {α β : Type} {f : α → List β} {k : Nat} (hk : ∀ x, (f x).length = k) (h0 : 0 < k) : ∀ (l : List α) (t : Nat), (l.flatMap f)[t]? = (l[t / k]?).bind fun x => (f x)[t % k]?
 | [], t => by simp
 | x :: r, t => by
  rw [List.flatMap_cons, List.getElem?_append, hk]
  by_cases ht : t < k
  ·rw [if_pos ht, Nat.div_eq_of_lt ht, Nat.mod_eq_of_lt ht]; rfl
  ·rw [if_neg ht, flatMap_get hk h0 r]
   have h1 : t / k = (t - k) / k + 1 := by rw [← Nat.add_div_right _ h0]; congr 1; omega
   have h2 : t % k = (t - k) % k := by rw [Nat.mod_eq_sub_mod (by omega)]
   rw [h1, h2, List.getElem?_cons_succ]
theorem flatMap_len {α β : Type} {f : α → List β} {k : Nat} (hk : ∀ x, (f x).length = k) : ∀ (l : List α), (l.flatMap f).length = l.length * k
 | [] => by simp
 | x :: r => by rw [List.flatMap_cons, List.length_append, hk, flatMap_len hk r, List.length_cons, Nat.succ_mul]; omega
theorem flatK_list {α : Type} [Inhabited α] {f : α → List Value} {k : Nat} (hk : ∀ x, (f x).length = k) (h0 : 0 < k) (d : Array α) : (flatK f k d).toList = d.toList.flatMap f := by
 apply List.ext_getElem?
 intro t
 rw [flatMap_get hk h0, flatK, Array.toList_map, List.getElem?_map, Array.toList_range]
 by_cases ht : t < d.size * k
 ·rw [List.getElem?_range ht, Option.map_some]
  have hd : t / k < d.size := Nat.div_lt_of_lt_mul (by rw [Nat.mul_comm]; exact ht)
  have hm : t % k < k := Nat.mod_lt _ h0
  rw [Array.getElem?_toList, Array.getElem?_eq_getElem hd, Option.bind_some, getElem!_pos d _ hd]
  have hl : t % k < (f (d[t / k]'hd)).length := by rw [hk]; exact hm
  rw [List.getElem?_eq_getElem hl, getElem!_pos (f (d[t / k]'hd)) (t % k) hl]
 ·rw [List.getElem?_eq_none (by simpa using ht), Option.map_none]
  have hd : ¬ t / k < d.size := fun h => ht (by
   have := (Nat.div_lt_iff_lt_mul h0).1 h; exact this)
  rw [Array.getElem?_toList, Array.getElem?_eq_none (by omega)]; rfl
theorem cells_flat {α : Type} {e : Enc α} {f : α → List Value} (hf : ∀ G w x cs, e.r G w x cs ↔ cs = f x) {G : Nat → Prop} {w : World} : ∀ (xs : List α) (cs : List Value), Cells e G w xs cs ↔ cs = xs.flatMap f
 | [], cs => by simp [Cells]
 | x :: xs, cs => by
  constructor
  ·rintro ⟨c, d, rfl, h1, h2⟩
   rw [(hf _ _ _ _).1 h1, (cells_flat hf xs d).1 h2, List.flatMap_cons]
  ·intro h
   exact ⟨f x, xs.flatMap f, by rw [h, List.flatMap_cons], (hf _ _ _ _).2 rfl, (cells_flat hf xs _).2 rfl⟩
theorem sort_own {P : Program} {ρ : Ren} {α : Type} [Inhabited α] {e : Enc α} {ty : TypeId} {B : Nat} {G : Nat → Prop} {w : World} {xs : List α} {v : Value} (L : SlLaysF0.n6 P ρ) (aE : ∀ w, (isAgg (ρ.t 24)).run P w = .ok true w) (zE : ∀ w, (Go.sizeOf (ρ.t 24)).run P w = .ok e.k w)
  (f : α → List Value) (hf : ∀ G w x cs, e.r G w x cs ↔ cs = f x) (hk : ∀ x, (f x).length = e.k) (h1 : ∀ x, ∀ v ∈ f x, v.oneCell' = true) (cf : α → α → Int) (hO : SWO (ltOf cf)) (g : Nat)
  (eg : ∀ args w, (callFunc g args).run P w = .ok (.enter g args) w) (hc : ∀ x y W, Calls P g #[.agg (f x).toArray, .agg (f y).toArray] W fun en w' => en = .returned (.int .i64 (cf x y)) ∧ ∃ q os, w' = grow (W.drewN q) os) (Ho : OwR e ty B G w xs v) (hl : xs.length ≤ 100000) :
  Calls P (ρ.f 6) #[v, .func (.func g) #[] #[]] w fun en w' => en = .returned (.tuple #[]) ∧ ∃ xs', xs'.Perm xs ∧ xs'.Pairwise (fun x y => ltOf cf y x = false) ∧ OwR e ty B G w' xs' v ∧ Chg (fun b => v.ownBlock = some b) w w' := by
 obtain ⟨cs, ⟨hlen, hv⟩, hcs⟩ := Ho.own
 rw [cells_flat hf] at hcs
 subst hcs
 rcases hv with ⟨rfl, hn⟩ | ⟨g0, cap, cur, rfl, hB, hheap, hcap, hmax, hcur, htake⟩
 ·have hx : xs = [] := List.length_eq_zero_iff.1 hn
  subst hx
  exact (AnyF.slices_SortFunc_none L none 0 _ w).mono fun en w' ⟨h2, h3⟩ => by
   subst h3
   exact ⟨h2, [], List.Perm.refl _, List.Pairwise.nil, Ho, Chg.rfl' _ _⟩
 ·have hk0 := e.pos
  have hcell : ∀ j, (xs.flatMap f)[j]? = cur[j]? ∨ xs.length * e.k ≤ j := fun j => by
   by_cases hj : j < xs.length * e.k
   ·left
    rw [← htake, List.getElem?_take, if_pos hj]; simp
   ·right; omega
  have hH : HoldsK f e.k w g0 0 xs.toArray := by
   intro j hj
   rw [size_flatK] at hj
   have hj' : j < xs.length * e.k := by simpa using hj
   have h2 : (flatK f e.k xs.toArray)[j]? = cur[j]? := by
    rw [← Array.getElem?_toList, flatK_list hk hk0]
    rcases hcell j with h | h
    ·exact h
    ·omega
   have hjs : j < (flatK f e.k xs.toArray).size := by rw [size_flatK]; exact hj
   have hB1 : Blk w g0 cur ty := hheap
   constructor
   ·rw [Nat.zero_add, hB1.cell, ← h2, Array.getElem?_eq_getElem hjs, getElem!_pos _ j hjs]; rfl
   ·simp [World.frozen?, hheap]
  have hblk : g0 < w.heap.size := (Array.getElem?_eq_some_iff.1 hheap).1
  have hcmp : CmpLays P g #[] f e.k cf g0 0 xs.toArray.size w := fun m os dk hd x y => by simpa using hc x y _
  refine (AnyQ.slices_SortFunc L e.k aE zE f hk h1 cf hO g #[] g0 0 cap xs.toArray w eg hcmp hH hblk (by simp; omega)).mono ?_
  rintro en w' ⟨h2, d', n, os, hp, hs, rfl⟩
  have hds : d'.size = xs.length := by simpa using hp.1
  have hperm : d'.toList.Perm xs := by
   have := hp.2.2
   rw [Array.extract_eq_self_of_le (by simp [hds]), Array.extract_eq_self_of_le (by simp)] at this
   simpa using this
  refine ⟨h2, d'.toList, hperm, ?_, ?_, ?_⟩
  ·rw [List.pairwise_iff_getElem]
   intro i j hi hj hij
   have := hs i j (Nat.zero_le _) hij (by simpa [hds] using hj)
   simp only [Array.length_toList] at hi hj
   rw [getElem!_pos d' j hj, getElem!_pos d' i hi] at this
   simpa using this
  ·have hF : (flatK f e.k d').size = xs.length * e.k := by rw [size_flatK, hds]
   have hcut : xs.length * e.k ≤ cur.size := by rw [hcur]; exact Nat.mul_le_mul_right _ hcap
   have hh : (sortWorldK f e.k w g0 0 n d' os).heap[g0]? = some (.cells (putCells id 0 (flatK f e.k d') cur) ty (0, 0)) := by
    unfold sortWorldK grow putRowK putRow mapBlock
    simp only
    rw [Array.getElem?_append_left (by simpa [Sort.ahead] using hblk), Array.getElem?_modify, if_pos rfl]
    have : (Sort.ahead w n).heap[g0]? = some (Obj.cells cur ty (0, 0)) := hheap
    rw [this]; rfl
   have hput : (putCells id 0 (flatK f e.k d') cur).toList.take (xs.length * e.k) = d'.toList.flatMap f := by
    rw [← flatK_list hk hk0]
    apply List.ext_getElem?
    intro j
    rw [List.getElem?_take]
    by_cases hj : j < xs.length * e.k
    ·rw [if_pos hj, Array.getElem?_toList, Array.getElem?_toList, putCells, Array.getElem?_mapIdx, Array.getElem?_eq_getElem (show j < cur.size by omega), Option.map_some, if_pos ⟨Nat.zero_le _, by rw [Nat.zero_add, hF]; exact hj⟩]
     have hjf : j < (flatK f e.k d').size := by rw [hF]; exact hj
     rw [Nat.sub_zero, getElem!_pos _ j hjf, Array.getElem?_eq_getElem hjf]; rfl
    ·rw [if_neg hj, List.getElem?_eq_none]
     simp only [Array.length_toList, hF]; omega
   refine ⟨⟨d'.toList.flatMap f, ⟨by rw [flatMap_len hk], .inr ⟨g0, cap, _, by simp [hds], hB, hh, by simpa [hds] using hcap, hmax, by simpa [putCells] using hcur, by simpa [hds] using hput⟩⟩, (cells_flat hf _ _).2 rfl⟩, Ho.av, ?_⟩
   exact Nat.le_trans Ho.base (size_sortWorldK_c f e.k w g0 0 n d' os)
  ·refine ⟨rfl, rfl, rfl, size_sortWorldK_c f e.k w g0 0 n d' os, fun b hb hne => ?_⟩
   have hbg : g0 ≠ b := fun h => hne (by subst h; rfl)
   unfold sortWorldK grow putRowK putRow mapBlock
   simp only
   rw [Array.getElem?_append_left (by simpa [Sort.ahead] using hb), Array.getElem?_modify, if_neg hbg]
   rfl
end Go.Mono

namespace Go.Proofs
open Go.Shelf
def Tryz.sortV_ren : Go.Shelf.Ren := ⟨fun | 6 => 92 | 15 => 108 | 14 => 107 | 28 => 119 | 29 => 120 | 20 => 111 | 21 => 112 | 22 => 113 | 23 => 114 | 24 => 115 | 25 => 116 | 26 => 117 | 27 => 118 | 46 => 129 | 47 => 130 | 48 => 131 | 49 => 132 | 50 => 133 | 57 => 137 | n => n, fun | 22 => 52 | 24 => 54 | 25 => 135 | 3 => 3 | 39 => 136 | 0 => 0 | 53 => 158 | 55 => 37 | 4 => 4 | 46 => 152 | 45 => 151 | 50 => 110 | 5 => 5 | 9 => 9 | 66 => 164 | 70 => 168 | 76 => 172 | 77 => 106 | n => n, fun | n => n⟩
theorem Tryz.sortV : Go.Proofs.SlLaysF0.n6 Tryz.prog Tryz.sortV_ren := {
 mixed := by kernel_rfl
 f6 := ⟨Tryz.f92.name, by decide, Tryz.func92.trans (congrArg some (by kernel_rfl))⟩
 f14 := ⟨Tryz.f107.name, by decide, Tryz.func107.trans (congrArg some (by kernel_rfl))⟩
 f15 := Tryz.func108.trans (congrArg some (by kernel_rfl))
 f20 := ⟨Tryz.f111.name, by decide, Tryz.func111.trans (congrArg some (by kernel_rfl))⟩
 f21 := ⟨Tryz.f112.name, by decide, Tryz.func112.trans (congrArg some (by kernel_rfl))⟩
 f22 := ⟨Tryz.f113.name, by decide, Tryz.func113.trans (congrArg some (by kernel_rfl))⟩
 f23 := ⟨Tryz.f114.name, by decide, Tryz.func114.trans (congrArg some (by kernel_rfl))⟩
 f24 := ⟨Tryz.f115.name, by decide, Tryz.func115.trans (congrArg some (by kernel_rfl))⟩
 f25 := ⟨Tryz.f116.name, by decide, Tryz.func116.trans (congrArg some (by kernel_rfl))⟩
 f26 := ⟨Tryz.f117.name, by decide, Tryz.func117.trans (congrArg some (by kernel_rfl))⟩
 f27 := ⟨Tryz.f118.name, by decide, Tryz.func118.trans (congrArg some (by kernel_rfl))⟩
 f28 := Tryz.func119.trans (congrArg some (by kernel_rfl))
 f29 := Tryz.func120.trans (congrArg some (by kernel_rfl))
 f46 := ⟨Tryz.f129.name, by decide, Tryz.func129.trans (congrArg some (by kernel_rfl))⟩
 f47 := Tryz.func130.trans (congrArg some (by kernel_rfl))
 f48 := Tryz.func131.trans (congrArg some (by kernel_rfl))
 f49 := ⟨Tryz.f132.name, by decide, Tryz.func132.trans (congrArg some (by kernel_rfl))⟩
 f50 := ⟨Tryz.f133.name, by decide, Tryz.func133.trans (congrArg some (by kernel_rfl))⟩
 f57 := ⟨Tryz.f137.name, by decide, Tryz.func137.trans (congrArg some (by kernel_rfl))⟩
 t0 := Tryz.underlying0
 a0 := Tryz.isAgg0
 z0 := Tryz.sizeOf0
 v0 := Tryz.zeroValue0
 t3 := Tryz.underlying3
 a3 := Tryz.isAgg3
 z3 := Tryz.sizeOf3
 v3 := Tryz.zeroValue3
 t4 := Tryz.underlying4
 a4 := Tryz.isAgg4
 z4 := Tryz.sizeOf4
 v4 := Tryz.zeroValue4
 t5 := Tryz.underlying5
 a5 := Tryz.isAgg5
 z5 := Tryz.sizeOf5
 v5 := Tryz.zeroValue5
 t9 := Tryz.underlying9
 a9 := Tryz.isAgg9
 z9 := Tryz.sizeOf9
 v9 := Tryz.zeroValue9
 t22 := Tryz.underlying52
 a22 := Tryz.isAgg52
 z22 := Tryz.sizeOf52
 v22 := Tryz.zeroValue52
 t25 := Tryz.underlying135
 a25 := Tryz.isAgg135
 z25 := Tryz.sizeOf135
 v25 := Tryz.zeroValue135
 t39 := Tryz.underlying136
 a39 := Tryz.isAgg136
 z39 := Tryz.sizeOf136
 v39 := Tryz.zeroValue136
 t45 := Tryz.underlying151
 a45 := Tryz.isAgg151
 z45 := Tryz.sizeOf151
 v45 := Tryz.zeroValue151
 t46 := Tryz.underlying152
 a46 := Tryz.isAgg152
 z46 := Tryz.sizeOf152
 v46 := Tryz.zeroValue152
 t50 := Tryz.underlying110
 a50 := Tryz.isAgg110
 z50 := Tryz.sizeOf110
 v50 := Tryz.zeroValue110
 t53 := Tryz.underlying158
 a53 := Tryz.isAgg158
 z53 := Tryz.sizeOf158
 v53 := Tryz.zeroValue158
 t55 := Tryz.underlying37
 a55 := Tryz.isAgg37
 z55 := Tryz.sizeOf37
 v55 := Tryz.zeroValue37
 t66 := Tryz.underlying164
 a66 := Tryz.isAgg164
 z66 := Tryz.sizeOf164
 v66 := Tryz.zeroValue164
 t70 := Tryz.underlying168
 a70 := Tryz.isAgg168
 z70 := Tryz.sizeOf168
 v70 := Tryz.zeroValue168
 t76 := Tryz.underlying172
 a76 := Tryz.isAgg172
 z76 := Tryz.sizeOf172
 v76 := Tryz.zeroValue172
 t77 := Tryz.underlying106
 a77 := Tryz.isAgg106
 z77 := Tryz.sizeOf106
 v77 := Tryz.zeroValue106 }
def Tryz.sortE_ren : Go.Shelf.Ren := ⟨fun | 6 => 99 | 15 => 108 | 14 => 110 | 28 => 119 | 29 => 120 | 20 => 121 | 21 => 122 | 22 => 123 | 23 => 124 | 24 => 125 | 25 => 126 | 26 => 127 | 27 => 128 | 46 => 134 | 47 => 130 | 48 => 131 | 49 => 135 | 50 => 136 | 57 => 138 | n => n, fun | 22 => 53 | 24 => 56 | 25 => 141 | 3 => 3 | 39 => 136 | 0 => 0 | 53 => 158 | 55 => 37 | 4 => 4 | 46 => 152 | 45 => 151 | 50 => 110 | 5 => 5 | 9 => 9 | 66 => 164 | 70 => 168 | 76 => 172 | 77 => 106 | n => n, fun | n => n⟩
theorem Tryz.sortE : Go.Proofs.SlLaysF0.n6 Tryz.prog Tryz.sortE_ren := {
 mixed := by kernel_rfl
 f6 := ⟨Tryz.f99.name, by decide, Tryz.func99.trans (congrArg some (by kernel_rfl))⟩
 f14 := ⟨Tryz.f110.name, by decide, Tryz.func110.trans (congrArg some (by kernel_rfl))⟩
 f15 := Tryz.func108.trans (congrArg some (by kernel_rfl))
 f20 := ⟨Tryz.f121.name, by decide, Tryz.func121.trans (congrArg some (by kernel_rfl))⟩
 f21 := ⟨Tryz.f122.name, by decide, Tryz.func122.trans (congrArg some (by kernel_rfl))⟩
 f22 := ⟨Tryz.f123.name, by decide, Tryz.func123.trans (congrArg some (by kernel_rfl))⟩
 f23 := ⟨Tryz.f124.name, by decide, Tryz.func124.trans (congrArg some (by kernel_rfl))⟩
 f24 := ⟨Tryz.f125.name, by decide, Tryz.func125.trans (congrArg some (by kernel_rfl))⟩
 f25 := ⟨Tryz.f126.name, by decide, Tryz.func126.trans (congrArg some (by kernel_rfl))⟩
 f26 := ⟨Tryz.f127.name, by decide, Tryz.func127.trans (congrArg some (by kernel_rfl))⟩
 f27 := ⟨Tryz.f128.name, by decide, Tryz.func128.trans (congrArg some (by kernel_rfl))⟩
 f28 := Tryz.func119.trans (congrArg some (by kernel_rfl))
 f29 := Tryz.func120.trans (congrArg some (by kernel_rfl))
 f46 := ⟨Tryz.f134.name, by decide, Tryz.func134.trans (congrArg some (by kernel_rfl))⟩
 f47 := Tryz.func130.trans (congrArg some (by kernel_rfl))
 f48 := Tryz.func131.trans (congrArg some (by kernel_rfl))
 f49 := ⟨Tryz.f135.name, by decide, Tryz.func135.trans (congrArg some (by kernel_rfl))⟩
 f50 := ⟨Tryz.f136.name, by decide, Tryz.func136.trans (congrArg some (by kernel_rfl))⟩
 f57 := ⟨Tryz.f138.name, by decide, Tryz.func138.trans (congrArg some (by kernel_rfl))⟩
 t0 := Tryz.underlying0
 a0 := Tryz.isAgg0
 z0 := Tryz.sizeOf0
 v0 := Tryz.zeroValue0
 t3 := Tryz.underlying3
 a3 := Tryz.isAgg3
 z3 := Tryz.sizeOf3
 v3 := Tryz.zeroValue3
 t4 := Tryz.underlying4
 a4 := Tryz.isAgg4
 z4 := Tryz.sizeOf4
 v4 := Tryz.zeroValue4
 t5 := Tryz.underlying5
 a5 := Tryz.isAgg5
 z5 := Tryz.sizeOf5
 v5 := Tryz.zeroValue5
 t9 := Tryz.underlying9
 a9 := Tryz.isAgg9
 z9 := Tryz.sizeOf9
 v9 := Tryz.zeroValue9
 t22 := Tryz.underlying53
 a22 := Tryz.isAgg53
 z22 := Tryz.sizeOf53
 v22 := Tryz.zeroValue53
 t25 := Tryz.underlying141
 a25 := Tryz.isAgg141
 z25 := Tryz.sizeOf141
 v25 := Tryz.zeroValue141
 t39 := Tryz.underlying136
 a39 := Tryz.isAgg136
 z39 := Tryz.sizeOf136
 v39 := Tryz.zeroValue136
 t45 := Tryz.underlying151
 a45 := Tryz.isAgg151
 z45 := Tryz.sizeOf151
 v45 := Tryz.zeroValue151
 t46 := Tryz.underlying152
 a46 := Tryz.isAgg152
 z46 := Tryz.sizeOf152
 v46 := Tryz.zeroValue152
 t50 := Tryz.underlying110
 a50 := Tryz.isAgg110
 z50 := Tryz.sizeOf110
 v50 := Tryz.zeroValue110
 t53 := Tryz.underlying158
 a53 := Tryz.isAgg158
 z53 := Tryz.sizeOf158
 v53 := Tryz.zeroValue158
 t55 := Tryz.underlying37
 a55 := Tryz.isAgg37
 z55 := Tryz.sizeOf37
 v55 := Tryz.zeroValue37
 t66 := Tryz.underlying164
 a66 := Tryz.isAgg164
 z66 := Tryz.sizeOf164
 v66 := Tryz.zeroValue164
 t70 := Tryz.underlying168
 a70 := Tryz.isAgg168
 z70 := Tryz.sizeOf168
 v70 := Tryz.zeroValue168
 t76 := Tryz.underlying172
 a76 := Tryz.isAgg172
 z76 := Tryz.sizeOf172
 v76 := Tryz.zeroValue172
 t77 := Tryz.underlying106
 a77 := Tryz.isAgg106
 z77 := Tryz.sizeOf106
 v77 := Tryz.zeroValue106 }
end Go.Proofs

namespace Go.Mono
open Go Go.Proofs Go.RowKit Go.Gr Go.Sort
instance : Inhabited VT := ⟨(0, (0, 0))⟩
instance : Inhabited ET := ⟨((0, 0), (0, 0))⟩
theorem cmpI_lt (x y : Int) : decide (MonoD.cmpI x y < 0) = decide (x < y) := by
 unfold MonoD.cmpI
 by_cases h1 : x < y
 ·simp [h1]
 ·by_cases h2 : y < x <;> simp [h1, h2]
theorem ltOfV (x y : VT) : ltOf (fun x y : VT => MonoD.cmpI x.1 y.1) x y = lt1 x.1 y.1 := cmpI_lt _ _
theorem ltOfE (x y : ET) : ltOf (fun x y : ET => MonoD.orI (MonoD.cmpI x.1.1 y.1.1) (MonoD.cmpI x.1.2 y.1.2)) x y = lt2 x.1 y.1 := by
 unfold ltOf MonoD.orI MonoD.cmpI lt2
 by_cases h1 : x.1.1 < y.1.1
 ·simp [h1]
 ·by_cases h2 : y.1.1 < x.1.1
  ·simp [h1, h2]; omega
  ·have : x.1.1 = y.1.1 := by omega
   by_cases h3 : x.1.2 < y.1.2
   ·simp [h1, h2, h3, this]
   ·by_cases h4 : y.1.2 < x.1.2 <;> simp [h1, h2, h3, h4, this]
theorem swoV : SWO (ltOf fun x y : VT => MonoD.cmpI x.1 y.1) where
 irrefl x := by rw [ltOfV]; simp [lt1]
 trans x y z h1 h2 := by rw [ltOfV] at *; exact lt1_tr h1 h2
 ntrans x y z h1 h2 := by rw [ltOfV] at *; simp only [lt1, decide_eq_false_iff_not] at *; omega
theorem swoE : SWO (ltOf fun x y : ET => MonoD.orI (MonoD.cmpI x.1.1 y.1.1) (MonoD.cmpI x.1.2 y.1.2)) where
 irrefl x := by rw [ltOfE]; exact lt2_irr _
 trans x y z h1 h2 := by rw [ltOfE] at *; exact lt2_tr h1 h2
 ntrans x y z h1 h2 := by rw [ltOfE] at *; simp only [lt2, decide_eq_false_iff_not] at *; omega
def vtL (x : VT) : List Value := [.int .i64 x.1, .int .u8 x.2.1, .int .i64 x.2.2]
def etL (x : ET) : List Value := [.int .i64 x.1.1, .int .i64 x.1.2, .int .u8 x.2.1, .int .i64 x.2.2]
theorem vtE_iff (G : Nat → Prop) (w : World) (x : VT) (cs : List Value) : vtE.r G w x cs ↔ cs = vtL x :=
 ⟨fun ⟨c, d, h, h1, c2, d2, h2, h3, h4⟩ => by cases h1; cases h3; cases h4; subst h2; subst h; rfl, fun h => ⟨_, _, by rw [h]; rfl, rfl, _, _, rfl, rfl, rfl⟩⟩
theorem etE_iff (G : Nat → Prop) (w : World) (x : ET) (cs : List Value) : etE.r G w x cs ↔ cs = etL x :=
 ⟨fun ⟨c, d, h, ⟨c1, d1, h1, h1a, h1b⟩, c2, d2, h2, h3, h4⟩ => by cases h1a; cases h1b; cases h3; cases h4; subst h1; subst h2; subst h; rfl, fun h => ⟨_, _, by rw [h]; rfl, ⟨_, _, rfl, rfl, rfl⟩, _, _, rfl, rfl, rfl⟩⟩
theorem sortV_spec {B : Nat} {G : Nat → Prop} {w : World} {xs : List VT} {v : Value} (Ho : OwR vtE 54 B G w xs v) (hl : xs.length ≤ 100000) :
  Calls Tryz.prog 92 #[v, .func (.func 93) #[] #[]] w fun en w' => en = .returned (.tuple #[]) ∧ ∃ xs', xs'.Perm xs ∧ xs'.Pairwise (fun x y => lt1 y.1 x.1 = false) ∧ OwR vtE 54 B G w' xs' v ∧ Chg (fun b => v.ownBlock = some b) w w' :=
 (sort_own (e := vtE) Tryz.sortV (fun w => T54.agg w) (fun w => T54.size w) vtL vtE_iff (fun _ => rfl) (fun x u hu => by simp [vtL] at hu; rcases hu with rfl | rfl | rfl <;> rfl) _ swoV 93 En93
  (fun x y W => (MonoD.cmpV_spec x y W).mono fun en w' ⟨u, h1, h2, h3⟩ => by cases h3; exact ⟨h1, h2.grown⟩) Ho hl).mono fun en w' ⟨h1, xs', h2, h3, h4, h5⟩ => ⟨h1, xs', h2, h3.imp fun {a b} h => by rwa [ltOfV] at h, h4, h5⟩
theorem sortE_spec {B : Nat} {G : Nat → Prop} {w : World} {xs : List ET} {v : Value} (Ho : OwR etE 56 B G w xs v) (hl : xs.length ≤ 100000) :
  Calls Tryz.prog 99 #[v, .func (.func 100) #[] #[]] w fun en w' => en = .returned (.tuple #[]) ∧ ∃ xs', xs'.Perm xs ∧ xs'.Pairwise (fun x y => lt2 y.1 x.1 = false) ∧ OwR etE 56 B G w' xs' v ∧ Chg (fun b => v.ownBlock = some b) w w' :=
 (sort_own (e := etE) Tryz.sortE (fun w => T56.agg w) (fun w => T56.size w) etL etE_iff (fun _ => rfl) (fun x u hu => by simp [etL] at hu; rcases hu with rfl | rfl | rfl | rfl <;> rfl) _ swoE 100 En100
  (fun x y W => (MonoD.cmpE_spec x y W).mono fun en w' ⟨u, h1, h2, h3⟩ => by cases h3; exact ⟨h1, h2.grown⟩) Ho hl).mono fun en w' ⟨h1, xs', h2, h3, h4, h5⟩ => ⟨h1, xs', h2, h3.imp fun {a b} h => by rwa [ltOfE] at h, h4, h5⟩
theorem bVx (x : VT) : Tryz.prog.built 54 [(0, .int .i64 x.1), (1, .int .u8 x.2.1), (2, .int .i64 x.2.2)] = some #[.int .i64 x.1, .int .u8 x.2.1, .int .i64 x.2.2] := by kernel_rfl
theorem bEx (x : ET) : Tryz.prog.built 56 [(0, .int .i64 x.1.1), (1, .int .i64 x.1.2), (2, .int .u8 x.2.1), (3, .int .i64 x.2.2)] = some #[.int .i64 x.1.1, .int .i64 x.1.2, .int .u8 x.2.1, .int .i64 x.2.2] := by kernel_rfl
theorem verts_spec {G : Nat → Prop} {N : Nat} (g : GT) (v : Value) (W : World) (h : (Dv (ptE (grE N)) G (some g)).p v W) (hG : ∀ b, G b → b < W.heap.size) (hs : g.1.Pairwise fun x y => lt1 x.1 y.1 = true) (hl : g.1.length ≤ 100000) (hN : N ≤ 1000000) :
  Calls Tryz.prog 47 #[v] W (Post (OwA vtE 54 W.heap.size G g.1) W) := by
 refine enter (args := [v]) (As := [Dv (ptE (grE N)) (GB W G) (some g)]) Tryz.func47 rfl Tryz.ntmps47 (Nat.le_of_ble_eq_true rfl) ?_ (fun a hf => ?_) (Nat.le_of_ble_eq_true rfl)
 rotate_left
 dsimp only [params, Nat.reduceAdd] at hf
 rotate_right
 ·exact arg1 (Dv.toB h)
 have e := Ext.rfl' W
 repeat refine seq ?_
 refine regn0 ?_
 refine tl_as hf rfl (by decide) fun a hf => ?_
 refine tl_nil ?_
 repeat refine seq ?_
 refine regn 2 hf (by decide +kernel) ?_
 refine st (mv rfl) ?_
 refine st (eqlP Tryz.underlying27 (isR rfl)) ?_
 refine en fun a w e' hf => ?_
 replace e := e.tr e'
 refine tl_nil ?_
 repeat refine seq ?_
 refine ifc hf rfl (fun h => by cases h) (fun _ => ?_)
 refine wskip ?_
 try simp only [Exit.then, Exit.inBlock, ↓reduceIte]
 repeat refine seq ?_
 refine regn0 ?_
 refine tl_as hf rfl (by decide) fun a hf => ?_
 refine tl_nil ?_
 repeat refine seq ?_
 refine regn 4 hf (by decide +kernel) ?_
 refine st (mv rfl) ?_
 refine st (nilC (isR rfl)) ?_
 refine st (fldD Tryz.underlying87 rfl T84 (by decide) (Fld.fst Fld.refl) (isR rfl)) ?_
 refine st (ldD T84 (isR rfl)) ?_
 refine en fun a w e' hf => ?_
 replace e := e.tr e'
 clear e'
 obtain ⟨_, ⟨cs, ⟨bm, nm, rfl, hGm, hNm, HM⟩, rfl⟩, hf⟩ := hf.fix 11 rfl
 have hbm : bm < W.heap.size := Nat.lt_of_not_le fun h => hGm (.inr h)
 refine tl_range (V := vKV) Tryz.underlying84 hf (by decide) rfl HM fun a r w e' hr hsr HR hf => ?_
 have hrW : W.heap.size ≤ r := Nat.le_trans e.size (Nat.le_of_eq hr.symm)
 replace e := e.tr e'
 have hrs : r + 1 ≤ w.heap.size := by omega
 clear HM e'
 refine tl_nil ?_
 replace hf := hf.kp [2, 3, 12]
 repeat refine seq ?_
 refine blk (loopN (fun r0 a w => ∃ (old rest : List VT) (u : Value), r0 = rest.length ∧ Fr 30 a w [(2, E (.slice none 0 0)), (3, E u), (12, E (.pointer (some ⟨r, 0, none⟩)))] ∧ Ext W w ∧ RgR vKV w bm r nm old rest ∧ OwR vtE 54 (r + 1) G w old u ∧ (old ++ rest).Perm g.1) g.1.length ⟨[], g.1, .slice none 0 0, rfl, hf, e, HR, OwR.nil vtE _ hrs fun b hb => Nat.lt_of_lt_of_le (hG b hb) (by omega), List.Perm.refl _⟩ ?_)
 clear hf e HR hrs
 rintro r0 a w ⟨old, rest, u, rfl, hf, e, HR, Ho, hp⟩
 repeat refine seq ?_
 refine regn0 ?_
 refine tl_next hf (by decide) rfl HR (fun a hrest hf => ?_) (fun a w' x c hm hg HR hen hf => ?_)
 ·refine tl_exE hf (by decide) rfl rfl fun a hf => ?_
  refine tl_nil ?_
  repeat refine seq ?_
  refine ifc hf rfl (fun h => by cases h) (fun _ => ?_)
  refine wexit ?_
  simp only [Exit.then, Exit.inBlock, ↓reduceIte]
  subst hrest
  rw [List.append_nil] at hp
  replace hf := hf.kp [2, 3]
  repeat refine seq ?_
  refine regn 1 hf (by decide +kernel) ?_
  refine st (mv rfl) ?_
  refine en fun a w e' hf => ?_
  replace Ho := Ho.ext e'
  replace e := e.tr e'
  clear e'
  refine tl_callE (S := fun b => u.ownBlock = some b) (F := fun z w' => OwR vtE 54 (r + 1) G w' g.1 u) hf (by decide) En92 ?_ fun a z w hc hF hf => ?_
  ·have e27 : a.eval (.tmp 27) = u := hf.opd (.tmp 27) _ rfl
   have eF : a.eval (.func 93) = .func (.func 93) #[] #[] := rfl
   simp only [List.map_toArray, List.map_cons, List.map_nil, e27, eF]
   exact (sortV_spec Ho (by rw [hp.length_eq]; exact hl)).mono fun en w' ⟨k1, xs', k2, k3, k4, k5⟩ => ⟨_, k1, k5, by rw [← perm_sorted (lt := fun x y : VT => lt1 x.1 y.1) (k2.trans hp) hs k3]; exact k4⟩
  replace e := e.ch hc (fun b hb => by have := (Ho.lt hb).1; omega)
  clear hc Ho
  refine tl_nil ?_
  replace hf := hf.kp [2, 3]
  repeat refine seq ?_
  refine regn 1 hf (by decide +kernel) ?_
  refine st (mv rfl) ?_
  refine en fun a w e' hf => ?_
  replace hF := hF.ext e'
  replace e := e.tr e'
  refine tl_as hf rfl (by decide) fun a hf => ?_
  refine tl_nil ?_
  refine wret ?_
  try simp only [Exit.then, Exit.inBlock]
  refine ret1 rfl hf rfl ?_
  rintro _ rfl
  exact ⟨_, rfl, e, hF.low (by omega) hG⟩
 ·have nr : u.ownBlock ≠ some r := Ho.neLt (by omega)
  have HR0 : (old ++ rest).Pairwise (fun p q : VT => p.1 ≠ q.1) := (hp.pairwise_iff (fun {_ _} hne => Ne.symm hne)).2 (hs.imp fun {a b} h => (lt1_asy h).2)
  replace e := e.gr hg hrW; replace Ho := Ho.grE hg nr; clear hg nr
  refine tl_exE hf (by decide) rfl rfl fun a hf => ?_
  refine tl_nil ?_
  repeat refine seq ?_
  refine ifc hf rfl (fun _ => ?_) (fun h => by cases h)
  refine wskip ?_
  try simp only [Exit.then, Exit.inBlock, ↓reduceIte]
  repeat refine seq ?_
  refine blk ?_
  repeat refine seq ?_
  refine regn0 ?_
  refine tl_entry hf (by decide) rfl hen fun a hf => ?_
  clear hen
  have hlen : old.length + 1 ≤ g.1.length := by
   have h1 := hp.length_eq; have h2 : 0 < rest.length := List.length_pos_of_mem hm
   rw [List.length_append] at h1; omega
  replace hf := hf.kp [2, 3, 12, 15]
  refine tl_exE hf (by decide) rfl rfl fun a hf => ?_
  refine tl_exE hf (by decide) rfl rfl fun a hf => ?_
  have lr := HR.lt
  refine tl_alloc I89 hf (by decide) fun a b5 w e' hb5 hs5 B5 hf => ?_
  have hle5 := Nat.le_trans e.size (Nat.le_of_eq hb5.symm)
  have ne5_Ho := Ho.ne_new hb5
  replace HR := HR.ext e'
  replace Ho := Ho.ext e'
  replace e := e.tr e'
  refine tl_as hf rfl (by decide) fun a hf => ?_
  have n5 := ne5_Ho
  have h5r : r < b5 ∧ bm < b5 := by omega
  replace HR : RgR vKV w bm r nm (old ++ [(x, c)]) (rest.filter fun p => !decide (p.1 = x)) := HR
  replace hf := hf.kp [2, 3, 4, 5, 12, 17]
  refine tl_stW T89 hf rfl rfl (one2 rfl rfl) B5 rfl rfl fun w hg' hsz B5 hf => ?_
  replace e := e.gr hg' (by omega); replace HR := HR.gr hg' (fun h => by cases h; omega) (fun h => by cases h; omega); replace Ho := Ho.grE hg' n5; clear hg'
  refine tl_nil ?_
  replace hf := hf.kp [2, 3, 4, 5, 12]
  repeat refine seq ?_
  refine regn 8 hf (by decide +kernel) ?_
  refine st (mv rfl) ?_
  refine st (mv rfl) ?_
  refine st (fldA Tryz.underlying89 rfl T5 (by decide) rfl) ?_
  refine st (ld1 T5 rfl B5 rfl) ?_
  refine st (fldA Tryz.underlying89 rfl T3 (by decide) rfl) ?_
  refine st (ld1 T3 rfl B5 rfl) ?_
  refine st (bldVt (x, c) (bVx (x, c)) rfl rfl rfl) ?_
  refine st (bsl1 Tryz.underlying52 I54 rfl (by decide) rfl Ho.avs (isVt rfl)) ?_
  refine en fun a w e' hf => ?_
  replace HR := HR.ext e'
  replace Ho := Ho.ext e'
  replace e := e.tr e'
  replace B5 := B5.ext e'
  clear e'
  haveI hin : ∀ G0, InR (GB W G0) _ := OwR.inGB (W := W) Ho (by omega)
  refine tl_app Tryz.underlying52 I54 rfl rfl hf (by decide) rfl Ho (isR rfl) (by simp only [List.length_singleton]; omega) (by simp only [List.length_singleton, maxLen]; omega) fun a v w hg hat Hn hf => ?_
  replace e := e.gro hg (Ho.row (W := W) (by omega))
  have hrow := Ho.row (W := W) (by omega)
  replace HR := HR.gr hg (fun h => by have := (Ho.lt h.symm).1; omega) (fun h => by have := (Ho.lt h.symm).1; omega)
  replace Ho := Hn
  clear hrow
  replace B5 := B5.gro hg (by assumption)
  replace Ho := Hn; clear Hn hg hat hin
  refine tl_as hf rfl (by decide) fun a hf => ?_
  refine tl_nil ?_
  try simp only [Exit.then, Exit.inBlock, ↓reduceIte]
  replace hf := hf.kp [2, 3, 12]
  refine ⟨_, ?_, old ++ [(x, c)], _, _, rfl, hf, e, HR, Ho, ?_⟩
  ·have := (filter_one_perm (List.pairwise_append.1 HR0).2.1 hm).length_eq
   simp only [List.length_cons] at this; omega
  ·rw [List.append_assoc]; exact (List.Perm.append_left old (filter_one_perm (List.pairwise_append.1 HR0).2.1 hm).symm).trans hp
end Go.Mono

namespace Go.Mono
open Go Go.Proofs Go.RowKit Go.Gr Go.Sort
theorem edges_spec {G : Nat → Prop} {N : Nat} (g : GT) (v : Value) (W : World) (h : (Dv (ptE (grE N)) G (some g)).p v W) (hG : ∀ b, G b → b < W.heap.size) (hs : g.2.Pairwise fun x y => lt2 x.1 y.1 = true) (hl : g.2.length ≤ 100000) (hN : N ≤ 1000000) :
  Calls Tryz.prog 60 #[v] W (Post (OwA etE 56 W.heap.size G g.2) W) := by
 refine enter (args := [v]) (As := [Dv (ptE (grE N)) (GB W G) (some g)]) Tryz.func60 rfl Tryz.ntmps60 (Nat.le_of_ble_eq_true rfl) ?_ (fun a hf => ?_) (Nat.le_of_ble_eq_true rfl)
 rotate_left
 dsimp only [params, Nat.reduceAdd] at hf
 rotate_right
 ·exact arg1 (Dv.toB h)
 have e := Ext.rfl' W
 repeat refine seq ?_
 refine regn0 ?_
 refine tl_as hf rfl (by decide) fun a hf => ?_
 refine tl_nil ?_
 repeat refine seq ?_
 refine regn 2 hf (by decide +kernel) ?_
 refine st (mv rfl) ?_
 refine st (eqlP Tryz.underlying27 (isR rfl)) ?_
 refine en fun a w e' hf => ?_
 replace e := e.tr e'
 refine tl_nil ?_
 repeat refine seq ?_
 refine ifc hf rfl (fun h => by cases h) (fun _ => ?_)
 refine wskip ?_
 try simp only [Exit.then, Exit.inBlock, ↓reduceIte]
 repeat refine seq ?_
 refine regn0 ?_
 refine tl_as hf rfl (by decide) fun a hf => ?_
 refine tl_nil ?_
 repeat refine seq ?_
 refine regn 4 hf (by decide +kernel) ?_
 refine st (mv rfl) ?_
 refine st (nilC (isR rfl)) ?_
 refine st (fldD Tryz.underlying87 rfl T85 (by decide) (Fld.snd Fld.refl rfl) (isR rfl)) ?_
 refine st (ldD T85 (isR rfl)) ?_
 refine en fun a w e' hf => ?_
 replace e := e.tr e'
 clear e'
 obtain ⟨_, ⟨cs, ⟨bm, nm, rfl, hGm, hNm, HM⟩, rfl⟩, hf⟩ := hf.fix 11 rfl
 have hbm : bm < W.heap.size := Nat.lt_of_not_le fun h => hGm (.inr h)
 refine tl_range (V := eKV) Tryz.underlying85 hf (by decide) rfl HM fun a r w e' hr hsr HR hf => ?_
 have hrW : W.heap.size ≤ r := Nat.le_trans e.size (Nat.le_of_eq hr.symm)
 replace e := e.tr e'
 have hrs : r + 1 ≤ w.heap.size := by omega
 clear HM e'
 refine tl_nil ?_
 replace hf := hf.kp [2, 3, 12]
 repeat refine seq ?_
 refine blk (loopN (fun r0 a w => ∃ (old rest : List ET) (u : Value), r0 = rest.length ∧ Fr 33 a w [(2, E (.slice none 0 0)), (3, E u), (12, E (.pointer (some ⟨r, 0, none⟩)))] ∧ Ext W w ∧ RgR eKV w bm r nm old rest ∧ OwR etE 56 (r + 1) G w old u ∧ (old ++ rest).Perm g.2) g.2.length ⟨[], g.2, .slice none 0 0, rfl, hf, e, HR, OwR.nil etE _ hrs fun b hb => Nat.lt_of_lt_of_le (hG b hb) (by omega), List.Perm.refl _⟩ ?_)
 clear hf e HR hrs
 rintro r0 a w ⟨old, rest, u, rfl, hf, e, HR, Ho, hp⟩
 repeat refine seq ?_
 refine regn0 ?_
 refine tl_next hf (by decide) rfl HR (fun a hrest hf => ?_) (fun a w' x c hm hg HR hen hf => ?_)
 ·refine tl_exE hf (by decide) rfl rfl fun a hf => ?_
  refine tl_nil ?_
  repeat refine seq ?_
  refine ifc hf rfl (fun h => by cases h) (fun _ => ?_)
  refine wexit ?_
  simp only [Exit.then, Exit.inBlock, ↓reduceIte]
  subst hrest
  rw [List.append_nil] at hp
  replace hf := hf.kp [2, 3]
  repeat refine seq ?_
  refine regn 1 hf (by decide +kernel) ?_
  refine st (mv rfl) ?_
  refine en fun a w e' hf => ?_
  replace Ho := Ho.ext e'
  replace e := e.tr e'
  clear e'
  refine tl_callE (S := fun b => u.ownBlock = some b) (F := fun z w' => OwR etE 56 (r + 1) G w' g.2 u) hf (by decide) En99 ?_ fun a z w hc hF hf => ?_
  ·have e30 : a.eval (.tmp 30) = u := hf.opd (.tmp 30) _ rfl
   have eF : a.eval (.func 100) = .func (.func 100) #[] #[] := rfl
   simp only [List.map_toArray, List.map_cons, List.map_nil, e30, eF]
   exact (sortE_spec Ho (by rw [hp.length_eq]; exact hl)).mono fun en w' ⟨k1, xs', k2, k3, k4, k5⟩ => ⟨_, k1, k5, by rw [← perm_sorted (lt := fun x y : ET => lt2 x.1 y.1) (k2.trans hp) hs k3]; exact k4⟩
  replace e := e.ch hc (fun b hb => by have := (Ho.lt hb).1; omega)
  clear hc Ho
  refine tl_nil ?_
  replace hf := hf.kp [2, 3]
  repeat refine seq ?_
  refine regn 1 hf (by decide +kernel) ?_
  refine st (mv rfl) ?_
  refine en fun a w e' hf => ?_
  replace hF := hF.ext e'
  replace e := e.tr e'
  refine tl_as hf rfl (by decide) fun a hf => ?_
  refine tl_nil ?_
  refine wret ?_
  try simp only [Exit.then, Exit.inBlock]
  refine ret1 rfl hf rfl ?_
  rintro _ rfl
  exact ⟨_, rfl, e, hF.low (by omega) hG⟩
 ·have nr : u.ownBlock ≠ some r := Ho.neLt (by omega)
  have HR0 : (old ++ rest).Pairwise (fun p q : ET => p.1 ≠ q.1) := (hp.pairwise_iff (fun {_ _} hne => Ne.symm hne)).2 (hs.imp fun {a b} h => (lt2_asy h).2)
  replace e := e.gr hg hrW; replace Ho := Ho.grE hg nr; clear hg nr
  refine tl_exE hf (by decide) rfl rfl fun a hf => ?_
  refine tl_nil ?_
  repeat refine seq ?_
  refine ifc hf rfl (fun _ => ?_) (fun h => by cases h)
  refine wskip ?_
  try simp only [Exit.then, Exit.inBlock, ↓reduceIte]
  repeat refine seq ?_
  refine blk ?_
  repeat refine seq ?_
  refine regn0 ?_
  refine tl_entry hf (by decide) rfl hen fun a hf => ?_
  clear hen
  have hlen : old.length + 1 ≤ g.2.length := by
   have h1 := hp.length_eq; have h2 : 0 < rest.length := List.length_pos_of_mem hm
   rw [List.length_append] at h1; omega
  replace hf := hf.kp [2, 3, 12, 15]
  refine tl_exE hf (by decide) rfl rfl fun a hf => ?_
  refine tl_exE hf (by decide) rfl rfl fun a hf => ?_
  have lr := HR.lt
  refine tl_alloc I92 hf (by decide) fun a b4 w e' hb4 hs4 B4 hf => ?_
  have hle4 := Nat.le_trans e.size (Nat.le_of_eq hb4.symm)
  have ne4_Ho := Ho.ne_new hb4
  replace HR := HR.ext e'
  replace Ho := Ho.ext e'
  replace e := e.tr e'
  clear e'
  refine tl_alloc I89 hf (by decide) fun a b5 w e' hb5 hs5 B5 hf => ?_
  have hle5 := Nat.le_trans e.size (Nat.le_of_eq hb5.symm)
  have ne5_Ho := Ho.ne_new hb5
  have lt5_B4 := B4.lt
  replace HR := HR.ext e'
  replace Ho := Ho.ext e'
  replace e := e.tr e'
  replace B4 := B4.ext e'
  clear e'
  have n5 := ne5_Ho
  have n4 := ne4_Ho
  have h5r : r < b4 ∧ bm < b4 ∧ b4 < b5 := by omega
  replace HR : RgR eKV w bm r nm (old ++ [(x, c)]) (rest.filter fun p => !decide (p.1 = x)) := HR
  replace hf := hf.kp [2, 3, 4, 5, 12, 16, 17]
  refine tl_stW T92 hf rfl rfl (one2 rfl rfl) B4 rfl rfl fun w hg' hsz B4 hf => ?_
  replace e := e.gr hg' (by omega); replace HR := HR.gr hg' (fun h => by cases h; omega) (fun h => by cases h; omega); replace Ho := Ho.grE hg' n4; replace B5 := B5.gr hg' (by omega); clear hg'
  refine tl_stW T89 hf rfl rfl (one2 rfl rfl) B5 rfl rfl fun w hg' hsz B5 hf => ?_
  replace e := e.gr hg' (by omega); replace HR := HR.gr hg' (fun h => by cases h; omega) (fun h => by cases h; omega); replace Ho := Ho.grE hg' n5; replace B4 := B4.gr hg' (by omega); clear hg'
  refine tl_nil ?_
  replace hf := hf.kp [2, 3, 4, 5, 12]
  repeat refine seq ?_
  refine regn 11 hf (by decide +kernel) ?_
  refine st (mv rfl) ?_
  refine st (fldA Tryz.underlying92 rfl T3 (by decide) rfl) ?_
  refine st (ld1 T3 rfl B4 rfl) ?_
  refine st (fldA Tryz.underlying92 rfl T3 (by decide) rfl) ?_
  refine st (ld1 T3 rfl B4 rfl) ?_
  refine st (fldA Tryz.underlying89 rfl T5 (by decide) rfl) ?_
  refine st (ld1 T5 rfl B5 rfl) ?_
  refine st (fldA Tryz.underlying89 rfl T3 (by decide) rfl) ?_
  refine st (ld1 T3 rfl B5 rfl) ?_
  refine st (bldEt (x, c) (bEx (x, c)) rfl rfl rfl rfl) ?_
  refine st (bsl1 Tryz.underlying53 I56 rfl (by decide) rfl Ho.avs (isEt rfl)) ?_
  refine en fun a w e' hf => ?_
  replace HR := HR.ext e'
  replace Ho := Ho.ext e'
  replace e := e.tr e'
  replace B4 := B4.ext e'
  replace B5 := B5.ext e'
  clear e'
  haveI hin : ∀ G0, InR (GB W G0) _ := OwR.inGB (W := W) Ho (by omega)
  refine tl_app Tryz.underlying53 I56 rfl rfl hf (by decide) rfl Ho (isR rfl) (by simp only [List.length_singleton]; omega) (by simp only [List.length_singleton, maxLen]; omega) fun a v w hg hat Hn hf => ?_
  replace e := e.gro hg (Ho.row (W := W) (by omega))
  have hrow := Ho.row (W := W) (by omega)
  replace HR := HR.gr hg (fun h => by have := (Ho.lt h.symm).1; omega) (fun h => by have := (Ho.lt h.symm).1; omega)
  replace Ho := Hn
  clear hrow
  replace B4 := B4.gro hg (by assumption)
  replace B5 := B5.gro hg (by assumption)
  replace Ho := Hn; clear Hn hg hat hin
  refine tl_as hf rfl (by decide) fun a hf => ?_
  refine tl_nil ?_
  try simp only [Exit.then, Exit.inBlock, ↓reduceIte]
  replace hf := hf.kp [2, 3, 12]
  refine ⟨_, ?_, old ++ [(x, c)], _, _, rfl, hf, e, HR, Ho, ?_⟩
  ·have := (filter_one_perm (List.pairwise_append.1 HR0).2.1 hm).length_eq
   simp only [List.length_cons] at this; omega
  ·rw [List.append_assoc]; exact (List.Perm.append_left old (filter_one_perm (List.pairwise_append.1 HR0).2.1 hm).symm).trans hp
end Go.Mono

namespace Go.Mono
open Go Go.Proofs Go.RowKit

end Go.Mono

namespace Go.Mono
open Go Go.Proofs Go.RowKit Go.Gr
def vset (l : List VT) : BS := (l.map (·.1)).foldl ins 0
theorem vertexSet_spec {G : Nat → Prop} {N : Nat} (g : GT) (v : Value) (W : World) (h : (Dv (ptE (grE N)) G (some g)).p v W) (hs : g.1.Pairwise fun x y => lt1 x.1 y.1 = true) (hl : g.1.length ≤ 100000) (hN : N ≤ 1000000) :
  Calls Tryz.prog 22 #[v] W (Post (E (setV (vset g.1))) W) := by
 have h0 : (Dv (ptE (grE N)) Go.Mono.G0 (some g)).p v W := Dv.weak h fun b _ hb => hb.elim
 refine enter (args := [v]) (As := [E v]) Tryz.func22 rfl Tryz.ntmps22 (Nat.le_of_ble_eq_true rfl) ?_ (fun a hf => ?_) (Nat.le_of_ble_eq_true rfl)
 rotate_left
 dsimp only [params, Nat.reduceAdd] at hf
 rotate_right
 ·exact arg1 rfl
 have e := Ext.rfl' W
 repeat refine seq ?_
 refine regn0 ?_
 refine tl_alloc I39 hf (by decide) fun a b2 w e' hb2 hs2 B2 hf => ?_
 have hle2 := Nat.le_trans e.size (Nat.le_of_eq hb2.symm)
 replace e := e.tr e'
 refine tl_nil ?_
 repeat refine seq ?_
 refine regn0 ?_
 refine tl_alloc I39 hf (by decide) fun a b3 w e' hb3 hs3 B3 hf => ?_
 have hle3 := Nat.le_trans e.size (Nat.le_of_eq hb3.symm)
 have lt3_B2 := B2.lt
 replace e := e.tr e'
 replace B2 := B2.ext e'
 refine tl_nil ?_
 simp only [Value.cells, zeroC] at B2 B3
 obtain ⟨N0, hN0⟩ : ∃ N0, N0 = w.heap.size := ⟨_, rfl⟩
 have l2 : b2 < N0 := by rw [hN0]; exact B2.lt
 have l3 : b3 < N0 := by rw [hN0]; exact B3.lt
 have hN0' : N0 ≤ w.heap.size := Nat.le_of_eq hN0
 have e0 := e
 repeat refine seq ?_
 refine regn 2 hf (by decide +kernel) ?_
 refine st (mv rfl) ?_
 refine st (call1 (A := OwA vtE 54 N0 Go.Mono.G0 g.1) En47 rfl (fun v w he k => by cases k; exact (verts_spec (G := Go.Mono.G0) g _ w (VA.st _ _ _ _ (Ext.tr e0 he) h0) (fun b hb => hb.elim) hs hl hN).mono fun en w' ⟨u, k1, k2, k3⟩ => ⟨u, k1, k2, OwR.low k3 (Nat.le_trans hN0' he.size) fun b hb => hb.elim⟩)) ?_
 refine en fun a w e' hf => ?_
 replace e := e.tr e'
 replace B2 := B2.ext e'
 replace B3 := B3.ext e'
 clear e'
 obtain ⟨u, Ho, hf⟩ := hf.fix 7 rfl
 replace Ho : OwR vtE 54 N0 Go.Mono.G0 w g.1 u := Ho
 obtain ⟨NV, hNV⟩ : ∃ NV : Nat → Prop, NV = fun b => u.ownBlock ≠ some b := ⟨_, rfl⟩
 have HD : (Dv (slE vtE) NV g.1).p u w := Ho.slN fun b hb => by rw [hNV]; exact fun h => h hb
 obtain ⟨N5, hN5⟩ : ∃ N5, N5 = w.heap.size := ⟨_, rfl⟩
 have nV : ∀ bb, (bb < N0 ∨ N5 ≤ bb) → NV bb := fun bb hb => by rw [hNV]; intro h; have h3 := Ho.lt h; omega
 have hN5s : N5 ≤ w.heap.size := Nat.le_of_eq hN5
 have hNN : N0 ≤ N5 := by rw [hN5]; exact Ho.base
 clear hN5 hNV Ho e0 hN0' hN0
 refine tl_op hf (by decide) (lenD Tryz.underlying52 (isE rfl HD)) fun a w e' hf => ?_
 replace HD := VA.st _ _ _ _ e' HD
 replace hN5s := Nat.le_trans hN5s e'.size
 replace e := e.tr e'
 replace B2 := B2.ext e'
 replace B3 := B3.ext e'
 clear e'
 refine tl_op hf (by decide) (mv rfl) fun a w e' hf => ?_
 replace HD := VA.st _ _ _ _ e' HD
 replace hN5s := Nat.le_trans hN5s e'.size
 replace e := e.tr e'
 replace B2 := B2.ext e'
 replace B3 := B3.ext e'
 refine tl_nil ?_
 replace hf := hf.kp [2, 3, 7, 8, 9]
 repeat refine seq ?_
 refine blk (loopN (fun r0 a w => ∃ (k : Nat) , r0 = g.1.length - k ∧ k ≤ g.1.length ∧ Fr 19 a w [(2, E (.pointer (some ⟨b2, 0, none⟩))), (3, E (.pointer (some ⟨b3, 0, none⟩))), (7, E u), (8, E (I (g.1.length : Nat))), (9, E (I k))] ∧ Ext W w ∧ Blk w b2 (setC 0) 39 ∧ Blk w b3 (setC (((g.1.take k).map (·.1)).foldl ins 0)) 39 ∧ (Dv (slE vtE) NV g.1).p u w ∧ N5 ≤ w.heap.size) g.1.length ⟨0, rfl, by omega, hf, e, ⟨B2, B3, HD, hN5s⟩⟩ ?_)
 clear hf e; try clear B2; try clear B3; try clear HD; try clear hN5s
 rintro r0 a w ⟨k, rfl, hk, hf, e, B2, B3, HD, hN5s⟩
 repeat refine seq ?_
 refine regn 1 hf (by decide +kernel) ?_
 refine st (lss rfl rfl) ?_
 refine en fun a w e' hf => ?_
 replace HD := VA.st _ _ _ _ e' HD
 replace hN5s := Nat.le_trans hN5s e'.size
 replace e := e.tr e'
 replace B2 := B2.ext e'
 replace B3 := B3.ext e'
 refine tl_nil ?_
 repeat refine seq ?_
 refine ifc hf rfl (fun hc => wskip ?_) (fun hc => wexit ?_)
 rotate_left
 rotate_left
 ·have hlt : k < g.1.length := by have := of_decide_eq_true hc; (try dsimp only at this); omega
  clear hc
  replace hf := hf.kp [2, 3, 7, 8, 9]
  repeat refine seq ?_
  refine blk ?_
  have hg := List.getElem?_eq_getElem hlt
  generalize g.1[k] = y at hg
  have hS : ((g.1.take (k + 1)).map (·.1)).foldl ins 0 = ins (((g.1.take k).map (·.1)).foldl ins 0) y.1 := by rw [take_succ_get hg, List.map_append, List.foldl_append]; rfl
  obtain ⟨S, hS0⟩ : ∃ S, S = ((g.1.take k).map (·.1)).foldl ins 0 := ⟨_, rfl⟩
  rw [← hS0] at B3 hS
  repeat refine seq ?_
  refine regn0 ?_
  refine tl_op hf (by decide) (idxD Tryz.underlying52 S54 (isE rfl HD) rfl (by omega) (hg)) fun a w e' hf => ?_
  replace HD := VA.st _ _ _ _ e' HD
  replace hN5s := Nat.le_trans hN5s e'.size
  replace e := e.tr e'
  replace B2 := B2.ext e'
  replace B3 := B3.ext e'
  clear e'
  refine tl_op hf (by decide) (ldVt T54 (isR rfl)) fun a w e' hf => ?_
  replace HD := VA.st _ _ _ _ e' HD
  replace hN5s := Nat.le_trans hN5s e'.size
  replace e := e.tr e'
  replace B2 := B2.ext e'
  replace B3 := B3.ext e'
  clear e'
  refine tl_alloc I54 hf (by decide) fun a b5 w e' hb5 hs5 B5 hf => ?_
  have hle5 := Nat.le_trans e.size (Nat.le_of_eq hb5.symm)
  have lo5_hN5s := Nat.le_trans hN5s (Nat.le_of_eq hb5.symm)
  have lt5_B2 := B2.lt
  have lt5_B3 := B3.lt
  replace HD := VA.st _ _ _ _ e' HD
  replace hN5s := Nat.le_trans hN5s e'.size
  replace e := e.tr e'
  replace B2 := B2.ext e'
  replace B3 := B3.ext e'
  clear e'
  replace hf := hf.kp [2, 3, 5, 7, 8, 9, 12]
  refine tl_stW T54 hf rfl rfl (vtV_one y) B5 rfl rfl fun w hg' hsz B5 hf => ?_
  replace e := e.gr hg' (by omega); replace B2 := B2.gr hg' (by omega); replace B3 := B3.gr hg' (by omega); replace HD := Dv.grN HD hg' (fun bb hb => nV bb (by cases hb; omega)); replace hN5s := Nat.le_trans hN5s hg'.size; clear hg'
  refine tl_nil ?_
  replace hf := hf.kp [2, 3, 5, 7, 8, 9]
  repeat refine seq ?_
  refine regn 4 hf (by decide +kernel) ?_
  refine st ((ldW T39 rfl B3 rfl).eq ((rfl : _ = setV S))) ?_
  refine st (fldA Tryz.underlying54 rfl T3 (by decide) rfl) ?_
  refine st (ld1 T3 rfl B5 rfl) ?_
  refine st (call2 (A := E (setV (ins S y.1))) En28 rfl rfl (fun v u w he h h' => by cases h; cases h'; exact with_spec S y.1 w)) ?_
  refine en fun a w e' hf => ?_
  replace HD := VA.st _ _ _ _ e' HD
  replace hN5s := Nat.le_trans hN5s e'.size
  replace e := e.tr e'
  replace B2 := B2.ext e'
  replace B3 := B3.ext e'
  replace B5 := B5.ext e'
  clear e'
  replace hf := hf.kp [2, 3, 7, 8, 9, 16]
  refine tl_stW T39 hf rfl rfl (wordsC_one _) B3 rfl (setC_size _) fun w hg' hsz B3 hf => ?_
  replace e := e.gr hg' (by omega); replace B2 := B2.gr hg' (by omega); replace HD := Dv.grN HD hg' (fun bb hb => nV bb (by cases hb; omega)); replace hN5s := Nat.le_trans hN5s hg'.size; clear hg' B5
  refine tl_nil ?_
  try simp only [Exit.then, Exit.inBlock, ↓reduceIte]
  repeat refine seq ?_
  refine regn 1 hf (by decide +kernel) ?_
  refine st ((add rfl rfl (by omega)).eq (congrArg (Value.int .i64) (show (k : Int) + 1 = ((k + 1 : Nat) : Int) from rfl))) ?_
  refine en fun a w e' hf => ?_
  replace HD := VA.st _ _ _ _ e' HD
  replace hN5s := Nat.le_trans hN5s e'.size
  replace e := e.tr e'
  replace B2 := B2.ext e'
  replace B3 := B3.ext e'
  clear e'
  refine tl_op hf (by decide) (mv rfl) fun a w e' hf => ?_
  replace HD := VA.st _ _ _ _ e' HD
  replace hN5s := Nat.le_trans hN5s e'.size
  replace e := e.tr e'
  replace B2 := B2.ext e'
  replace B3 := B3.ext e'
  refine tl_nil ?_
  replace hf := hf.kp [2, 3, 7, 8, 9]
  refine ⟨_, ?_, k + 1, rfl, by omega, hf, e, ?_⟩
  ·omega
  rw [hS]
  exact ⟨B2, B3, HD, hN5s⟩
 ·obtain rfl : k = g.1.length := by have := of_decide_eq_false hc; (try dsimp only at this); omega
  clear hc
  simp only [Exit.then, Exit.inBlock, ↓reduceIte]
  rw [List.take_length] at B3
  replace hf := hf.kp [2, 3]
  repeat refine seq ?_
  refine regn 1 hf (by decide +kernel) ?_
  refine st ((ldW T39 rfl B3 rfl).eq ((rfl : _ = setV (vset g.1)))) ?_
  refine en fun a w e' hf => ?_
  replace HD := VA.st _ _ _ _ e' HD
  replace hN5s := Nat.le_trans hN5s e'.size
  replace e := e.tr e'
  replace B2 := B2.ext e'
  replace B3 := B3.ext e'
  clear e'
  haveI hinr : ∀ G0, InR (GB W G0) (some b2) := fun G0 => InR.gb (by omega)
  refine tl_stW T39 hf rfl rfl (wordsC_one _) B2 rfl (rfl) fun w hg hsz B2 hf => ?_
  replace HD := Dv.grN HD hg (fun bb hb => nV bb (by cases hb; omega))
  replace hN5s := Nat.le_trans hN5s hg.size
  replace e := e.gr hg (by omega)
  replace B3 := B3.gr hg (by omega)
  clear hg
  refine tl_nil ?_
  refine wret (retc rfl T39 hf rfl B2 (setC_size _) ?_)
  exact ⟨_, rfl, e, rfl⟩
end Go.Mono

namespace Go.Mono
open Go Go.Proofs Go.RowKit Go.Gr

theorem eq_take {xs ys : List Int} {k : Nat} (h : xs.take k = ys.take k) (hk : k < xs.length) (hk' : k < ys.length) : (xs.take (k + 1) = ys.take (k + 1)) ↔ gi xs k = gi ys k := by
 rw [take_succ_get (gi_get hk), take_succ_get (gi_get hk'), h]
 simp
theorem same23_spec {G G' : Nat → Prop} (xs ys : List Int) (v u : Value) (W : World) (h : (Dv (slE intE) G xs).p v W) (h' : (Dv (slE intE) G' ys).p u W) (hl : xs.length ≤ 100000) (hl' : ys.length ≤ 100000) :
  Calls Tryz.prog 18 #[v, u] W (Post (E (B (decide (xs = ys)))) W) := by
 refine enter (args := [v, u]) (As := [Dv (slE intE) G0 xs, Dv (slE intE) G0 ys]) Tryz.func18 rfl Tryz.ntmps18 (Nat.le_of_ble_eq_true rfl) ?_ (fun a hf => ?_) (Nat.le_of_ble_eq_true rfl)
 rotate_left
 dsimp only [params, Nat.reduceAdd] at hf
 rotate_right
 ·exact arg2 (Dv.weak h fun b _ hb => hb.elim) (Dv.weak h' fun b _ hb => hb.elim)
 have e := Ext.rfl' W
 repeat refine seq ?_
 refine regn0 ?_
 refine tl_as hf rfl (by decide) fun a hf => ?_
 refine tl_nil ?_
 repeat refine seq ?_
 refine regn 5 hf (by decide +kernel) ?_
 refine st (mv rfl) ?_
 refine st (lenD Tryz.underlying26 (isR rfl)) ?_
 refine st (mv rfl) ?_
 refine st (lenD Tryz.underlying26 (isR rfl)) ?_
 refine st (neq rfl rfl) ?_
 refine en fun a w e' hf => ?_
 replace e := e.tr e'
 refine tl_nil ?_
 repeat refine seq ?_
 refine ifc hf rfl (fun hb => ?_) (fun hb => ?_)
 ·have hne : xs ≠ ys := fun he => by rw [he] at hb; simp at hb
  repeat refine seq ?_
  refine regn0 ?_
  refine tl_as hf rfl (by decide) fun a hf => ?_
  refine tl_nil ?_
  refine wret ?_
  try simp only [Exit.then, Exit.inBlock]
  refine ret1 rfl hf rfl ?_
  rintro _ rfl
  exact ⟨_, rfl, e, congrArg B (decide_eq_false hne).symm⟩
 have hll : xs.length = ys.length := by simp at hb; omega
 clear hb
 refine wskip ?_
 try simp only [Exit.then, Exit.inBlock, ↓reduceIte]
 repeat refine seq ?_
 refine regn0 ?_
 refine tl_as hf rfl (by decide) fun a hf => ?_
 refine tl_nil ?_
 replace hf := hf.kp [0, 1, 5]
 repeat refine seq ?_
 refine blk (loopN (fun r0 a w => ∃ (k : Nat) , r0 = xs.length - k ∧ k ≤ xs.length ∧ Fr 26 a w [(0, Dv (slE intE) G0 xs), (1, Dv (slE intE) G0 ys), (5, E (I k))] ∧ Ext W w ∧ xs.take k = ys.take k) xs.length ⟨0, rfl, by omega, hf, e, rfl⟩ ?_)
 clear hf e; try clear ht
 rintro r0 a w ⟨k, rfl, hk, hf, e, ht⟩
 repeat refine seq ?_
 refine regn 4 hf (by decide +kernel) ?_
 refine st (mv rfl) ?_
 refine st (mv rfl) ?_
 refine st (lenD Tryz.underlying26 (isR rfl)) ?_
 refine st (lss rfl rfl) ?_
 refine en fun a w e' hf => ?_
 replace e := e.tr e'
 refine tl_nil ?_
 repeat refine seq ?_
 refine ifc hf rfl (fun hc => wskip ?_) (fun hc => wexit ?_)
 rotate_left
 rotate_left
 ·have hlt : k < xs.length := by have := of_decide_eq_true hc; (try dsimp only at this); omega
  clear hc
  replace hf := hf.kp [0, 1, 5]
  repeat refine seq ?_
  refine blk ?_
  have hx := gi_get hlt
  have hy := gi_get (show k < ys.length by omega)
  repeat refine seq ?_
  refine reg 9 Mix.mix hf (by decide +kernel) ?_
  refine st (mv rfl) ?_
  refine st (mv rfl) ?_
  refine st (idxD Tryz.underlying26 S3 (isR rfl) rfl (by omega) (hx)) ?_
  refine st (ldI T3 (isR rfl)) ?_
  refine st (mv rfl) ?_
  refine st (mv rfl) ?_
  refine st (idxD Tryz.underlying26 S3 (isR rfl) rfl (by omega) (hy)) ?_
  refine st (ldI T3 (isR rfl)) ?_
  refine st (neq rfl rfl) ?_
  refine en fun a w e' hf => ?_
  replace e := e.tr e'
  refine tl_nil ?_
  repeat refine seq ?_
  refine ifc hf rfl (fun hb => ?_) (fun hb => ?_)
  ·have hne : xs ≠ ys := fun he => by rw [he] at hb; simp at hb
   repeat refine seq ?_
   refine regn0 ?_
   refine tl_as hf rfl (by decide) fun a hf => ?_
   refine tl_nil ?_
   refine wret ?_
   try simp only [Exit.then, Exit.inBlock]
   refine ret1 rfl hf rfl ?_
   rintro _ rfl
   exact ⟨_, rfl, e, congrArg B (decide_eq_false hne).symm⟩
  ·refine wskip ?_
   try simp only [Exit.then, Exit.inBlock, ↓reduceIte]
   try simp only [Exit.then, Exit.inBlock, ↓reduceIte]
   repeat refine seq ?_
   refine regn 2 hf (by decide +kernel) ?_
   refine st (mv rfl) ?_
   refine st ((add rfl rfl (by omega)).eq (congrArg (Value.int .i64) (show (k : Int) + 1 = ((k + 1 : Nat) : Int) from rfl))) ?_
   refine en fun a w e' hf => ?_
   replace e := e.tr e'
   refine tl_as hf rfl (by decide) fun a hf => ?_
   refine tl_nil ?_
   replace hf := hf.kp [0, 1, 5]
   refine ⟨_, ?_, k + 1, rfl, by omega, hf, e, ?_⟩
   ·omega
   exact (eq_take ht hlt (by omega)).2 (by simpa using hb)
 ·obtain rfl : k = xs.length := by have := of_decide_eq_false hc; (try dsimp only at this); omega
  clear hc
  simp only [Exit.then, Exit.inBlock, ↓reduceIte]
  have he : xs = ys := by rw [List.take_length, hll, List.take_length] at ht; exact ht
  repeat refine seq ?_
  refine regn0 ?_
  refine tl_as hf rfl (by decide) fun a hf => ?_
  refine tl_nil ?_
  refine wret ?_
  try simp only [Exit.then, Exit.inBlock]
  refine ret1 rfl hf rfl ?_
  rintro _ rfl
  exact ⟨_, rfl, e, congrArg B (decide_eq_true he).symm⟩
theorem glen_spec {G : Nat → Prop} {N : Nat} (g : GT) (v : Value) (W : World) (h : (Dv (ptE (grE N)) G (some g)).p v W) :
  Calls Tryz.prog 45 #[v] W (Post (Tup [E (I (g.1.length : Nat)), E (I (g.2.length : Nat))]) W) := by
 refine enter (args := [v]) (As := [Dv (ptE (grE N)) G0 (some g)]) Tryz.func45 rfl Tryz.ntmps45 (Nat.le_of_ble_eq_true rfl) ?_ (fun a hf => ?_) (Nat.le_of_ble_eq_true rfl)
 rotate_left
 dsimp only [params, Nat.reduceAdd] at hf
 rotate_right
 ·exact arg1 (Dv.weak h fun b _ hb => hb.elim)
 have e := Ext.rfl' W
 repeat refine seq ?_
 refine regn0 ?_
 refine tl_as hf rfl (by decide) fun a hf => ?_
 refine tl_as hf rfl (by decide) fun a hf => ?_
 refine tl_nil ?_
 repeat refine seq ?_
 refine regn 2 hf (by decide +kernel) ?_
 refine st (mv rfl) ?_
 refine st (eqlP Tryz.underlying27 (isR rfl)) ?_
 refine en fun a w e' hf => ?_
 replace e := e.tr e'
 refine tl_nil ?_
 repeat refine seq ?_
 refine ifc hf rfl (fun h => by cases h) (fun _ => ?_)
 refine wskip ?_
 try simp only [Exit.then, Exit.inBlock, ↓reduceIte]
 repeat refine seq ?_
 refine reg 10 Mix.mix hf (by decide +kernel) ?_
 refine st (mv rfl) ?_
 refine st (nilC (isR rfl)) ?_
 refine st (fldD Tryz.underlying87 rfl T84 (by decide) (Fld.fst Fld.refl) (isR rfl)) ?_
 refine st (ldD T84 (isR rfl)) ?_
 refine st (lenM Tryz.underlying84 (isR rfl)) ?_
 refine st (mv rfl) ?_
 refine st (nilC (isR rfl)) ?_
 refine st (fldD Tryz.underlying87 rfl T85 (by decide) (Fld.snd Fld.refl rfl) (isR rfl)) ?_
 refine st (ldD T85 (isR rfl)) ?_
 refine st (lenM Tryz.underlying85 (isR rfl)) ?_
 refine en fun a w e' hf => ?_
 replace e := e.tr e'
 refine tl_as hf rfl (by decide) fun a hf => ?_
 refine tl_as hf rfl (by decide) fun a hf => ?_
 refine tl_nil ?_
 refine wret (ret2 rfl hf rfl rfl ?_)
 rintro _ _ rfl rfl
 exact ⟨_, rfl, e, Tup.two rfl rfl⟩
def ckW (g : GT) : Int := if 12 < g.1.length then 2 else 0
theorem tcheck_spec {G : Nat → Prop} {N : Nat} (g : GT) (v : Value) (W : World) (h : (Dv (ptE (grE N)) G (some g)).p v W) :
  Calls Tryz.prog 20 #[v] W (Post (E (I (ckW g))) W) := by
 refine enter (args := [v]) (As := [Dv (ptE (grE N)) G0 (some g)]) Tryz.func20 rfl Tryz.ntmps20 (Nat.le_of_ble_eq_true rfl) ?_ (fun a hf => ?_) (Nat.le_of_ble_eq_true rfl)
 rotate_left
 dsimp only [params, Nat.reduceAdd] at hf
 rotate_right
 ·exact arg1 (Dv.weak h fun b _ hb => hb.elim)
 have e := Ext.rfl' W
 repeat refine seq ?_
 refine regn0 ?_
 refine tl_as hf rfl (by decide) fun a hf => ?_
 refine tl_nil ?_
 repeat refine seq ?_
 refine regn 2 hf (by decide +kernel) ?_
 refine st (mv rfl) ?_
 refine st (eqlP Tryz.underlying27 (isR rfl)) ?_
 refine en fun a w e' hf => ?_
 replace e := e.tr e'
 refine tl_nil ?_
 repeat refine seq ?_
 refine ifc hf rfl (fun h => by cases h) (fun _ => ?_)
 refine wskip ?_
 try simp only [Exit.then, Exit.inBlock, ↓reduceIte]
 repeat refine seq ?_
 refine regn 5 hf (by decide +kernel) ?_
 refine st (mv rfl) ?_
 refine st (call1 En45 rfl (fun v w he h => glen_spec g v w h)) ?_
 refine st (mv rfl) ?_
 refine st (ext_ rfl rfl) ?_
 refine st (ext_ rfl rfl) ?_
 refine en fun a w e' hf => ?_
 replace e := e.tr e'
 refine tl_as hf rfl (by decide) fun a hf => ?_
 refine tl_as hf rfl (by decide) fun a hf => ?_
 refine tl_nil ?_
 repeat refine seq ?_
 refine regn 2 hf (by decide +kernel) ?_
 refine st (mv rfl) ?_
 refine st (gtr rfl rfl) ?_
 refine en fun a w e' hf => ?_
 replace e := e.tr e'
 refine tl_nil ?_
 repeat refine seq ?_
 refine ifc hf rfl (fun hb => ?_) (fun hb => ?_)
 ·have hb' : 12 < g.1.length := by have := of_decide_eq_true hb; omega
  repeat refine seq ?_
  refine regn0 ?_
  refine tl_as hf rfl (by decide) fun a hf => ?_
  refine tl_nil ?_
  refine wret ?_
  try simp only [Exit.then, Exit.inBlock]
  refine ret1 rfl hf rfl ?_
  rintro _ rfl
  exact ⟨_, rfl, e, congrArg I (by rw [ckW, if_pos hb'])⟩
 ·have hb' : ¬ 12 < g.1.length := by have := of_decide_eq_false hb; omega
  refine wskip ?_
  try simp only [Exit.then, Exit.inBlock, ↓reduceIte]
  repeat refine seq ?_
  refine regn0 ?_
  refine tl_as hf rfl (by decide) fun a hf => ?_
  refine tl_nil ?_
  refine wret ?_
  try simp only [Exit.then, Exit.inBlock]
  refine ret1 rfl hf rfl ?_
  rintro _ rfl
  exact ⟨_, rfl, e, congrArg I (by rw [ckW, if_neg hb'])⟩
def nbI (id : Int) (S : BS) (x : ET) : BS := if id = x.1.1 then ins S x.1.2 else if id = x.1.2 then ins S x.1.1 else S
def nbG (E : List ET) (id : Int) : BS := E.foldl (nbI id) 0
theorem gnb_spec {G : Nat → Prop} {N : Nat} (g : GT) (id : Int) (v : Value) (W : World) (h : (Dv (ptE (grE N)) G (some g)).p v W) (hs : g.2.Pairwise fun x y => lt2 x.1 y.1 = true) (hl : g.2.length ≤ 100000) (hN : N ≤ 1000000) :
  Calls Tryz.prog 46 #[v, I id] W (Post (E (setV (nbG g.2 id))) W) := by
 have h0 : (Dv (ptE (grE N)) Go.Mono.G0 (some g)).p v W := Dv.weak h fun b _ hb => hb.elim
 refine enter (args := [v, I id]) (As := [E v, E (I id)]) Tryz.func46 rfl Tryz.ntmps46 (Nat.le_of_ble_eq_true rfl) ?_ (fun a hf => ?_) (Nat.le_of_ble_eq_true rfl)
 rotate_left
 dsimp only [params, Nat.reduceAdd] at hf
 rotate_right
 ·exact arg2 rfl rfl
 have e := Ext.rfl' W
 repeat refine seq ?_
 refine regn0 ?_
 refine tl_alloc I39 hf (by decide) fun a b4 w e' hb4 hs4 B4 hf => ?_
 have hle4 := Nat.le_trans e.size (Nat.le_of_eq hb4.symm)
 replace e := e.tr e'
 refine tl_nil ?_
 repeat refine seq ?_
 refine regn0 ?_
 refine tl_alloc I39 hf (by decide) fun a b5 w e' hb5 hs5 B5 hf => ?_
 have hle5 := Nat.le_trans e.size (Nat.le_of_eq hb5.symm)
 have lt5_B4 := B4.lt
 replace e := e.tr e'
 replace B4 := B4.ext e'
 refine tl_nil ?_
 simp only [Value.cells, zeroC] at B4 B5
 obtain ⟨N0, hN0⟩ : ∃ N0, N0 = w.heap.size := ⟨_, rfl⟩
 have l4 : b4 < N0 := by rw [hN0]; exact B4.lt
 have l5 : b5 < N0 := by rw [hN0]; exact B5.lt
 have hN0' : N0 ≤ w.heap.size := Nat.le_of_eq hN0
 have e0 := e
 repeat refine seq ?_
 refine regn 2 hf (by decide +kernel) ?_
 refine st (mv rfl) ?_
 refine st (call1 (A := OwA etE 56 N0 Go.Mono.G0 g.2) En60 rfl (fun v w he k => by cases k; exact (edges_spec (G := Go.Mono.G0) g _ w (VA.st _ _ _ _ (Ext.tr e0 he) h0) (fun b hb => hb.elim) hs hl hN).mono fun en w' ⟨u, k1, k2, k3⟩ => ⟨u, k1, k2, OwR.low k3 (Nat.le_trans hN0' he.size) fun b hb => hb.elim⟩)) ?_
 refine en fun a w e' hf => ?_
 replace e := e.tr e'
 replace B4 := B4.ext e'
 replace B5 := B5.ext e'
 clear e'
 obtain ⟨u, Ho, hf⟩ := hf.fix 9 rfl
 replace Ho : OwR etE 56 N0 Go.Mono.G0 w g.2 u := Ho
 obtain ⟨NV, hNV⟩ : ∃ NV : Nat → Prop, NV = fun b => u.ownBlock ≠ some b := ⟨_, rfl⟩
 have HD : (Dv (slE etE) NV g.2).p u w := Ho.slN fun b hb => by rw [hNV]; exact fun h => h hb
 obtain ⟨N5, hN5⟩ : ∃ N5, N5 = w.heap.size := ⟨_, rfl⟩
 have nV : ∀ bb, (bb < N0 ∨ N5 ≤ bb) → NV bb := fun bb hb => by rw [hNV]; intro h; have h3 := Ho.lt h; omega
 have hN5s : N5 ≤ w.heap.size := Nat.le_of_eq hN5
 have hNN : N0 ≤ N5 := by rw [hN5]; exact Ho.base
 clear hN5 hNV Ho e0 hN0' hN0
 refine tl_op hf (by decide) (lenD Tryz.underlying53 (isE rfl HD)) fun a w e' hf => ?_
 replace HD := VA.st _ _ _ _ e' HD
 replace hN5s := Nat.le_trans hN5s e'.size
 replace e := e.tr e'
 replace B4 := B4.ext e'
 replace B5 := B5.ext e'
 clear e'
 refine tl_op hf (by decide) (mv rfl) fun a w e' hf => ?_
 replace HD := VA.st _ _ _ _ e' HD
 replace hN5s := Nat.le_trans hN5s e'.size
 replace e := e.tr e'
 replace B4 := B4.ext e'
 replace B5 := B5.ext e'
 refine tl_nil ?_
 replace hf := hf.kp [1, 4, 5, 9, 10, 11]
 repeat refine seq ?_
 refine blk (loopN (fun r0 a w => ∃ (k : Nat) , r0 = g.2.length - k ∧ k ≤ g.2.length ∧ Fr 34 a w [(1, E (I id)), (4, E (.pointer (some ⟨b4, 0, none⟩))), (5, E (.pointer (some ⟨b5, 0, none⟩))), (9, E u), (10, E (I (g.2.length : Nat))), (11, E (I k))] ∧ Ext W w ∧ Blk w b4 (setC 0) 39 ∧ Blk w b5 (setC (nbG (g.2.take k) id)) 39 ∧ (Dv (slE etE) NV g.2).p u w ∧ N5 ≤ w.heap.size) g.2.length ⟨0, rfl, by omega, hf, e, ⟨B4, B5, HD, hN5s⟩⟩ ?_)
 clear hf e; try clear B4; try clear B5; try clear HD; try clear hN5s
 rintro r0 a w ⟨k, rfl, hk, hf, e, B4, B5, HD, hN5s⟩
 repeat refine seq ?_
 refine regn 1 hf (by decide +kernel) ?_
 refine st (lss rfl rfl) ?_
 refine en fun a w e' hf => ?_
 replace HD := VA.st _ _ _ _ e' HD
 replace hN5s := Nat.le_trans hN5s e'.size
 replace e := e.tr e'
 replace B4 := B4.ext e'
 replace B5 := B5.ext e'
 refine tl_nil ?_
 repeat refine seq ?_
 refine ifc hf rfl (fun hc => wskip ?_) (fun hc => wexit ?_)
 rotate_left
 rotate_left
 ·have hlt : k < g.2.length := by have := of_decide_eq_true hc; (try dsimp only at this); omega
  clear hc
  replace hf := hf.kp [1, 4, 5, 9, 10, 11]
  repeat refine seq ?_
  refine blk ?_
  have hg := List.getElem?_eq_getElem hlt
  generalize g.2[k] = y at hg
  have hS : nbG (g.2.take (k + 1)) id = nbI id (nbG (g.2.take k) id) y := by rw [nbG, take_succ_get hg, List.foldl_append]; rfl
  obtain ⟨S, hS0⟩ : ∃ S, S = nbG (g.2.take k) id := ⟨_, rfl⟩
  rw [← hS0] at B5 hS
  repeat refine seq ?_
  refine regn0 ?_
  refine tl_op hf (by decide) (idxD Tryz.underlying53 S56 (isE rfl HD) rfl (by omega) (hg)) fun a w e' hf => ?_
  replace HD := VA.st _ _ _ _ e' HD
  replace hN5s := Nat.le_trans hN5s e'.size
  replace e := e.tr e'
  replace B4 := B4.ext e'
  replace B5 := B5.ext e'
  clear e'
  refine tl_op hf (by decide) (ldEt T56 (isR rfl)) fun a w e' hf => ?_
  replace HD := VA.st _ _ _ _ e' HD
  replace hN5s := Nat.le_trans hN5s e'.size
  replace e := e.tr e'
  replace B4 := B4.ext e'
  replace B5 := B5.ext e'
  clear e'
  refine tl_alloc I56 hf (by decide) fun a b7 w e' hb7 hs7 B7 hf => ?_
  have hle7 := Nat.le_trans e.size (Nat.le_of_eq hb7.symm)
  have lo7_hN5s := Nat.le_trans hN5s (Nat.le_of_eq hb7.symm)
  have lt7_B4 := B4.lt
  have lt7_B5 := B5.lt
  replace HD := VA.st _ _ _ _ e' HD
  replace hN5s := Nat.le_trans hN5s e'.size
  replace e := e.tr e'
  replace B4 := B4.ext e'
  replace B5 := B5.ext e'
  clear e'
  replace hf := hf.kp [1, 4, 5, 7, 9, 10, 11, 14]
  refine tl_stW T56 hf rfl rfl (etV_one y) B7 rfl rfl fun w hg' hsz B7 hf => ?_
  replace e := e.gr hg' (by omega); replace B4 := B4.gr hg' (by omega); replace B5 := B5.gr hg' (by omega); replace HD := Dv.grN HD hg' (fun bb hb => nV bb (by cases hb; omega)); replace hN5s := Nat.le_trans hN5s hg'.size; clear hg'
  refine tl_nil ?_
  replace hf := hf.kp [1, 4, 5, 7, 9, 10, 11]
  repeat refine seq ?_
  refine regn 1 hf (by decide +kernel) ?_
  refine st (mv rfl) ?_
  refine en fun a w e' hf => ?_
  replace HD := VA.st _ _ _ _ e' HD
  replace hN5s := Nat.le_trans hN5s e'.size
  replace e := e.tr e'
  replace B4 := B4.ext e'
  replace B5 := B5.ext e'
  replace B7 := B7.ext e'
  refine tl_nil ?_
  repeat refine seq ?_
  refine blk ?_
  by_cases h1 : id = y.1.1
  ·have hS' : nbI id S y = ins S y.1.2 := by rw [nbI, if_pos h1]
   rw [hS'] at hS
   repeat refine seq ?_
   refine regn 3 hf (by decide +kernel) ?_
   refine st (fldA Tryz.underlying56 rfl T3 (by decide) rfl) ?_
   refine st (ld1 T3 rfl B7 rfl) ?_
   refine st ((eql rfl rfl).eq (congrArg Value.bool (decide_eq_true h1))) ?_
   refine en fun a w e' hf => ?_
   replace HD := VA.st _ _ _ _ e' HD
   replace hN5s := Nat.le_trans hN5s e'.size
   replace e := e.tr e'
   replace B4 := B4.ext e'
   replace B5 := B5.ext e'
   replace B7 := B7.ext e'
   refine tl_as hf rfl (by decide) fun a hf => ?_
   refine tl_nil ?_
   repeat refine seq ?_
   refine ifc hf rfl (fun _ => ?_) (fun h => by cases h)
   repeat refine seq ?_
   refine regn 4 hf (by decide +kernel) ?_
   refine st ((ldW T39 rfl B5 rfl).eq ((rfl : _ = setV S))) ?_
   refine st (fldA Tryz.underlying56 rfl T3 (by decide) rfl) ?_
   refine st (ld1 T3 rfl B7 rfl) ?_
   refine st (call2 (A := E (setV (ins S y.1.2))) En28 rfl rfl (fun v u w he h h' => by cases h; cases h'; exact with_spec S y.1.2 w)) ?_
   refine en fun a w e' hf => ?_
   replace HD := VA.st _ _ _ _ e' HD
   replace hN5s := Nat.le_trans hN5s e'.size
   replace e := e.tr e'
   replace B4 := B4.ext e'
   replace B5 := B5.ext e'
   replace B7 := B7.ext e'
   clear e'
   replace hf := hf.kp [1, 4, 5, 9, 10, 11, 23]
   refine tl_stW T39 hf rfl rfl (wordsC_one _) B5 rfl (setC_size _) fun w hg' hsz B5 hf => ?_
   replace e := e.gr hg' (by omega); replace B4 := B4.gr hg' (by omega); replace HD := Dv.grN HD hg' (fun bb hb => nV bb (by cases hb; omega)); replace hN5s := Nat.le_trans hN5s hg'.size; clear hg' B7
   refine tl_nil ?_
   try simp only [Exit.then, Exit.inBlock, ↓reduceIte]
   repeat refine seq ?_
   refine regn 1 hf (by decide +kernel) ?_
   refine st ((add rfl rfl (by omega)).eq (congrArg (Value.int .i64) (show (k : Int) + 1 = ((k + 1 : Nat) : Int) from rfl))) ?_
   refine en fun a w e' hf => ?_
   replace HD := VA.st _ _ _ _ e' HD
   replace hN5s := Nat.le_trans hN5s e'.size
   replace e := e.tr e'
   replace B4 := B4.ext e'
   replace B5 := B5.ext e'
   clear e'
   refine tl_op hf (by decide) (mv rfl) fun a w e' hf => ?_
   replace HD := VA.st _ _ _ _ e' HD
   replace hN5s := Nat.le_trans hN5s e'.size
   replace e := e.tr e'
   replace B4 := B4.ext e'
   replace B5 := B5.ext e'
   refine tl_nil ?_
   replace hf := hf.kp [1, 4, 5, 9, 10, 11]
   refine ⟨_, ?_, k + 1, rfl, by omega, hf, e, ?_⟩
   ·omega
   rw [hS]
   exact ⟨B4, B5, HD, hN5s⟩
  by_cases h2 : id = y.1.2
  ·have hS' : nbI id S y = ins S y.1.1 := by rw [nbI, if_neg h1, if_pos h2]
   rw [hS'] at hS
   repeat refine seq ?_
   refine regn 3 hf (by decide +kernel) ?_
   refine st (fldA Tryz.underlying56 rfl T3 (by decide) rfl) ?_
   refine st (ld1 T3 rfl B7 rfl) ?_
   refine st ((eql rfl rfl).eq (congrArg Value.bool (decide_eq_false h1))) ?_
   refine en fun a w e' hf => ?_
   replace HD := VA.st _ _ _ _ e' HD
   replace hN5s := Nat.le_trans hN5s e'.size
   replace e := e.tr e'
   replace B4 := B4.ext e'
   replace B5 := B5.ext e'
   replace B7 := B7.ext e'
   refine tl_as hf rfl (by decide) fun a hf => ?_
   refine tl_nil ?_
   repeat refine seq ?_
   refine ifc hf rfl (fun h => by cases h) (fun _ => ?_)
   repeat refine seq ?_
   refine regn 3 hf (by decide +kernel) ?_
   refine st (fldA Tryz.underlying56 rfl T3 (by decide) rfl) ?_
   refine st (ld1 T3 rfl B7 rfl) ?_
   refine st ((eql rfl rfl).eq (congrArg Value.bool (decide_eq_true h2))) ?_
   refine en fun a w e' hf => ?_
   replace HD := VA.st _ _ _ _ e' HD
   replace hN5s := Nat.le_trans hN5s e'.size
   replace e := e.tr e'
   replace B4 := B4.ext e'
   replace B5 := B5.ext e'
   replace B7 := B7.ext e'
   refine tl_as hf rfl (by decide) fun a hf => ?_
   refine tl_nil ?_
   repeat refine seq ?_
   refine ifc hf rfl (fun _ => ?_) (fun h => by cases h)
   repeat refine seq ?_
   refine regn 4 hf (by decide +kernel) ?_
   refine st ((ldW T39 rfl B5 rfl).eq ((rfl : _ = setV S))) ?_
   refine st (fldA Tryz.underlying56 rfl T3 (by decide) rfl) ?_
   refine st (ld1 T3 rfl B7 rfl) ?_
   refine st (call2 (A := E (setV (ins S y.1.1))) En28 rfl rfl (fun v u w he h h' => by cases h; cases h'; exact with_spec S y.1.1 w)) ?_
   refine en fun a w e' hf => ?_
   replace HD := VA.st _ _ _ _ e' HD
   replace hN5s := Nat.le_trans hN5s e'.size
   replace e := e.tr e'
   replace B4 := B4.ext e'
   replace B5 := B5.ext e'
   replace B7 := B7.ext e'
   clear e'
   replace hf := hf.kp [1, 4, 5, 9, 10, 11, 31]
   refine tl_stW T39 hf rfl rfl (wordsC_one _) B5 rfl (setC_size _) fun w hg' hsz B5 hf => ?_
   replace e := e.gr hg' (by omega); replace B4 := B4.gr hg' (by omega); replace HD := Dv.grN HD hg' (fun bb hb => nV bb (by cases hb; omega)); replace hN5s := Nat.le_trans hN5s hg'.size; clear hg' B7
   refine tl_nil ?_
   try simp only [Exit.then, Exit.inBlock, ↓reduceIte]
   repeat refine seq ?_
   refine regn 1 hf (by decide +kernel) ?_
   refine st ((add rfl rfl (by omega)).eq (congrArg (Value.int .i64) (show (k : Int) + 1 = ((k + 1 : Nat) : Int) from rfl))) ?_
   refine en fun a w e' hf => ?_
   replace HD := VA.st _ _ _ _ e' HD
   replace hN5s := Nat.le_trans hN5s e'.size
   replace e := e.tr e'
   replace B4 := B4.ext e'
   replace B5 := B5.ext e'
   clear e'
   refine tl_op hf (by decide) (mv rfl) fun a w e' hf => ?_
   replace HD := VA.st _ _ _ _ e' HD
   replace hN5s := Nat.le_trans hN5s e'.size
   replace e := e.tr e'
   replace B4 := B4.ext e'
   replace B5 := B5.ext e'
   refine tl_nil ?_
   replace hf := hf.kp [1, 4, 5, 9, 10, 11]
   refine ⟨_, ?_, k + 1, rfl, by omega, hf, e, ?_⟩
   ·omega
   rw [hS]
   exact ⟨B4, B5, HD, hN5s⟩
  ·have hS' : nbI id S y = S := by rw [nbI, if_neg h1, if_neg h2]
   rw [hS'] at hS
   repeat refine seq ?_
   refine regn 3 hf (by decide +kernel) ?_
   refine st (fldA Tryz.underlying56 rfl T3 (by decide) rfl) ?_
   refine st (ld1 T3 rfl B7 rfl) ?_
   refine st ((eql rfl rfl).eq (congrArg Value.bool (decide_eq_false h1))) ?_
   refine en fun a w e' hf => ?_
   replace HD := VA.st _ _ _ _ e' HD
   replace hN5s := Nat.le_trans hN5s e'.size
   replace e := e.tr e'
   replace B4 := B4.ext e'
   replace B5 := B5.ext e'
   replace B7 := B7.ext e'
   refine tl_as hf rfl (by decide) fun a hf => ?_
   refine tl_nil ?_
   repeat refine seq ?_
   refine ifc hf rfl (fun h => by cases h) (fun _ => ?_)
   repeat refine seq ?_
   refine regn 3 hf (by decide +kernel) ?_
   refine st (fldA Tryz.underlying56 rfl T3 (by decide) rfl) ?_
   refine st (ld1 T3 rfl B7 rfl) ?_
   refine st ((eql rfl rfl).eq (congrArg Value.bool (decide_eq_false h2))) ?_
   refine en fun a w e' hf => ?_
   replace HD := VA.st _ _ _ _ e' HD
   replace hN5s := Nat.le_trans hN5s e'.size
   replace e := e.tr e'
   replace B4 := B4.ext e'
   replace B5 := B5.ext e'
   replace B7 := B7.ext e'
   refine tl_as hf rfl (by decide) fun a hf => ?_
   refine tl_nil ?_
   repeat refine seq ?_
   refine ifc hf rfl (fun h => by cases h) (fun _ => ?_)
   refine wskip ?_
   try simp only [Exit.then, Exit.inBlock, ↓reduceIte]
   clear B7
   try simp only [Exit.then, Exit.inBlock, ↓reduceIte]
   repeat refine seq ?_
   refine regn 1 hf (by decide +kernel) ?_
   refine st ((add rfl rfl (by omega)).eq (congrArg (Value.int .i64) (show (k : Int) + 1 = ((k + 1 : Nat) : Int) from rfl))) ?_
   refine en fun a w e' hf => ?_
   replace HD := VA.st _ _ _ _ e' HD
   replace hN5s := Nat.le_trans hN5s e'.size
   replace e := e.tr e'
   replace B4 := B4.ext e'
   replace B5 := B5.ext e'
   clear e'
   refine tl_op hf (by decide) (mv rfl) fun a w e' hf => ?_
   replace HD := VA.st _ _ _ _ e' HD
   replace hN5s := Nat.le_trans hN5s e'.size
   replace e := e.tr e'
   replace B4 := B4.ext e'
   replace B5 := B5.ext e'
   refine tl_nil ?_
   replace hf := hf.kp [1, 4, 5, 9, 10, 11]
   refine ⟨_, ?_, k + 1, rfl, by omega, hf, e, ?_⟩
   ·omega
   rw [hS]
   exact ⟨B4, B5, HD, hN5s⟩
 ·obtain rfl : k = g.2.length := by have := of_decide_eq_false hc; (try dsimp only at this); omega
  clear hc
  simp only [Exit.then, Exit.inBlock, ↓reduceIte]
  rw [List.take_length] at B5
  replace hf := hf.kp [4, 5]
  repeat refine seq ?_
  refine regn 1 hf (by decide +kernel) ?_
  refine st ((ldW T39 rfl B5 rfl).eq ((rfl : _ = setV (nbG g.2 id)))) ?_
  refine en fun a w e' hf => ?_
  replace HD := VA.st _ _ _ _ e' HD
  replace hN5s := Nat.le_trans hN5s e'.size
  replace e := e.tr e'
  replace B4 := B4.ext e'
  replace B5 := B5.ext e'
  clear e'
  haveI hinr : ∀ G0, InR (GB W G0) (some b4) := fun G0 => InR.gb (by omega)
  refine tl_stW T39 hf rfl rfl (wordsC_one _) B4 rfl (rfl) fun w hg hsz B4 hf => ?_
  replace HD := Dv.grN HD hg (fun bb hb => nV bb (by cases hb; omega))
  replace hN5s := Nat.le_trans hN5s hg.size
  replace e := e.gr hg (by omega)
  replace B5 := B5.gr hg (by omega)
  clear hg
  refine tl_nil ?_
  refine wret (retc rfl T39 hf rfl B4 (setC_size _) ?_)
  exact ⟨_, rfl, e, rfl⟩
end Go.Mono

namespace Go.Mono
open Go Go.Proofs Go.RowKit Go.Gr
def nbL (g : GT) (s : List Nat) : List (Int × BS) := s.map fun n : Nat => ((n : Int), nbG g.2 (n : Int))
theorem nbL_put {g : GT} {s : List Nat} {x : Nat} (hx : x ∉ s) : (putP (nbL g s) (x : Int) (nbG g.2 x)).Perm (nbL g (s ++ [x])) := by
 have hf : (nbL g s).filter (fun p => !decide (p.1 = (x : Int))) = nbL g s := by
  rw [List.filter_eq_self]
  intro p hp
  obtain ⟨n, hn, rfl⟩ := List.mem_map.1 hp
  have : n ≠ x := fun e => hx (by rw [← e]; exact hn)
  simp; omega
 rw [putP, hf, nbL, nbL, List.map_append]
 exact List.perm_append_comm (l₁ := [((x : Int), nbG g.2 x)])
structure NJ (W : World) (g : GT) (v : Value) (b1 b3 bm : Nat) (s : List Nat) (w : World) : Prop where
 e : Ext W w
 t : Tab w
 p1 : Blk w b1 #[v] 27
 p3 : Blk w b3 #[.map (some bm)] 66
 m : MpR sKV w bm s.length (nbL g s)
theorem NJ.kp {W : World} {g : GT} {v : Value} {b1 b3 bm : Nat} {s : List Nat} {B : Nat} {w w' : World} (h : NJ W g v b1 b3 bm s w) (k : Kp B w w') (hW : W.heap.size ≤ B) (h0 : 0 < B) (l1 : b1 < B) (l3 : b3 < B) (lm : bm < B) : NJ W g v b1 b3 bm s w' :=
 ⟨h.e.kp k hW, h.t.kp k h0, h.p1.kp k (fun hh => by have := hh.1; omega), h.p3.kp k (fun hh => by have := hh.1; omega), h.m.pres (k.same bm h.m.lt (fun hh => by have := hh.1; omega))⟩
theorem near_spec {G : Nat → Prop} {N : Nat} (g : GT) (v : Value) (W : World) (hT : Tab W) (h : (Dv (ptE (grE N)) G (some g)).p v W) (gs1 : g.1.Pairwise fun x y => lt1 x.1 y.1 = true) (gs2 : g.2.Pairwise fun x y => lt2 x.1 y.1 = true) (hl1 : g.1.length ≤ 100000) (hl2 : g.2.length ≤ 100000) (hN : N ≤ 1000000) :
  Calls Tryz.prog 21 #[v] W (Post (Dv (mpE sKV 1024) Go.Mono.G0 (nbL g (elems (vset g.1)))) W) := by
 have hv : (Dv (ptE (grE N)) Go.Mono.G0 (some g)).p v W := Dv.weak h fun b _ hb => hb.elim
 have hT0 := hT.lt
 have h1c : v.cells = #[v] := by
  obtain ⟨ad, rfl, _⟩ := Dv.pt.1 hv
  rfl
 refine enterM (args := [v]) (As := [E v]) Tryz.func21 rfl Tryz.ntmps21 (Nat.le_of_ble_eq_true rfl) ?_ (fun a hf => ?_) (Nat.le_of_ble_eq_true rfl)
 ·exact arg1 rfl
 dsimp only [params, Nat.reduceAdd] at hf
 have e := Ext.rfl' W
 repeat refine seq ?_
 refine regn0 ?_
 refine tl_box hf rfl (by decide) fun a b1 w v1 hv1 e' hb1 hs1 B1 hf => ?_
 have hle1 := Nat.le_trans e.size (Nat.le_of_eq hb1.symm)
 replace hT := hT.ext e'
 replace e := e.tr e'
 refine tl_as hf rfl (by decide) fun a hf => ?_
 refine tl_nil ?_
 cases hv1
 rw [h1c] at B1
 replace hf := hf.kp [1]
 repeat refine seq ?_
 refine regn0 ?_
 refine tl_mkV sKV hf (by decide) fun a bm w e' hbm hsm HM hf => ?_
 replace e := e.tr e'
 replace hT := hT.ext e'
 replace B1 := B1.ext e'
 clear e'
 have lm := HM.lt
 have hWm : W.heap.size ≤ bm := by have := e.size; omega
 refine tl_alloc I66 hf (by decide) fun a b3 w e' hb3 hs3 B3 hf => ?_
 have hle3 := Nat.le_trans e.size (Nat.le_of_eq hb3.symm)
 have lt3_B1 := B1.lt
 replace hT := hT.ext e'
 replace HM := HM.ext e'
 replace e := e.tr e'
 replace B1 := B1.ext e'
 clear e'
 haveI hinr : ∀ G0, InR (GB W G0) (some b3) := fun G0 => InR.gb (by omega)
 refine tl_st1 T66 hf rfl rfl rfl B3 (by decide) fun w hg hsz B3 hf => ?_
 replace hT := hT.gr hg (by omega)
 replace HM := HM.gr hg (fun h => by cases h; omega)
 replace e := e.gr hg (by omega)
 replace B1 := B1.gr hg (by omega)
 clear hg
 refine tl_nil ?_
 replace hf := hf.kp [1, 3]
 obtain ⟨Nz, hNz⟩ : ∃ Nz, Nz = w.heap.size := ⟨_, rfl⟩
 have e0 := e
 have l1 := B1.lt
 have l3 := B3.lt
 have lm2 := HM.lt
 have n3 : b1 ≠ bm ∧ b3 ≠ bm ∧ b3 ≠ b1 ∧ W.heap.size ≤ b1 ∧ W.heap.size ≤ b3 := by omega
 obtain ⟨S, hS⟩ : ∃ S, S = vset g.1 := ⟨_, rfl⟩
 repeat refine seq ?_
 refine regn 3 hf (by decide +kernel) ?_
 refine st (ld1 (v := v) T27 rfl B1 rfl) ?_
 refine st (call1 (A := E (setV S)) En22 rfl (fun v w he k => by cases k; rw [hS]; exact vertexSet_spec g _ w (VA.st _ _ _ _ (Ext.tr e0 he) hv) gs1 hl1 hN)) ?_
 refine st (call1 (A := SeqA Nz S) En25 rfl (fun v w' he h => by cases h; exact Calls.mono (all_spec _ w') (fun en w2 ⟨u, h1, h2, b', h3, h4, h5⟩ => ⟨u, h1, h2, b', by have := he.size; omega, h4, h5⟩))) ?_
 refine en fun a w e' hf => ?_
 replace HM := HM.ext e'
 replace hT := hT.ext e'
 replace e := e.tr e'
 replace B1 := B1.ext e'
 replace B3 := B3.ext e'
 refine tl_nil ?_
 obtain ⟨v8, ⟨b8, h8, rfl, BS⟩, hf⟩ := hf.fix 8 rfl
 replace hf := hf.kp [1, 3, 8]
 have hBW : W.heap.size ≤ w.heap.size := e.size
 have h0w : 0 < w.heap.size := hT.lt
 have l1' := B1.lt
 have l3' := B3.lt
 have lm' := HM.lt
 repeat refine seq ?_
 refine blk ?_
 refine range_all3 (S := S) hf rfl BS (by decide) (fun s w1 => NJ W g v b1 b3 bm s w1) (fun _ _ => False) (fun s w1 h => h.t)
  ⟨e, hT, B1, B3, HM⟩ (fun s w1 w2 h hs k => h.kp k hBW h0w l1' l3' lm') (fun _ _ _ h => h.elim) ?_ ?_ (fun _ _ _ _ _ _ h => h.elim)
 ·intro l s x rest a1 w1 hs hJ hlw hf
  have hx1024 : x < 1024 := (mem_elems.1 (by rw [hs]; simp)).1
  have hxs : x ∉ s := by
   have hn : (elems S).Nodup := List.Nodup.sublist List.filter_sublist List.nodup_range
   rw [hs] at hn
   intro hx
   exact (List.nodup_append.1 hn).2.2 x hx x (by simp) rfl
  have hsl : s.length ≤ 1024 := by have := elems_len S; rw [hs] at this; simp at this; omega
  generalize hBz : w.heap.size = Bz at *
  refine regn0 ?_
  refine tl_as hf rfl (by decide) fun a hf => ?_
  refine tl_nil ?_
  simp only [Exit.then]
  refine ⟨Kh.rfl' _ _, fun w3 k3 hsz3 => ?_⟩
  have hJ3 := hJ.kp k3 hBW h0w l1' l3' lm'
  clear e hT B1 B3 HM BS
  replace hf := hf.pure w3
  obtain ⟨e, hT, B1, B3, HM⟩ := hJ3
  have kh := Kh.rfl' Bz w3
  have e0 := e
  replace hf := hf.kp [1, 3, 4]
  repeat refine seq ?_
  refine blk ?_
  repeat refine seq ?_
  refine reg 5 Mix.mix hf (by decide +kernel) ?_
  refine st (ld1 (v := .map (some bm)) T66 rfl B3 rfl) ?_
  refine st (mv rfl) ?_
  refine st (ld1 (v := v) T27 rfl B1 rfl) ?_
  refine st (mv rfl) ?_
  refine st (call2 (A := E (setV (nbG g.2 (x : Int)))) En46 rfl rfl (fun v u w he k1 k2 => by cases k1; cases k2; exact gnb_spec g _ _ w (VA.st _ _ _ _ (Ext.tr e0 he) hv) gs2 hl2 hN)) ?_
  refine en fun a w e' hf => ?_
  replace HM := HM.ext e'
  replace hT := hT.ext e'
  replace kh := kh.tr (Kh.ext e')
  replace e := e.tr e'
  replace B1 := B1.ext e'
  replace B3 := B3.ext e'
  clear e'
  refine tl_mputV (V := sKV) (i := (x : Int)) (c := nbG g.2 (x : Int)) Tryz.underlying66 hf rfl rfl rfl HM (by simp only [maxLen]; omega) (wf64 (by omega) (by omega)) trivial fun w hg HM hf => ?_
  replace e := e.gr hg (by omega); replace hT := hT.gr hg (by omega); replace B1 := B1.gr hg (by omega); replace B3 := B3.gr hg (by omega)
  replace kh := kh.tr (Kh.gr hg (fun hh => by have := hh.1; omega))
  clear hg
  refine tl_nil ?_
  simp only [Exit.inBlock]
  exact ⟨⟨e, hT, B1, B3, by rw [List.length_append]; exact HM.perm (nbL_put hxs)⟩, kh⟩
 ·intro a' w' hf' hJ hsz hDn
  simp only [Exit.inBlock, ↓reduceIte, Exit.then]
  have hD : Ds [w.heap.size] w' := (Ds.nil w').cons hDn (by simp)
  have hf : FrD 16 (marks [w.heap.size]) a' w' [(1, E (.pointer (some ⟨b1, 0, none⟩))), (3, E (.pointer (some ⟨b3, 0, none⟩)))] := hf'.keep [1, 3]
  have hDW : ∀ d ∈ [w.heap.size], W.heap.size ≤ d := fun d hd => by rw [List.mem_singleton] at hd; omega
  clear hf' e hT B1 B3 HM BS hDn
  obtain ⟨e, hT, B1, B3, HM⟩ := hJ
  have hbD : ¬ bm ∈ [w.heap.size] := fun h => by rw [List.mem_singleton] at h; omega
  generalize [w.heap.size] = D2 at *
  generalize w' = w at *
  repeat refine seq ?_
  refine regn 1 hf (by decide +kernel) ?_
  refine st (ld1 (v := .map (some bm)) T66 rfl B3 rfl) ?_
  refine en fun a w e' hf => ?_
  replace HM := HM.ext e'
  replace e := e.tr e'
  replace B1 := B1.ext e'
  replace B3 := B3.ext e'
  replace hD := hD.ext e'
  refine tl_as hf rfl (by decide) fun a hf => ?_
  refine tl_nil ?_
  refine wret ?_
  try simp only [Exit.then, Exit.inBlock]
  refine ret1M rfl hf rfl hD ⟨_, rfl, e.shut hDW, ?_⟩
  rw [← hS]
  exact ⟨[.map (some bm)], ⟨bm, _, rfl, fun h => h.elim, elems_len S, HM.pres (shut_heap D2 w bm hbD)⟩, rfl⟩
end Go.Mono

namespace Go.Mono
open Go Go.Proofs Go.RowKit Go.Gr

def rchG (g : GT) (th : BS) (x : Int) : BS := if has (vset g.1) x = false then 0 else if has th x = true then 0 else reB (lkS (nbL g (elems (vset g.1)))) th x
theorem reachable_spec {G : Nat → Prop} {N : Nat} (g : GT) (th : BS) (x : Int) (v : Value) (W : World) (hT : Tab W) (h : (Dv (ptE (grE N)) G (some g)).p v W) (gs1 : g.1.Pairwise fun x y => lt1 x.1 y.1 = true) (gs2 : g.2.Pairwise fun x y => lt2 x.1 y.1 = true) (hl1 : g.1.length ≤ 100000) (hl2 : g.2.length ≤ 100000) (hN : N ≤ 1000000) :
  Calls Tryz.prog 19 #[v, setV th, I x] W (Post (E (setV (rchG g th x))) W) := by
 have hT0 := hT.lt
 refine enter (args := [v, setV th, I x]) (As := [Dv (ptE (grE N)) (GB W Go.Mono.G0) (some g), E (setV th), E (I x)]) Tryz.func19 rfl Tryz.ntmps19 (Nat.le_of_ble_eq_true rfl) ?_ (fun a hf => ?_) (Nat.le_of_ble_eq_true rfl)
 rotate_left
 dsimp only [params, Nat.reduceAdd] at hf
 rotate_right
 ·exact arg3 (Dv.toB (Dv.weak h fun b _ hb => hb.elim)) rfl rfl
 have e := Ext.rfl' W
 repeat refine seq ?_
 refine regn0 ?_
 refine tl_box hf rfl (by decide) fun a b4 w v4 hv4 e' hb4 hs4 B4 hf => ?_
 have hle4 := Nat.le_trans e.size (Nat.le_of_eq hb4.symm)
 replace hT := hT.ext e'
 replace e := e.tr e'
 clear e'
 refine tl_alloc I39 hf (by decide) fun a b6 w e' hb6 hs6 B6 hf => ?_
 have hle6 := Nat.le_trans e.size (Nat.le_of_eq hb6.symm)
 have lt6_B4 := B4.lt
 replace hT := hT.ext e'
 replace e := e.tr e'
 replace B4 := B4.ext e'
 refine tl_nil ?_
 cases hv4
 replace B4 : Blk w b4 (setC th) 39 := B4
 simp only [Value.cells, zeroC] at B6
 replace hf := hf.kp [0, 2, 4, 6]
 haveI i6 : ∀ G0, InR (GB W G0) (some b6) := fun G0 => InR.gb (by omega)
 cases h1 : has (vset g.1) x with
 | false =>
  have hr : rchG g th x = 0 := by rw [rchG, if_pos h1]
  repeat refine seq ?_
  refine regn 14 hf (by decide +kernel) ?_
  refine st (mv rfl) ?_
  refine st (eqlP Tryz.underlying27 (isR rfl)) ?_
  refine st (mv rfl) ?_
  refine sy rfl rfl (mv rfl) ?_
  refine sy rfl rfl (call1 (A := E (setV (vset g.1))) En22 rfl (fun v w he k => vertexSet_spec g v w k gs1 hl1 hN)) ?_
  refine sy rfl rfl (mv rfl) ?_
  refine sy rfl rfl ((call2 (A := E (B (has (vset g.1) x))) En33 rfl rfl (fun v u w he h h' => by cases h; cases h'; exact has_spec (vset g.1) x w)).eq (congrArg Value.bool (h1))) ?_
  refine sy rfl rfl (notp rfl) ?_
  refine st (pkF rfl rfl) ?_
  refine st (mv rfl) ?_
  refine sn rfl rfl rfl ?_
  refine sn rfl rfl rfl ?_
  refine sn rfl rfl rfl ?_
  refine st (pkT rfl rfl) ?_
  refine en fun a w e' hf => ?_
  replace hT := hT.ext e'
  replace e := e.tr e'
  replace B4 := B4.ext e'
  replace B6 := B6.ext e'
  refine tl_nil ?_
  repeat refine seq ?_
  refine ifc hf rfl (fun _ => ?_) (fun h => by cases h)
  repeat refine seq ?_
  refine regn 1 hf (by decide +kernel) ?_
  refine st (bldV [] rfl bS_0) ?_
  refine en fun a w e' hf => ?_
  replace hT := hT.ext e'
  replace e := e.tr e'
  replace B4 := B4.ext e'
  replace B6 := B6.ext e'
  clear e'
  refine tl_stW T39 hf rfl rfl (wordsC_one _) B6 rfl (setC_size _) fun w hg hsz B6 hf => ?_
  replace e := e.gr hg (by omega); clear hg
  refine tl_nil ?_
  refine wret ?_
  try simp only [Exit.then, Exit.inBlock]
  refine retc rfl T39 hf rfl B6 (setC_size _) ?_
  exact ⟨_, rfl, e, by rw [hr]; rfl⟩
 | true =>
  cases h2 : has th x with
  | true =>
   have hr : rchG g th x = 0 := by rw [rchG, if_neg (by rw [h1]; decide), if_pos h2]
   repeat refine seq ?_
   refine regn 14 hf (by decide +kernel) ?_
   refine st (mv rfl) ?_
   refine st (eqlP Tryz.underlying27 (isR rfl)) ?_
   refine st (mv rfl) ?_
   refine sy rfl rfl (mv rfl) ?_
   refine sy rfl rfl (call1 (A := E (setV (vset g.1))) En22 rfl (fun v w he k => vertexSet_spec g v w k gs1 hl1 hN)) ?_
   refine sy rfl rfl (mv rfl) ?_
   refine sy rfl rfl ((call2 (A := E (B (has (vset g.1) x))) En33 rfl rfl (fun v u w he h h' => by cases h; cases h'; exact has_spec (vset g.1) x w)).eq (congrArg Value.bool (h1))) ?_
   refine sy rfl rfl (notp rfl) ?_
   refine st (pkF rfl rfl) ?_
   refine st (mv rfl) ?_
   refine sy rfl rfl ((ldW T39 rfl B4 rfl).eq ((rfl : _ = setV th))) ?_
   refine sy rfl rfl (mv rfl) ?_
   refine sy rfl rfl ((call2 (A := E (B (has th x))) En33 rfl rfl (fun v u w he h h' => by cases h; cases h'; exact has_spec th x w)).eq (congrArg Value.bool (h2))) ?_
   refine st (pkF rfl rfl) ?_
   refine en fun a w e' hf => ?_
   replace hT := hT.ext e'
   replace e := e.tr e'
   replace B4 := B4.ext e'
   replace B6 := B6.ext e'
   refine tl_nil ?_
   repeat refine seq ?_
   refine ifc hf rfl (fun _ => ?_) (fun h => by cases h)
   repeat refine seq ?_
   refine regn 1 hf (by decide +kernel) ?_
   refine st (bldV [] rfl bS_0) ?_
   refine en fun a w e' hf => ?_
   replace hT := hT.ext e'
   replace e := e.tr e'
   replace B4 := B4.ext e'
   replace B6 := B6.ext e'
   clear e'
   refine tl_stW T39 hf rfl rfl (wordsC_one _) B6 rfl (setC_size _) fun w hg hsz B6 hf => ?_
   replace e := e.gr hg (by omega); clear hg
   refine tl_nil ?_
   refine wret ?_
   try simp only [Exit.then, Exit.inBlock]
   refine retc rfl T39 hf rfl B6 (setC_size _) ?_
   exact ⟨_, rfl, e, by rw [hr]; rfl⟩
  | false =>
   have hr : rchG g th x = reB (lkS (nbL g (elems (vset g.1)))) th x := by rw [rchG, if_neg (by rw [h1]; decide), if_neg (by rw [h2]; decide)]
   have hx : (Lit.int .i64 x).wf = true := by
    rw [has, Bool.and_eq_true] at h1
    have := fitsB_iff.1 h1.1
    exact wf64 (by omega) (by omega)
   repeat refine seq ?_
   refine regn 14 hf (by decide +kernel) ?_
   refine st (mv rfl) ?_
   refine st (eqlP Tryz.underlying27 (isR rfl)) ?_
   refine st (mv rfl) ?_
   refine sy rfl rfl (mv rfl) ?_
   refine sy rfl rfl (call1 (A := E (setV (vset g.1))) En22 rfl (fun v w he k => vertexSet_spec g v w k gs1 hl1 hN)) ?_
   refine sy rfl rfl (mv rfl) ?_
   refine sy rfl rfl ((call2 (A := E (B (has (vset g.1) x))) En33 rfl rfl (fun v u w he h h' => by cases h; cases h'; exact has_spec (vset g.1) x w)).eq (congrArg Value.bool (h1))) ?_
   refine sy rfl rfl (notp rfl) ?_
   refine st (pkF rfl rfl) ?_
   refine st (mv rfl) ?_
   refine sy rfl rfl ((ldW T39 rfl B4 rfl).eq ((rfl : _ = setV th))) ?_
   refine sy rfl rfl (mv rfl) ?_
   refine sy rfl rfl ((call2 (A := E (B (has th x))) En33 rfl rfl (fun v u w he h h' => by cases h; cases h'; exact has_spec th x w)).eq (congrArg Value.bool (h2))) ?_
   refine st (pkF rfl rfl) ?_
   refine en fun a w e' hf => ?_
   replace hT := hT.ext e'
   replace e := e.tr e'
   replace B4 := B4.ext e'
   replace B6 := B6.ext e'
   refine tl_nil ?_
   repeat refine seq ?_
   refine ifc hf rfl (fun h => by cases h) (fun _ => ?_)
   refine wskip ?_
   try simp only [Exit.then, Exit.inBlock, ↓reduceIte]
   replace hf := hf.kp [0, 2, 4, 6]
   have e0 := e
   repeat refine seq ?_
   refine regJ 6 [0, 0, 0, 0, 0] (Chg fun c => c = b6) (RelJ.one _) (fun w => ∃ cs, Blk w b6 cs 39 ∧ (E (setV (rchG g th x))).p (.agg cs) w) (fun w w1 k h => h.imp fun cs h => ⟨h.1.ext k, h.2⟩) Mix.mix hf (by decide +kernel) (by decide +kernel) ?_
   refine ja (mv rfl) ?_
   refine ja (call1 (A := Dv (mpE sKV 1024) Go.Mono.G0 (nbL g (elems (vset g.1)))) En21 rfl (fun v w he k => near_spec g v w (hT.ext he) k gs1 gs2 hl1 hl2 hN)) ?_
   refine ja ((ldW T39 rfl B4 rfl).eq ((rfl : _ = setV th))) ?_
   refine ja (mv rfl) ?_
   refine ja (call3 (A := E (setV (rchG g th x))) En26 rfl rfl rfl (fun v u s w he h h' h'' => by cases h'; cases h''; rw [hr]; exact reach_spec _ th x v w (hT.ext he) h hx)) ?_
   refine jx (xstB T39 rfl B6 (setC_size _) rfl (fun v w hv => ⟨_, hv, setC_size _, wordsC_one _⟩) (fun v w w' hc hv => hv)) ?_
   refine je ?_
   refine fun a w hc HF hf => ?_
   try dsimp only [push] at hf
   obtain ⟨cs, B6, hcs⟩ := HF
   cases hcs
   replace e := e.ch hc (fun b hb => by rw [hb]; omega)
   clear hc
   refine tl_nil ?_
   refine wret ?_
   try simp only [Exit.then, Exit.inBlock]
   refine retc rfl T39 hf rfl B6 (setC_size _) ?_
   exact ⟨_, rfl, e, rfl⟩
end Go.Mono

namespace Go.Mono
open Go Go.Proofs Go.RowKit Go.Gr

theorem OwR.neDs {α : Type} {e : Enc α} {ty : TypeId} {B : Nat} {G : Nat → Prop} {w : World} {xs : List α} {u : Value} (h : OwR e ty B G w xs u) {D : List Nat} (hD : Ds D w) {d : Nat} (hd : d ∈ D) : u.ownBlock ≠ some d := fun hu => by
 obtain ⟨cs, h1, _⟩ := h.own
 rcases h1.2 with ⟨rfl, _⟩ | ⟨g', cap, cur, rfl, _, hg, _⟩
 ·simp [Value.ownBlock] at hu
 ·simp only [Value.ownBlock, Option.some.injEq] at hu
  subst hu
  exact hD.ne (show Blk w g' cur ty from hg) hd
theorem ret3M {fn : Func} {t u s : Nat} {R : Ending → World → Prop} {n : Nat} {a : Act} {w : World} {v x y : Value} {L : Env} {D : List Nat} (hr : fn.results = #[.tmp t, .tmp u, .tmp s]) (hf : FrD n (marks D) a w L) (h : look L t = some (E v)) (h' : look L u = some (E x)) (h'' : look L s = some (E y))
  (hD : Ds D w) (hR : R (.returned (.tuple #[v, x, y])) (shut D w)) : bodyPostM (FW none) 0 Tryz.prog fn R .ret a w := by
 have hv : a.eval (.tmp t) = v := hf.val t _ h
 have hx : a.eval (.tmp u) = x := hf.val u _ h'
 have hy : a.eval (.tmp s) = y := hf.val s _ h''
 show LeavesInM _ _ _ _ _ _ _ _ _
 rw [hf.defers]
 refine leaves D w hD ?_ hR
 rw [← hv, ← hx, ← hy]
 simp [results, hr, Act.eval]
theorem Chg.row {w w' : World} {row : Option Nat} (hg : w.grownBy w' row) : Chg (fun b => row = some b) w w' := ⟨hg.os, hg.tape, hg.output, hg.size, fun b hb hn => hg.block b hb fun he => hn he.symm⟩
theorem grF_len {nb : Int → BS} {all : BS} {W : Int} : ∀ (f : Nat) (S : BS), (grF nb all W f S).length ≤ f := by
 intro f
 induction f with
 | zero => intro S; exact Nat.le_refl _
 | succ f ih =>
  intro S
  cases hq : nxt nb all W S with
  | none => rw [grF_none hq]; exact Nat.zero_le _
  | some v => rw [grF_some hq, List.length_cons]; have := ih (ins S (v : Int)); omega
structure WC (W : World) (N : Nat) (l0 : List (Int × BS)) (all : BS) (wd : Int) (b1 b2 b3 b4 bm : Nat) (nv : Value) (b6 b7 b8 b9 : Nat) (nv6 : Value) (w : World) : Prop where
 e : Ext W w
 r : RC (fun b => b = bm ∨ N ≤ b) l0 all b1 b2 b3 b4 bm nv w
 m : Mm (lkS l0) all bm w
 nd : (Dv (mpE sKV 1024) (fun b => b = bm ∨ N ≤ b) l0).p nv6 w
 p6 : Blk w b6 #[nv6] 66
 p7 : Blk w b7 (setC all) 39
 p8 : Blk w b8 #[restV b1 b2 b3 b4] 69
 p9 : Blk w b9 #[I wd] 3
 ne : W.heap.size ≤ bm ∧ W.heap.size ≤ N ∧ bm < N ∧ (b1 < N ∧ b2 < N ∧ b3 < N ∧ b4 < N) ∧ (b6 < N ∧ b7 < N ∧ b8 < N ∧ b9 < N) ∧ b6 ≠ bm ∧ b7 ≠ bm ∧ b8 ≠ bm ∧ b9 ≠ bm
section
variable {W : World} {N : Nat} {l0 : List (Int × BS)} {all : BS} {wd : Int} {b1 b2 b3 b4 bm : Nat} {nv : Value} {b6 b7 b8 b9 : Nat} {nv6 : Value} {w w' : World}
theorem RC.chN {G : Nat → Prop} (h : RC G l0 all b1 b2 b3 b4 bm nv w) {S : Nat → Prop} (c : Chg S w w') (hG : ∀ b, S b → G b) (hb : ¬S 0 ∧ ¬S b1 ∧ ¬S b2 ∧ ¬S b3 ∧ ¬S b4) : RC G l0 all b1 b2 b3 b4 bm nv w' :=
 ⟨h.t.ch c hb.1, h.k.ch c hb.2.1, h.a.ch c hb.2.2.1, h.n.ch c hb.2.2.2.1, h.o.ch c hb.2.2.2.2, Dv.ch h.nd c hG, h.g, h.ne⟩
theorem WC.chN (h : WC W N l0 all wd b1 b2 b3 b4 bm nv b6 b7 b8 b9 nv6 w) (c : Chg (fun b => N ≤ b) w w') : WC W N l0 all wd b1 b2 b3 b4 bm nv b6 b7 b8 b9 nv6 w' := by
 obtain ⟨n1, n2, n3, n4, n5, n6⟩ := h.ne
 exact ⟨h.e.ch c (fun b hb => by omega), h.r.chN c (fun b hb => .inr hb) ⟨by omega, by omega, by omega, by omega, by omega⟩, h.m.pres (c.block _ h.m.lt (by omega)), Dv.ch h.nd c (fun b hb => .inr hb), h.p6.ch c (by omega), h.p7.ch c (by omega), h.p8.ch c (by omega), h.p9.ch c (by omega), h.ne⟩
theorem WC.ch (h : WC W N l0 all wd b1 b2 b3 b4 bm nv b6 b7 b8 b9 nv6 w) (c : Chg (fun b => b = bm) w w') (hm : Mm (lkS l0) all bm w') : WC W N l0 all wd b1 b2 b3 b4 bm nv b6 b7 b8 b9 nv6 w' := by
 obtain ⟨n1, n2, n3, n4, n5, n6⟩ := h.ne
 exact ⟨h.e.ch c (fun b hb => by omega), h.r.ch c, hm, Dv.ch h.nd c (fun b hb => .inl hb), h.p6.ch c (by omega), h.p7.ch c (by omega), h.p8.ch c (by omega), h.p9.ch c (by omega), h.ne⟩
theorem WC.ext (h : WC W N l0 all wd b1 b2 b3 b4 bm nv b6 b7 b8 b9 nv6 w) (e : Ext w w') : WC W N l0 all wd b1 b2 b3 b4 bm nv b6 b7 b8 b9 nv6 w' := h.chN (e.chg _)
theorem WC.gro (h : WC W N l0 all wd b1 b2 b3 b4 bm nv b6 b7 b8 b9 nv6 w) {row : Option Nat} (hg : w.grownBy w' row) (hr : ∀ b, row = some b → N ≤ b) : WC W N l0 all wd b1 b2 b3 b4 bm nv b6 b7 b8 b9 nv6 w' :=
 h.chN ⟨hg.os, hg.tape, hg.output, hg.size, fun b hb hn => hg.block b hb fun he => hn (hr b he.symm)⟩
theorem WC.gr (h : WC W N l0 all wd b1 b2 b3 b4 bm nv b6 b7 b8 b9 nv6 w) {b : Nat} (hg : w.grownBy w' (some b)) (hb : N ≤ b) : WC W N l0 all wd b1 b2 b3 b4 bm nv b6 b7 b8 b9 nv6 w' := h.gro hg fun c hc => by cases hc; exact hb
theorem WC.kp {B : Nat} (h : WC W N l0 all wd b1 b2 b3 b4 bm nv b6 b7 b8 b9 nv6 w) (k : Kp B w w') (hB : N ≤ B) : WC W N l0 all wd b1 b2 b3 b4 bm nv b6 b7 b8 b9 nv6 w' :=
 h.chN (k.chg.to fun b _ hb => by have := hb.1; omega)
end
structure WJ (W : World) (N : Nat) (l0 : List (Int × BS)) (all : BS) (wd : Int) (b1 b2 b3 b4 bm : Nat) (nv : Value) (b6 b7 b8 b9 : Nat) (nv6 : Value) (b10 b11 : Nat) (D : List Nat) (B : Nat) (ord : List Int) (S : BS) (w : World) : Prop where
 c : WC W N l0 all wd b1 b2 b3 b4 bm nv b6 b7 b8 b9 nv6 w
 p10 : ∃ u, Blk w b10 #[u] 26 ∧ OwR intE 3 N Go.Mono.G0 w ord u ∧ ∀ g, u.ownBlock = some g → ¬Hole B g
 p11 : Blk w b11 (setC S) 39
 ds : Ds D w
theorem WJ.kp {W : World} {N : Nat} {l0 : List (Int × BS)} {all : BS} {wd : Int} {b1 b2 b3 b4 bm : Nat} {nv : Value} {b6 b7 b8 b9 : Nat} {nv6 : Value} {b10 b11 : Nat} {D : List Nat} {B : Nat} {ord : List Int} {S : BS} {w w' : World} (h : WJ W N l0 all wd b1 b2 b3 b4 bm nv b6 b7 b8 b9 nv6 b10 b11 D B ord S w) (k : Kp B w w')
  (hB : N ≤ B) (l10 : b10 < B) (l11 : b11 < B) (lD : ∀ d ∈ D, d < B) : WJ W N l0 all wd b1 b2 b3 b4 bm nv b6 b7 b8 b9 nv6 b10 b11 D B ord S w' := by
 have no : ∀ {b}, b < B → ¬Hole B b := fun h hh => by have := hh.1; omega
 obtain ⟨u, q1, q2, q3⟩ := h.p10
 exact ⟨h.c.kp k hB, ⟨u, q1.kp k (no l10), q2.chE k.chg q3, q3⟩, h.p11.kp k (no l11), h.ds.ch k.chg fun d hd => no (lD d hd)⟩
end Go.Mono

namespace Go.Mono
open Go Go.Proofs Go.RowKit Go.Gr
def nbA (g : GT) : Int → BS := lkS (nbL g (elems (vset g.1)))
def natL (l : List Nat) : List Int := l.map fun i : Nat => (i : Int)
def widO (g : GT) : List Nat := grF (nbA g) (vset g.1) (rsR (nbA g) (vset g.1) 0) (card (vset g.1)) 0
theorem widthG_spec {G : Nat → Prop} {N0 : Nat} (g : GT) (v : Value) (W : World) (hT : Tab W) (h : (Dv (ptE (grE N0)) G (some g)).p v W) (gs1 : g.1.Pairwise fun x y => lt1 x.1 y.1 = true) (gs2 : g.2.Pairwise fun x y => lt2 x.1 y.1 = true) (hl1 : g.1.length ≤ 12) (hl2 : g.2.length ≤ 100000) (hN : N0 ≤ 1000000) (hs : Sml (nbA g) (vset g.1)) (hc : card (vset g.1) ≤ 12)
  {K : Nat → Prop} (hK : ∀ b, K b → b < W.heap.size) :
  Calls Tryz.prog 7 #[v] W (Post (Tup [E (I (rsR (nbA g) (vset g.1) 0)), Dv (slE intE) K (natL (widO g)), E (I 0)]) W) := by
 have hv : (Dv (ptE (grE N0)) Go.Mono.G0 (some g)).p v W := Dv.weak h fun b _ hb => hb.elim
 have hT0 := hT.lt
 obtain ⟨l0, hl0⟩ : ∃ l0, l0 = nbL g (elems (vset g.1)) := ⟨_, rfl⟩
 obtain ⟨all, hall⟩ : ∃ all, all = vset g.1 := ⟨_, rfl⟩
 have hnb : nbA g = lkS l0 := by rw [hl0, nbA]
 rw [widO, hnb, ← hall]
 rw [hnb, ← hall] at hs
 rw [← hall] at hc
 refine enterM (args := [v]) (As := [E v]) Tryz.func7 rfl Tryz.ntmps7 (Nat.le_of_ble_eq_true rfl) ?_ (fun a hf => ?_) (Nat.le_of_ble_eq_true rfl)
 ·exact arg1 rfl
 dsimp only [params, Nat.reduceAdd] at hf
 have e := Ext.rfl' W
 have hck : ckW g = 0 := by rw [ckW, if_neg (by omega)]
 repeat refine seq ?_
 refine regn0 ?_
 refine tl_as hf rfl (by decide) fun a hf => ?_
 refine tl_as hf rfl (by decide) fun a hf => ?_
 refine tl_as hf rfl (by decide) fun a hf => ?_
 refine tl_nil ?_
 repeat refine seq ?_
 refine regn 2 hf (by decide +kernel) ?_
 refine st (mv rfl) ?_
 refine st (call1 (A := E (I 0)) En20 rfl (fun v w he h => by cases h; rw [← hck]; exact tcheck_spec g _ w (VA.st _ _ _ _ (Ext.tr e he) hv))) ?_
 refine en fun a w e' hf => ?_
 replace hT := hT.ext e'
 replace e := e.tr e'
 refine tl_as hf rfl (by decide) fun a hf => ?_
 refine tl_nil ?_
 repeat refine seq ?_
 refine regn 2 hf (by decide +kernel) ?_
 refine st (mv rfl) ?_
 refine st (neq rfl rfl) ?_
 refine en fun a w e' hf => ?_
 replace hT := hT.ext e'
 replace e := e.tr e'
 refine tl_nil ?_
 repeat refine seq ?_
 refine ifc hf rfl (fun h => by cases h) (fun _ => ?_)
 refine wskip ?_
 try simp only [Exit.then, Exit.inBlock, ↓reduceIte]
 replace hf := hf.kp [0]
 have e0 := e
 repeat refine seq ?_
 refine regn 4 hf (by decide +kernel) ?_
 refine st (mv rfl) ?_
 refine st (call1 (A := Dv (mpE sKV 1024) Go.Mono.G0 l0) En21 rfl (fun v w he k => by cases k; rw [hl0]; exact near_spec g _ w (hT.ext he) (VA.st _ _ _ _ (Ext.tr e0 he) hv) gs1 gs2 (by omega) hl2 hN)) ?_
 refine st (mv rfl) ?_
 refine st (call1 (A := E (setV all)) En22 rfl (fun v w he k => by cases k; rw [hall]; exact vertexSet_spec g _ w (VA.st _ _ _ _ (Ext.tr e0 he) hv) gs1 (by omega) hN)) ?_
 refine en fun a w e' hf => ?_
 replace hT := hT.ext e'
 replace e := e.tr e'
 clear e'
 clear e0
 obtain ⟨nv6, Hn, hf⟩ := hf.opn 19 rfl
 obtain ⟨q6, hq6⟩ : ∃ q, nv6 = .map (some q) := by
  obtain ⟨cs, ⟨q, n, h1, _⟩, h2⟩ := Hn
  subst h1
  exact ⟨q, h2⟩
 have ho6 : nv6.oneCell' = true := by rw [hq6]; rfl
 obtain ⟨N4, hN4⟩ : ∃ N4, N4 = w.heap.size := ⟨_, rfl⟩
 have hN4s : N4 ≤ w.heap.size := Nat.le_of_eq hN4
 have hW4 : W.heap.size ≤ N4 := by rw [hN4]; exact e.size
 have HN : (Dv (mpE sKV 1024) (fun b => N4 ≤ b) l0).p nv6 w := Dv.weak Hn fun b hb hh => by omega
 clear Hn hN4 hq6
 replace hf := hf.kp [0, 19, 21]
 refine tl_alloc I66 hf (by decide) fun a b6 w e' hb6 hs6 B6 hf => ?_
 have hle6 := Nat.le_trans e.size (Nat.le_of_eq hb6.symm)
 have lo6_hN4s := Nat.le_trans hN4s (Nat.le_of_eq hb6.symm)
 replace hT := hT.ext e'
 replace HN := VA.st _ _ _ _ e' HN
 replace hN4s := Nat.le_trans hN4s e'.size
 replace e := e.tr e'
 clear e'
 refine tl_alloc I39 hf (by decide) fun a b7 w e' hb7 hs7 B7 hf => ?_
 have hle7 := Nat.le_trans e.size (Nat.le_of_eq hb7.symm)
 have lo7_hN4s := Nat.le_trans hN4s (Nat.le_of_eq hb7.symm)
 have lt7_B6 := B6.lt
 replace hT := hT.ext e'
 replace HN := VA.st _ _ _ _ e' HN
 replace hN4s := Nat.le_trans hN4s e'.size
 replace e := e.tr e'
 replace B6 := B6.ext e'
 clear e'
 replace B6 : Blk w b6 (Value.cells (.map none)) 66 := B6
 simp only [Value.cells] at B6 B7
 have n67 : b6 ≠ b7 := by omega
 haveI hinr : ∀ G0, InR (GB W G0) (some b6) := fun G0 => InR.gb (by omega)
 refine tl_st1 T66 hf rfl rfl (ho6) B6 (by decide) fun w hg hsz B6 hf => ?_
 replace hT := hT.gr hg (by omega)
 replace HN := Dv.grN HN hg (fun bb hb => by cases hb; omega)
 replace hN4s := Nat.le_trans hN4s hg.size
 replace e := e.gr hg (by omega)
 replace B7 := B7.gr hg (by omega)
 clear hg
 replace B6 : Blk w b6 #[nv6] 66 := B6
 refine tl_stW T39 hf rfl rfl (wordsC_one _) B7 rfl rfl fun w hg hsz B7 hf => ?_
 replace e := e.gr hg (by omega); replace hT := hT.gr hg (by omega); replace B6 := B6.gr hg (by omega); replace HN := Dv.grN HN hg (fun bb hb => by cases hb; omega); replace hN4s := Nat.le_trans hN4s hg.size; clear hg
 refine tl_nil ?_
 replace hf := hf.kp [6, 7]
 obtain ⟨N5, hN5⟩ : ∃ N5, N5 = w.heap.size := ⟨_, rfl⟩
 have l6 : b6 < N5 := by rw [hN5]; exact B6.lt
 have l7 : b7 < N5 := by rw [hN5]; exact B7.lt
 have hN5s : N5 ≤ w.heap.size := Nat.le_of_eq hN5
 have hN45 : N4 ≤ N5 := by omega
 repeat refine seq ?_
 refine regn 3 hf (by decide +kernel) ?_
 refine st (ld1 (v := nv6) T66 rfl B6 rfl) ?_
 refine st ((ldW T39 rfl B7 rfl).eq ((rfl : _ = setV all))) ?_
 refine st (call2 (A := RstA N5 l0 all) En23 rfl rfl (fun v u w he k1 k2 => by cases k1; cases k2; exact (rest_spec l0 all _ w (hT.ext he) (VA.st _ _ _ _ he HN)).mono fun en w' ⟨u, k1, k2, b1, b2, b3, b4, bm, nv, k3, k4, k5⟩ => ⟨u, k1, k2, b1, b2, b3, b4, bm, nv, k3, Nat.le_trans (Nat.le_trans hN5s he.size) k4, k5⟩)) ?_
 refine en fun a w e' hf => ?_
 replace hT := hT.ext e'
 replace HN := VA.st _ _ _ _ e' HN
 replace e := e.tr e'
 replace B6 := B6.ext e'
 replace B7 := B7.ext e'
 clear e'
 obtain ⟨v24, ⟨b1, b2, b3, b4, bm, nv, rfl, hNm, R, M⟩, hf⟩ := hf.opn 24 rfl
 have lR := R.lt
 have lM := M.lt
 obtain ⟨N6, hN6⟩ : ∃ N6, N6 = w.heap.size := ⟨_, rfl⟩
 have hN6s : N6 ≤ w.heap.size := Nat.le_of_eq hN6
 have l4 : b1 < N6 ∧ b2 < N6 ∧ b3 < N6 ∧ b4 < N6 ∧ bm < N6 ∧ b6 < N6 ∧ b7 < N6 := by have := B6.lt; have := B7.lt; omega
 have hWN : W.heap.size ≤ N5 ∧ N5 ≤ N6 ∧ W.heap.size ≤ bm := by omega
 replace R := R.weak (G' := fun b => b = bm ∨ N6 ≤ b) (fun b hb hh => hh.elim id fun h => by omega) (.inl rfl)
 replace HN : (Dv (mpE sKV 1024) (fun b => b = bm ∨ N6 ≤ b) l0).p nv6 w := Dv.weak HN fun b hb hh => by omega
 clear hN6 hN5 lR lM hT
 replace hf := hf.kp [6, 7, 24]
 refine tl_alloc I69 hf (by decide) fun a b8 w e' hb8 hs8 B8 hf => ?_
 have hle8 := Nat.le_trans e.size (Nat.le_of_eq hb8.symm)
 have lo8_hN6s := Nat.le_trans hN6s (Nat.le_of_eq hb8.symm)
 have lt8_B6 := B6.lt
 have lt8_B7 := B7.lt
 replace R := R.ext e'
 replace M := M.ext e'
 replace HN := VA.st _ _ _ _ e' HN
 replace hN6s := Nat.le_trans hN6s e'.size
 replace e := e.tr e'
 replace B6 := B6.ext e'
 replace B7 := B7.ext e'
 clear e'
 have n8 : N6 ≤ b8 := by omega
 have l78 : b8 < w.heap.size := B8.lt
 haveI hinr : ∀ G0, InR (GB W G0) (some b8) := fun G0 => InR.gb (by omega)
 refine tl_st1 T69 hf rfl rfl (rfl) B8 (by decide) fun w hg hsz B8 hf => ?_
 replace R := R.gr hg (.inr (by omega)) (by omega) (by omega)
 replace M := M.gr hg (by omega)
 replace HN := Dv.grN HN hg (fun bb hb => .inr (by cases hb; omega))
 replace hN6s := Nat.le_trans hN6s hg.size
 replace e := e.gr hg (by omega)
 replace B6 := B6.gr hg (by omega)
 replace B7 := B7.gr hg (by omega)
 clear hg
 refine tl_nil ?_
 replace B8 : Blk w b8 #[restV b1 b2 b3 b4] 69 := B8
 replace hf := hf.kp [6, 7, 8]
 repeat refine seq ?_
 refine regn 2 hf (by decide +kernel) ?_
 refine st (ld1 (v := restV b1 b2 b3 b4) T69 rfl B8 rfl) ?_
 refine st (bldV [] rfl bS_0) ?_
 refine en fun a w e' hf => ?_
 replace R := R.ext e'
 replace M := M.ext e'
 replace HN := VA.st _ _ _ _ e' HN
 replace hN6s := Nat.le_trans hN6s e'.size
 replace e := e.tr e'
 replace B6 := B6.ext e'
 replace B7 := B7.ext e'
 replace B8 := B8.ext e'
 clear e'
 have v26 : a.eval (.tmp 26) = setV 0 := hf.val 26 _ rfl
 refine tl_callV (S := fun b => b = bm) (F := Mm (lkS l0) all bm) (caps := #[ptr b1, ptr b2, ptr b3, ptr b4]) (A := E (I (rsR (lkS l0) all 0))) hf (by decide) En48 rfl ?_ fun a w hc' hF hf => ?_
 ·have := restC_spec l0 all b1 b2 b3 b4 bm nv hc (card (all &&& ~~~(0 : BS))) 0 w rfl (fun i hi => absurd hi (bit_zero i)) (R.weak (fun b hb h => .inl h) rfl) M
  simp only [List.map_toArray, List.map_cons, List.map_nil, v26]
  exact Calls.mono this fun en w' ⟨u, k1, k2, k3, k4⟩ => ⟨u, k1, k2, k4, k3⟩
 clear v26
 obtain ⟨wd, hwd⟩ : ∃ wd, wd = rsR (lkS l0) all 0 := ⟨_, rfl⟩
 rw [← hwd] at hf ⊢
 have hwb := rsR_bd (nb := lkS l0) (all := all) 0
 rw [← hwd] at hwb
 replace R := R.ch hc'; replace M := hF; replace HN := Dv.ch HN hc' (fun b hb => .inl hb); replace e := e.ch hc' (fun b hb => by omega); replace B6 := B6.ch hc' (by omega); replace B7 := B7.ch hc' (by omega); replace B8 := B8.ch hc' (by omega); replace hN6s := Nat.le_trans hN6s hc'.size
 clear hc' hF
 have l8 := B8.lt
 refine tl_alloc I3 hf (by decide) fun a b9 w e' hb9 hs9 B9 hf => ?_
 have hle9 := Nat.le_trans e.size (Nat.le_of_eq hb9.symm)
 have lo9_hN6s := Nat.le_trans hN6s (Nat.le_of_eq hb9.symm)
 have lt9_B6 := B6.lt
 have lt9_B7 := B7.lt
 have lt9_B8 := B8.lt
 replace R := R.ext e'
 replace M := M.ext e'
 replace HN := VA.st _ _ _ _ e' HN
 replace hN6s := Nat.le_trans hN6s e'.size
 replace e := e.tr e'
 replace B6 := B6.ext e'
 replace B7 := B7.ext e'
 replace B8 := B8.ext e'
 clear e'
 have n9 : N6 ≤ b9 ∧ b8 < b9 := by omega
 haveI hinr : ∀ G0, InR (GB W G0) (some b9) := fun G0 => InR.gb (by omega)
 refine tl_st1 T3 hf rfl rfl rfl B9 (by decide) fun w hg hsz B9 hf => ?_
 replace R := R.gr hg (.inr (by omega)) (by omega) (by omega)
 replace M := M.gr hg (by omega)
 replace HN := Dv.grN HN hg (fun bb hb => .inr (by cases hb; omega))
 replace hN6s := Nat.le_trans hN6s hg.size
 replace e := e.gr hg (by omega)
 replace B6 := B6.gr hg (by omega)
 replace B7 := B7.gr hg (by omega)
 replace B8 := B8.gr hg (by omega)
 clear hg
 refine tl_nil ?_
 replace B9 : Blk w b9 #[I wd] 3 := B9
 replace hf := hf.kp [6, 7, 8, 9]
 obtain ⟨N, hNN⟩ : ∃ N, N = w.heap.size := ⟨_, rfl⟩
 have hNs : N ≤ w.heap.size := Nat.le_of_eq hNN
 have l9 := B9.lt
 have hne : W.heap.size ≤ bm ∧ W.heap.size ≤ N ∧ bm < N ∧ (b1 < N ∧ b2 < N ∧ b3 < N ∧ b4 < N) ∧ (b6 < N ∧ b7 < N ∧ b8 < N ∧ b9 < N) ∧ b6 ≠ bm ∧ b7 ≠ bm ∧ b8 ≠ bm ∧ b9 ≠ bm := by have := e.size; omega
 have C : WC W N l0 all wd b1 b2 b3 b4 bm nv b6 b7 b8 b9 nv6 w := ⟨e, R.weak (fun b hb hh => hh.imp id fun h => by omega) (.inl rfl), M, Dv.weak HN (fun b hb hh => hh.imp id fun h => by omega), B6, B7, B8, B9, hne⟩
 clear hNN R M HN B6 B7 B8 B9 hN6s hN5s n8 n9 l78 l8 l4 hWN
 repeat refine seq ?_
 refine regn0 ?_
 refine tl_alloc I26 hf (by decide) fun a b10 w e' hb10 hs10 B10 hf => ?_
 have hle10 := Nat.le_trans e.size (Nat.le_of_eq hb10.symm)
 have lo10_hNs := Nat.le_trans hNs (Nat.le_of_eq hb10.symm)
 replace C := C.ext e'
 replace hNs := Nat.le_trans hNs e'.size
 replace e := e.tr e'
 refine tl_nil ?_
 replace B10 : Blk w b10 #[.slice none 0 0] 26 := B10
 have n10 : N ≤ b10 := by omega
 have l10 := B10.lt
 repeat refine seq ?_
 refine regn0 ?_
 refine tl_alloc I39 hf (by decide) fun a b11 w e' hb11 hs11 B11 hf => ?_
 have hle11 := Nat.le_trans e.size (Nat.le_of_eq hb11.symm)
 have lo11_hNs := Nat.le_trans hNs (Nat.le_of_eq hb11.symm)
 have lt11_B10 := B10.lt
 replace C := C.ext e'
 replace hNs := Nat.le_trans hNs e'.size
 replace e := e.tr e'
 replace B10 := B10.ext e'
 refine tl_nil ?_
 simp only [Value.cells, zeroC] at B11
 have n11 : N ≤ b11 ∧ b11 ≠ b10 := by omega
 replace hf := hf.kp [6, 7, 8, 9, 10, 11]
 have hz0 : card (all &&& ~~~(0 : BS)) = card all := by rw [show all &&& ~~~(0 : BS) = all from set_ext' fun i => ⟨fun h => ((bit_diff _ _ _).1 h).1, fun h => (bit_diff _ _ _).2 ⟨h, bit_zero i⟩⟩]
 have hwd0 : rsR (lkS l0) all 0 ≤ wd := by rw [hwd]; exact Int.le_refl _
 clear hwd
 repeat refine seq ?_
 refine blk (loopN (fun r0 a w => ∃ (S : BS) (ord : List Int) (u : Value) (D : List Nat), r0 = card (all &&& ~~~S) ∧ (∀ i, S.getLsbD i = true → all.getLsbD i = true) ∧ rsR (lkS l0) all S ≤ wd ∧ ord ++ natL (grF (lkS l0) all wd r0 S) = natL (grF (lkS l0) all wd (card all) 0) ∧
  FrD 58 (marks D) a w [(6, E (ptr b6)), (7, E (ptr b7)), (8, E (ptr b8)), (9, E (ptr b9)), (10, E (ptr b10)), (11, E (ptr b11))] ∧ WC W N l0 all wd b1 b2 b3 b4 bm nv b6 b7 b8 b9 nv6 w ∧ Blk w b10 #[u] 26 ∧ OwR intE 3 N Go.Mono.G0 w ord u ∧ Blk w b11 (setC S) 39 ∧ Ds D w ∧ ∀ d ∈ D, N ≤ d) (card (all &&& ~~~(0 : BS)))
  ⟨0, [], .slice none 0 0, [], rfl, (fun i hi => absurd hi (bit_zero i)), hwd0, by rw [hz0, List.nil_append], hf, C, B10, OwR.nil intE _ hNs fun b hb => hb.elim, B11, Ds.nil _, fun d hd => nomatch hd⟩ ?_)
 clear hf C B10 B11 hNs hwd0 l10
 rintro r0 a w ⟨S, ord, u, D, hr0, hSa, hSw, hord, hf, C, B10, Ho, B11, hD, hDW⟩
 have hgl := grF_len (nb := lkS l0) (all := all) (W := wd) (card all) 0
 have hol : ord.length ≤ 12 := by
  have := congrArg List.length hord
  simp only [List.length_append, natL, List.length_map] at this
  omega
 clear hgl
 repeat refine seq ?_
 refine regn 3 hf (by decide +kernel) ?_
 refine st ((ldW T39 rfl B11 rfl).eq ((rfl : _ = setV S))) ?_
 refine st ((ldW T39 rfl C.p7 rfl).eq ((rfl : _ = setV all))) ?_
 refine st (neqS Tryz.underlying39 Tryz.underlying37 T37 (by kernel_rfl) rfl rfl) ?_
 refine en fun a w e' hf => ?_
 replace C := C.ext e'
 replace B10 := B10.ext e'
 replace B11 := B11.ext e'
 replace hD := hD.ext e'
 replace Ho := Ho.ext e'
 refine tl_nil ?_
 repeat refine seq ?_
 refine ifc hf rfl (fun hc => wskip ?_) (fun hc => wexit ?_)
 rotate_left
 ·have hSA : S = all := by simpa using hc
  have hr00 : r0 = 0 := by
   rw [hr0, hSA, show all &&& ~~~all = 0 from set_ext' fun i => ⟨fun h => absurd ((bit_diff _ _ _).1 h).1 ((bit_diff _ _ _).1 h).2, fun h => absurd h (bit_zero i)⟩, card_zero]
  rw [hr00, grF, natL, List.map_nil, List.append_nil] at hord
  simp only [Exit.then, Exit.inBlock, ↓reduceIte]
  replace hf := hf.kp [9, 10]
  repeat refine seq ?_
  refine reg 5 Mix.mix hf (by decide +kernel) ?_
  refine st (ld1 T3 rfl C.p9 rfl) ?_
  refine st (ld1 (v := u) T26 rfl B10 rfl) ?_
  refine st (asg rfl) ?_
  refine st (asg rfl) ?_
  refine st (asg rfl) ?_
  refine en fun a w e' hf => ?_
  replace C := C.ext e'
  replace B10 := B10.ext e'
  replace hD := hD.ext e'
  replace Ho := Ho.ext e'
  refine tl_nil ?_
  refine wret ?_
  try simp only [Exit.then, Exit.inBlock]
  refine ret3M rfl hf rfl rfl rfl hD ⟨_, rfl, C.e.shut (fun d hd => Nat.le_trans hne.2.1 (hDW d hd)), Tup.three rfl ?_ rfl⟩
  rw [← hord]
  exact Dv.weak (Dv.ch (Ho.slN (N := fun b => b ∈ D ∨ K b) fun b hb hh => hh.elim (fun h => Ho.neDs hD h hb) fun h => by have := hK b h; have := (Ho.lt hb).1; have := hne.2.1; omega) (chg_shut D w) fun b hb => .inl hb) fun b _ hb => .inr hb
 have hSA : S ≠ all := by simpa using hc
 clear hc
 simp only [Exit.then, Exit.inBlock, ↓reduceIte]
 have hex : ∃ z, (all &&& ~~~S).getLsbD z = true := Classical.byContradiction fun hn => hSA (set_ext' fun i => ⟨hSa i, fun h => Classical.byContradiction fun hi => hn ⟨i, (bit_diff _ _ _).2 ⟨h, hi⟩⟩⟩)
 obtain ⟨z0, hz0'⟩ := hex
 obtain ⟨nx, hnx⟩ := nxt_is hs hSw hz0'
 obtain ⟨X, hX⟩ : ∃ X, X = all &&& ~~~S := ⟨_, rfl⟩
 repeat refine seq ?_
 refine blk ?_
 repeat refine seq ?_
 refine regn 4 hf (by decide +kernel) ?_
 refine st ((ldW T39 rfl C.p7 rfl).eq ((rfl : _ = setV all))) ?_
 refine st ((ldW T39 rfl B11 rfl).eq ((rfl : _ = setV S))) ?_
 refine st (call2 (A := E (setV X)) En24 rfl rfl (fun v u w he h h' => by cases h; cases h'; rw [hX]; exact minus_spec all S w)) ?_
 refine st (call1 (A := SeqA 0 X) En25 rfl (fun v w' he h => by cases h; exact Calls.mono (all_spec _ w') (fun en w2 ⟨u, h1, h2, b', h3, h4, h5⟩ => ⟨u, h1, h2, b', Nat.zero_le _, h4, h5⟩))) ?_
 refine en fun a w e' hf => ?_
 replace C := C.ext e'
 replace B10 := B10.ext e'
 replace B11 := B11.ext e'
 replace hD := hD.ext e'
 replace Ho := Ho.ext e'
 refine tl_nil ?_
 obtain ⟨v34, ⟨b34, h34, rfl, BSq⟩, hf⟩ := hf.fix 34 rfl
 replace hf := hf.kp [6, 7, 8, 9, 10, 11, 34]
 have l10 := B10.lt
 have l11 := B11.lt
 have lD : ∀ d ∈ D, d < w.heap.size := fun d hd => hD.lt hd
 have lN : N ≤ w.heap.size := Ho.base
 have lH : ∀ g, u.ownBlock = some g → ¬Hole w.heap.size g := fun g hg hh => by have := (Ho.lt hg).2; have := hh.1; omega
 repeat refine seq ?_
 refine blk ?_
 refine range_all3 (S := X) hf rfl BSq (by decide) (fun s w1 => WJ W N l0 all wd b1 b2 b3 b4 bm nv b6 b7 b8 b9 nv6 b10 b11 D w.heap.size ord S w1 ∧ ∀ y ∈ s, ¬ max (rn (lkS l0) S y) (rsR (lkS l0) all (ins S (y : Int))) ≤ wd)
  (fun ex w1 => ex = .exit 2 ∧ WJ W N l0 all wd b1 b2 b3 b4 bm nv b6 b7 b8 b9 nv6 b10 b11 D w.heap.size (ord ++ [(nx : Int)]) (ins S (nx : Int)) w1) (fun s w1 h => h.1.c.r.t)
  ⟨⟨C, ⟨u, B10, Ho, lH⟩, B11, hD⟩, fun y hy => nomatch hy⟩ (fun s w1 w2 h hs k => ⟨h.1.kp k lN l10 l11 lD, h.2⟩) (fun ex w1 w2 h hs k => ⟨h.1, h.2.kp k lN l10 l11 lD⟩) ?_ ?_ ?_
 ·rintro lp s x rest a1 w1 hsx ⟨hJ, hno⟩ hlw hf
  have hxX := (mem_elems.1 (show x ∈ elems X by rw [hsx]; simp)).2
  rw [hX] at hxX
  have hx1024 := bit_lt hxX
  have hwx : (Lit.int .i64 (x : Int)).wf = true := wf64 (by omega) (by omega)
  have hSx : ∀ i, (ins S (x : Int)).getLsbD i = true → all.getLsbD i = true := fun i hi => ((bit_ins S hx1024).1 hi).elim (hSa i) fun h => by rw [h]; exact ((bit_diff _ _ _).1 hxX).1
  generalize hBz : w.heap.size = Bz at *
  refine regn0 ?_
  refine tl_as hf rfl (by decide) fun a hf => ?_
  refine tl_nil ?_
  simp only [Exit.then]
  refine ⟨Kh.rfl' _ _, fun w3 k3 hsz3 => ?_⟩
  have hJ3 := hJ.kp k3 lN l10 l11 lD
  have hw3 : Bz + 3 ≤ w3.heap.size := by omega
  clear C B10 B11 hD Ho BSq hJ lH
  replace hf := hf.pure w3
  obtain ⟨C, ⟨u, B10, Ho, lH⟩, B11, hD⟩ := hJ3
  have kh := Kh.rfl' Bz w3
  obtain ⟨m1, m2, m3, m4, m5, m6⟩ := hne
  replace hf := hf.kp [6, 7, 8, 9, 10, 11, 12]
  repeat refine seq ?_
  refine blk ?_
  have x11 : b11 ≠ bm := by omega
  have x10 : b10 ≠ bm := by omega
  repeat refine seq ?_
  refine regS 13 (Chg fun b => b = bm) (Mm (lkS l0) all bm) (relMm (lkS l0) all bm) C.m Mix.mix hf (by decide +kernel) ?_
  refine uf (relMm (lkS l0) all bm) (fun w1 h1 HJ1 => ld1 (v := nv6) T66 rfl (C.p6.ch h1 m6.1) rfl) ?_
  refine uf (relMm (lkS l0) all bm) (fun w1 h1 HJ1 => (ldW T39 rfl (B11.ch h1 x11) (setC_size _)).eq ((rfl : _ = setV S))) ?_
  refine uf (relMm (lkS l0) all bm) (fun w1 h1 HJ1 => mv rfl) ?_
  refine uf (relMm (lkS l0) all bm) (fun w1 h1 HJ1 => call3 (A := E (setV (reB (lkS l0) S (x : Int)))) En26 rfl rfl rfl (fun v u s w he h h' h'' => by cases h; cases h'; cases h''; exact reach_spec l0 S (x : Int) nv6 w ((C.r.ch h1).t.ext he) (VA.st _ _ _ _ he (Dv.ch C.nd h1 fun b hb => .inl hb)) hwx)) ?_
  refine uf (relMm (lkS l0) all bm) (fun w1 h1 HJ1 => call1 (A := E (I (rn (lkS l0) S x))) En27 rfl (fun v w he h => by cases h; exact len_spec _ w)) ?_
  refine uf (relMm (lkS l0) all bm) (fun w1 h1 HJ1 => ld1 (v := restV b1 b2 b3 b4) T69 rfl (C.p8.ch h1 m6.2.2.1) rfl) ?_
  refine uf (relMm (lkS l0) all bm) (fun w1 h1 HJ1 => (ldW T39 rfl (B11.ch h1 x11) (setC_size _)).eq ((rfl : _ = setV S))) ?_
  refine uf (relMm (lkS l0) all bm) (fun w1 h1 HJ1 => mv rfl) ?_
  refine uf (relMm (lkS l0) all bm) (fun w1 h1 HJ1 => call2 (A := E (setV (ins S (x : Int)))) En28 rfl rfl (fun v u w he h h' => by cases h; cases h'; exact with_spec S (x : Int) w)) ?_
  refine ux (xcallS (A := E (I (rsR (lkS l0) all (ins S (x : Int))))) En48 rfl rfl (by simp) (fun w h1 HJ1 => (restC_spec l0 all b1 b2 b3 b4 bm nv hc (card (all &&& ~~~(ins S (x : Int)))) (ins S (x : Int)) w rfl hSx ((C.r.ch h1).weak (fun b hb h => .inl h) rfl) HJ1))) ?_
  refine uf (relMm (lkS l0) all bm) (fun w1 h1 HJ1 => max2 rfl rfl) ?_
  refine uf (relMm (lkS l0) all bm) (fun w1 h1 HJ1 => ld1 T3 rfl (C.p9.ch h1 m6.2.2.2) rfl) ?_
  refine uf (relMm (lkS l0) all bm) (fun w1 h1 HJ1 => leq rfl rfl) ?_
  refine ue ?_
  refine fun a w hc HF hf => ?_
  try dsimp only [push] at hf
  refine tl_nil ?_
  replace C := C.ch hc HF
  replace B10 := B10.ch hc x10
  replace B11 := B11.ch hc x11
  replace Ho := Ho.chE hc (fun b hb hh => by have := (Ho.lt hb).1; omega)
  replace hD := hD.ch hc (fun d hd hh => by have := hDW d hd; omega)
  replace kh := kh.tr (Kh.chg hc fun b hb hh => by have := hh.1; omega)
  have hw4 : Bz + 3 ≤ w.heap.size := Nat.le_trans hw3 hc.size
  clear hc HF
  repeat refine seq ?_
  refine ifc hf rfl (fun hb => ?_) (fun hb => ?_)
  ·have hok : max (rn (lkS l0) S x) (rsR (lkS l0) all (ins S (x : Int))) ≤ wd := of_decide_eq_true hb
   have hxn : x = nx := by
    have h1 : nxt (lkS l0) all wd S = some x := by
     rw [nxt, ← hX, hsx, List.find?_append, List.find?_eq_none.2 fun y hy => by simpa using hno y hy, List.find?_cons_of_pos (by simpa using hok)]
     rfl
    rw [h1] at hnx; exact Option.some.inj hnx
   subst hxn
   clear hb hok
   replace hf := hf.kp [10, 11, 12]
   have z10 : u.ownBlock ≠ some b10 := Ho.neB B10 (by decide)
   have z11 : u.ownBlock ≠ some b11 := Ho.neB B11 (by decide)
   have zD : ∀ d ∈ D, u.ownBlock ≠ some d := fun d hd => Ho.neDs hD hd
   repeat refine seq ?_
   refine regX 7 3 u.ownBlock (by decide) Mix.mix hf (by decide +kernel) ?_
   refine xm (fun w1 h1 => ld1 (v := u) T26 rfl (B10.gro h1 z10) rfl) ?_
   refine xm (fun w1 h1 => mv rfl) ?_
   refine xm (fun w1 h1 => bsl1 Tryz.underlying26 I3 rfl (by decide) rfl (fun b hb => Nat.lt_of_lt_of_le (Ho.avs b hb) h1.size) (isI rfl)) ?_
   refine xx (xapp Tryz.underlying26 I3 rfl rfl rfl Ho rfl (by simp only [List.length_singleton]; omega) (by simp only [List.length_singleton, maxLen]; omega)) ?_
   refine xn (fun w1 h1 => (ldW T39 rfl (B11.gro h1 z11) (setC_size _)).eq ((rfl : _ = setV S))) ?_
   refine xn (fun w1 h1 => mv rfl) ?_
   refine xn (fun w1 h1 => call2 (A := E (setV (ins S (x : Int)))) En28 rfl rfl (fun v u w he h h' => by cases h; cases h'; exact with_spec S (x : Int) w)) ?_
   refine xe fun a w hg hf => ?_
   obtain ⟨v', ⟨Hn, hat⟩, hf⟩ := hf.fix 52 rfl
   replace C := C.gro hg (fun b hb => (Ho.lt hb).1)
   replace B10 := B10.gro hg z10
   replace B11 := B11.gro hg z11
   replace hD := hD.ch (Chg.row hg) (fun d hd hh => zD d hd hh)
   replace kh := kh.tr (Kh.gro hg lH)
   have lH' : ∀ g, v'.ownBlock = some g → ¬Hole Bz g := fun g hg' => by
    rcases hat with h | ⟨c, h, hc'⟩
    ·rw [h] at hg'; exact lH g hg'
    ·rw [h] at hg'; cases hg'
     intro hh
     have := hh.2; omega
   have z10' : v'.ownBlock ≠ some b10 := Hn.neB B10 (by decide)
   have z11' : v'.ownBlock ≠ some b11 := Hn.neB B11 (by decide)
   have noH : ∀ {b : Nat}, b < Bz → ¬Hole Bz b := fun h hh => by have := hh.1; omega
   have d10 : ¬ b10 ∈ D := hD.ne B10
   have d11 : ¬ b11 ∈ D := hD.ne B11
   have hone := Hn.one
   clear Ho hat hg z10 z11 zD lH
   replace hf := hf.kp [10, 11, 52, 55]
   refine tl_st1 T26 hf rfl rfl hone B10 Nat.zero_lt_one fun w hg hsz B10 hf => ?_
   replace B10 : Blk w b10 #[v'] 26 := B10
   replace C := C.gr hg n10
   replace B11 := B11.gr hg n11.2
   replace hD := hD.gr hg d10
   replace kh := kh.tr (Kh.gr hg (noH l10))
   replace Hn := Hn.grE hg z10'
   clear hg
   refine tl_stW T39 hf rfl rfl (wordsC_one _) B11 rfl (setC_size _) fun w hg hsz B11 hf => ?_
   replace C := C.gr hg n11.1
   replace B10 := B10.gr hg (Ne.symm n11.2)
   replace hD := hD.gr hg d11
   replace kh := kh.tr (Kh.gr hg (noH l11))
   replace Hn := Hn.grE hg z11'
   clear hg
   refine tl_nil ?_
   refine wexit ?_
   simp only [Exit.inBlock]
   exact ⟨⟨rfl, C, ⟨v', B10, Hn, lH'⟩, B11, hD⟩, kh⟩
  ·have hok : ¬ max (rn (lkS l0) S x) (rsR (lkS l0) all (ins S (x : Int))) ≤ wd := of_decide_eq_false hb
   refine wskip ?_
   simp only [Exit.inBlock]
   refine ⟨⟨⟨C, ⟨u, B10, Ho, lH⟩, B11, hD⟩, fun y hy => ?_⟩, kh⟩
   rcases List.mem_append.1 hy with h | h
   ·exact hno y h
   ·rw [List.mem_singleton.1 h]; exact hok
 ·intro a' w' hf' hJ hsz hDn
  obtain ⟨q1, q2, q3⟩ := nxt_some hnx
  refine absurd ?_ (hJ.2 nx (mem_elems.2 ⟨bit_lt q1, by rw [hX]; exact q1⟩))
  omega
 ·rintro ex cd a' w' hcd hf' ⟨rfl, hJ⟩ hsz hDn
  simp only [Exit.inBlock, ↓reduceIte, Exit.then]
  have hD2 : Ds (w.heap.size :: D) w' := hJ.ds.cons hDn fun hm => Nat.lt_irrefl _ (lD _ hm)
  have hf : FrD 58 (marks (w.heap.size :: D)) a' w' [(6, E (ptr b6)), (7, E (ptr b7)), (8, E (ptr b8)), (9, E (ptr b9)), (10, E (ptr b10)), (11, E (ptr b11))] := hf'.keep [6, 7, 8, 9, 10, 11]
  obtain ⟨C', ⟨u', B10', Ho', _⟩, B11', _⟩ := hJ
  obtain ⟨q1, q2, q3⟩ := nxt_some hnx
  have hq1 := bit_lt q1
  have hcd := card_diff q1
  refine ⟨card (all &&& ~~~(ins S (nx : Int))), by omega, ins S (nx : Int), ord ++ [(nx : Int)], u', w.heap.size :: D, rfl, fun i hi => ((bit_ins S hq1).1 hi).elim (hSa i) fun h => by rw [h]; exact ((bit_diff _ _ _).1 q1).1, q3, ?_, hf, C', B10', Ho', B11', hD2, fun d hd => ?_⟩
  ·rw [← hord, hr0, hcd, grF_some hnx]
   simp only [natL, List.map_cons, List.append_assoc, List.singleton_append]
  ·rcases List.mem_cons.1 hd with rfl | hd
   ·exact lN
   ·exact hDW d hd
end Go.Mono

namespace Go.Mono
open Go Go.Proofs Go.RowKit Go.Gr
theorem xcallRst {w0 : World} {L : Env} {ty : TypeId} {pos : String} {aft : Array Edge} {dst : Option Tmp} {fo y : Operand} {tys : Array TypeId} {N : Nat} {l0 : List (Int × BS)} {all S : BS} (hx : opd L fo = some (RstA N l0 all)) (hy : opd L y = some (E (setV S))) (hc : card all ≤ 12) (hS : ∀ i, S.getLsbD i = true → all.getLsbD i = true) :
  XOpZ Tryz.prog w0 (fun b => N ≤ b) (fun _ => True) L ⟨dst, .call ⟨.value fo, #[y], tys⟩, ty, pos, aft, none⟩ (E (I (rsR (lkS l0) all S))) := by
 refine ⟨fun ρ w he hv => ?_⟩
 obtain ⟨b1, b2, b3, b4, bm, nv, hfv, hN, R, M⟩ := hv fo (by simp [Op.operands, Call.operands]) _ hx
 have hyv : ρ y = setV S := hv y (by simp [Op.operands, Call.operands]) _ hy
 have hrun : (execOp ρ ⟨dst, .call ⟨.value fo, #[y], tys⟩, ty, pos, aft, none⟩).run Tryz.prog w = .ok (.enter 48 #[setV S, ptr b1, ptr b2, ptr b3, ptr b4]) w := by
  have h9 := En48 #[setV S, ptr b1, ptr b2, ptr b3, ptr b4] w
  simp [execOp, resolve, hfv, restV, Deferred.ofValue, invoke, hyv, h9]
 simp only [OpR, hrun]
 exact (restC_spec l0 all b1 b2 b3 b4 bm nv hc _ S w rfl hS R M).mono fun e w' ⟨r, k1, k2, k3, k4⟩ => ⟨r, k1, k2.to fun b _ hb => by rw [hb]; exact hN, k4, trivial⟩
theorem prefix_spec {G : Nat → Prop} {N0 : Nat} (g : GT) (first : BS) (v : Value) (W : World) (hT : Tab W) (h : (Dv (ptE (grE N0)) G (some g)).p v W) (gs1 : g.1.Pairwise fun x y => lt1 x.1 y.1 = true) (gs2 : g.2.Pairwise fun x y => lt2 x.1 y.1 = true) (hl1 : g.1.length ≤ 12) (hl2 : g.2.length ≤ 100000) (hN : N0 ≤ 1000000) (hc : card (vset g.1) ≤ 12) :
  Calls Tryz.prog 17 #[v, setV first] W (Post (Tup [E (I (if first &&& ~~~(vset g.1) = 0 then rsR (nbA g) first 0 else 0)), E (I (if first &&& ~~~(vset g.1) = 0 then 0 else 9))]) W) := by
 have hv : (Dv (ptE (grE N0)) Go.Mono.G0 (some g)).p v W := Dv.weak h fun b _ hb => hb.elim
 have hT0 := hT.lt
 refine enter (args := [v, setV first]) (As := [E v, E (setV first)]) Tryz.func17 rfl Tryz.ntmps17 (Nat.le_of_ble_eq_true rfl) ?_ (fun a hf => ?_) (Nat.le_of_ble_eq_true rfl)
 rotate_left
 dsimp only [params, Nat.reduceAdd] at hf
 rotate_right
 ·exact arg2 rfl rfl
 have e := Ext.rfl' W
 have hck : ckW g = 0 := by rw [ckW, if_neg (by omega)]
 repeat refine seq ?_
 refine regn0 ?_
 refine tl_box hf rfl (by decide) fun a b3 w v3 hv3 e' hb3 hs3 B3 hf => ?_
 have hle3 := Nat.le_trans e.size (Nat.le_of_eq hb3.symm)
 replace hT := hT.ext e'
 replace e := e.tr e'
 refine tl_as hf rfl (by decide) fun a hf => ?_
 refine tl_as hf rfl (by decide) fun a hf => ?_
 refine tl_nil ?_
 cases hv3
 replace B3 : Blk w b3 (setC first) 39 := B3
 replace hf := hf.kp [0, 3, 4, 5]
 repeat refine seq ?_
 refine regn 2 hf (by decide +kernel) ?_
 refine st (mv rfl) ?_
 refine st (call1 (A := E (I 0)) En20 rfl (fun v w he h => by cases h; rw [← hck]; exact tcheck_spec g _ w (VA.st _ _ _ _ (Ext.tr e he) hv))) ?_
 refine en fun a w e' hf => ?_
 replace hT := hT.ext e'
 replace e := e.tr e'
 replace B3 := B3.ext e'
 refine tl_as hf rfl (by decide) fun a hf => ?_
 refine tl_nil ?_
 repeat refine seq ?_
 refine blk ?_
 repeat refine seq ?_
 refine regn 2 hf (by decide +kernel) ?_
 refine st (mv rfl) ?_
 refine st (neq rfl rfl) ?_
 refine en fun a w e' hf => ?_
 replace hT := hT.ext e'
 replace e := e.tr e'
 replace B3 := B3.ext e'
 refine tl_as hf rfl (by decide) fun a hf => ?_
 refine tl_nil ?_
 repeat refine seq ?_
 refine ifc hf rfl (fun h => by cases h) (fun _ => ?_)
 replace hf := hf.kp [0, 3, 4, 5, 6]
 have e1 := e
 by_cases hsub : first &&& ~~~(vset g.1) = 0
 ·rw [if_pos hsub, if_pos hsub]
  repeat refine seq ?_
  refine reg 5 Mix.mix hf (by decide +kernel) ?_
  refine st ((ldW T39 rfl B3 rfl).eq ((rfl : _ = setV first))) ?_
  refine st (mv rfl) ?_
  refine st (call1 (A := E (setV (vset g.1))) En22 rfl (fun v w he k => by cases k; exact vertexSet_spec g _ w (VA.st _ _ _ _ (Ext.tr e1 he) hv) gs1 (by omega) hN)) ?_
  refine st (call2 (A := E (B true)) En44 rfl rfl (fun v u w he h h' => by cases h; cases h'; have := subset_spec first (vset g.1) w; rwa [show (first &&& ~~~(vset g.1) == 0) = true from beq_iff_eq.2 hsub] at this)) ?_
  refine st (notp rfl) ?_
  refine en fun a w e' hf => ?_
  replace hT := hT.ext e'
  replace e := e.tr e'
  replace B3 := B3.ext e'
  refine tl_as hf rfl (by decide) fun a hf => ?_
  refine tl_nil ?_
  repeat refine seq ?_
  refine ifc hf rfl (fun h => by cases h) (fun _ => ?_)
  refine wskip ?_
  try simp only [Exit.then, Exit.inBlock, ↓reduceIte]
  replace hf := hf.kp [0, 3, 4, 5]
  have e2 := e
  have hc2 : card first ≤ 12 := Nat.le_trans (card_mono fun i hi => Classical.byContradiction fun hn => by
   have h5 : (first &&& ~~~(vset g.1)).getLsbD i = true := (bit_diff _ _ _).2 ⟨hi, hn⟩
   rw [hsub] at h5; exact bit_zero _ h5) hc
  obtain ⟨N5, hN5⟩ : ∃ N5, N5 = w.heap.size := ⟨_, rfl⟩
  have hN5s : N5 ≤ w.heap.size := Nat.le_of_eq hN5
  have hW5 : W.heap.size ≤ N5 := by rw [hN5]; exact e.size
  repeat refine seq ?_
  refine regZ 6 [false, false, false, false, false] (fun b => N5 ≤ b) (fun w => True) (fun w w1 k h => trivial) Mix.mix hf (by decide +kernel) (by decide +kernel) ?_
  refine za (mv rfl) ?_
  refine za (call1 (A := Dv (mpE sKV 1024) Go.Mono.G0 (nbL g (elems (vset g.1)))) En21 rfl (fun v w he k => by cases k; exact near_spec g _ w (hT.ext he) (VA.st _ _ _ _ (Ext.tr e2 he) hv) gs1 gs2 (by omega) hl2 hN)) ?_
  refine za ((ldW T39 rfl B3 rfl).eq ((rfl : _ = setV first))) ?_
  refine za (call2 (A := RstA N5 (nbL g (elems (vset g.1))) first) En23 rfl rfl (fun v u w he k1 k2 => by cases k2; exact (rest_spec _ first _ w (hT.ext he) k1).mono fun en w' ⟨u, k1, k2, b1, b2, b3, b4, bm, nv, k3, k4, k5⟩ => ⟨u, k1, k2, b1, b2, b3, b4, bm, nv, k3, Nat.le_trans (Nat.le_trans hN5s he.size) k4, k5⟩)) ?_
  refine za (bldV [] rfl bS_0) ?_
  refine zx (xcallRst rfl rfl hc2 (fun i hi => absurd hi (bit_zero i))) ?_
  refine fun a w hc HF hf => ?_
  try dsimp only [push] at hf
  replace e := e.ch hc (fun b hb => Nat.le_trans hW5 hb)
  clear hc HF B3 hT
  refine tl_as hf rfl (by decide) fun a hf => ?_
  refine tl_as hf rfl (by decide) fun a hf => ?_
  refine tl_nil ?_
  refine wret (ret2 rfl hf rfl rfl ?_)
  rintro _ _ rfl rfl
  exact ⟨_, rfl, e, Tup.two rfl rfl⟩
 ·rw [if_neg hsub, if_neg hsub]
  repeat refine seq ?_
  refine reg 5 Mix.mix hf (by decide +kernel) ?_
  refine st ((ldW T39 rfl B3 rfl).eq ((rfl : _ = setV first))) ?_
  refine st (mv rfl) ?_
  refine st (call1 (A := E (setV (vset g.1))) En22 rfl (fun v w he k => by cases k; exact vertexSet_spec g _ w (VA.st _ _ _ _ (Ext.tr e1 he) hv) gs1 (by omega) hN)) ?_
  refine st (call2 (A := E (B false)) En44 rfl rfl (fun v u w he h h' => by cases h; cases h'; have := subset_spec first (vset g.1) w; rwa [show (first &&& ~~~(vset g.1) == 0) = false from beq_eq_false_iff_ne.2 hsub] at this)) ?_
  refine st (notp rfl) ?_
  refine en fun a w e' hf => ?_
  replace e := e.tr e'
  refine tl_as hf rfl (by decide) fun a hf => ?_
  refine tl_nil ?_
  repeat refine seq ?_
  refine ifc hf rfl (fun _ => ?_) (fun h => by cases h)
  repeat refine seq ?_
  refine regn0 ?_
  refine tl_as hf rfl (by decide) fun a hf => ?_
  refine tl_as hf rfl (by decide) fun a hf => ?_
  refine tl_nil ?_
  refine wret ?_
  try simp only [Exit.then, Exit.inBlock]
  refine ret2 rfl hf rfl rfl ?_
  rintro _ _ rfl rfl
  exact ⟨_, rfl, e, Tup.two rfl rfl⟩
end Go.Mono

namespace Go.Mono
open Go Go.Proofs Go.RowKit Go.Gr

def ringV (n : Nat) : List VT := (List.range n).map fun i : Nat => ((i : Int), (0, 0))
def ringE (n : Nat) : List ET := (List.range n).map fun i : Nat => (((i : Int), ((i : Int) + 1) % (n : Int)), (0, 0))
def ringS (n : Nat) : List ET := ((0, 1), (0, 0)) :: ((0, (n : Int) - 1), (0, 0)) :: ((List.range (n - 2)).map fun i : Nat => (((i : Int) + 1, (i : Int) + 2), (0, 0)))
def ringG (n : Nat) : GT := (ringV n, ringS n)
def ringOk (n : Nat) : Bool := (match bldM (ringV n) (ringE n) with
 | some g => g.1.isPerm (ringV n) && g.2.isPerm (ringS n)
 | none => false) && decide ((ringS n).Pairwise fun x y => lt2 x.1 y.1 = true)
theorem ring_all : (List.range 12).all (fun i => ringOk (i + 3)) = true := by decide +kernel
theorem ring_ok {n : Nat} (h3 : 3 ≤ n) (hn : n ≤ 14) : (∃ g, bldM (ringV n) (ringE n) = some g ∧ g.1.Perm (ringV n) ∧ g.2.Perm (ringS n)) ∧ (ringS n).Pairwise fun x y => lt2 x.1 y.1 = true := by
 have h := List.all_eq_true.1 ring_all (n - 3) (List.mem_range.2 (by omega))
 rw [show n - 3 + 3 = n by omega, ringOk, Bool.and_eq_true, decide_eq_true_eq] at h
 obtain ⟨h1, h2⟩ := h
 refine ⟨?_, h2⟩
 cases hb : bldM (ringV n) (ringE n) with
 | none => rw [hb] at h1; cases h1
 | some g =>
  rw [hb] at h1
  simp only [Bool.and_eq_true, List.isPerm_iff] at h1
  exact ⟨g, rfl, h1.1, h1.2⟩
theorem build_perm {G : Nat → Prop} (V : List VT) (E' : List ET) (g : GT) (hb : ∃ g', bldM V E' = some g' ∧ g'.1.Perm g.1 ∧ g'.2.Perm g.2) (hV : ∀ x ∈ V, okD (dV x)) (hE : ∀ x ∈ E', okD (dE x)) (v u : Value) (W : World) (h1 : (Dv (slE vtE) G V).p v W) (h2 : (Dv (slE etE) G E').p u W) (hl1 : V.length ≤ 1000) (hl2 : E'.length ≤ 1000) {K : Nat → Prop} (hK : ∀ b, K b → b < W.heap.size) :
  Calls Tryz.prog 15 #[v, u] W (Post (Tup [Dv (ptE (grE 2000)) K (some g), E (I 0)]) W) :=
 Calls.mono (build_spec V E' v u W h1 h2 (by omega) (by omega) hV hE) fun en w' ⟨e, hq⟩ => by
  obtain ⟨g', k1, k2, k3⟩ := hb
  rcases hq with ⟨g2, b1, b2, b3, q1, rfl, q3, q4, q5, q6⟩ | ⟨c, q0, q1, _⟩
  ·rw [k1] at q1; cases q1
   exact ⟨_, rfl, e, Tup.two ((q6.perm k2 k3).dv (by omega) (fun h => by have := hK _ h; omega) (fun h => by have := hK _ h; omega) (fun h => by have := hK _ h; omega)) rfl⟩
  ·rw [k1] at q1; cases q1
theorem bV1 (i : Int) : Tryz.prog.built 54 [(0, .int .i64 i)] = some #[.int .i64 i, .int .u8 0, .int .i64 0] := by kernel_rfl
theorem bE2 (i j : Int) : Tryz.prog.built 56 [(0, .int .i64 i), (1, .int .i64 j)] = some #[.int .i64 i, .int .i64 j, .int .u8 0, .int .i64 0] := by kernel_rfl
theorem bldV1 {w0 : World} {L : Env} {dst : Option Tmp} {ty : TypeId} {pos : String} {aft : Array Edge} {g : Option (Nat × Bool)} {x : Operand} (i : Int) (h : opd L x = some (E (I i))) : OpC Tryz.prog w0 L ⟨dst, .build 54 #[(0, x)], ty, pos, aft, g⟩ (E (vtV (i, (0, 0)))) :=
 bldV [(0, _)] (by simp only [List.map_cons, List.map_nil, h]) (bV1 i)
theorem bldE2 {w0 : World} {L : Env} {dst : Option Tmp} {ty : TypeId} {pos : String} {aft : Array Edge} {g : Option (Nat × Bool)} {x y : Operand} (i j : Int) (h : opd L x = some (E (I i))) (h' : opd L y = some (E (I j))) : OpC Tryz.prog w0 L ⟨dst, .build 56 #[(0, x), (1, y)], ty, pos, aft, g⟩ (E (etV ((i, j), (0, 0)))) :=
 bldV [(0, _), (1, _)] (by simp only [List.map_cons, List.map_nil, h, h']) (bE2 i j)
theorem ring_spec (n : Nat) (h3 : 3 ≤ n) (hn : n ≤ 14) (W : World) {K : Nat → Prop} (hK : ∀ b, K b → b < W.heap.size) :
  Calls Tryz.prog 16 #[I (n : Nat)] W (Post (Dv (ptE (grE 2000)) K (some (ringG n))) W) := by
 obtain ⟨hb, hs⟩ := ring_ok h3 hn
 have hlV : (ringV n).length = n := by simp [ringV]
 have hlE : (ringE n).length = n := by simp [ringE]
 have w0 : (Lit.int .i64 0).wf = true := by decide
 have w8 : (Lit.int .u8 0).wf = true := by decide
 have hV : ∀ x ∈ ringV n, okD (dV x) := fun x hx => by
  obtain ⟨i, hi, rfl⟩ := List.mem_map.1 hx
  have := List.mem_range.1 hi
  exact ⟨wf64 (show -9223372036854775808 ≤ (i : Int) by omega) (show (i : Int) ≤ 9223372036854775807 by omega), w0, w8, w0⟩
 have hE : ∀ x ∈ ringE n, okD (dE x) := fun x hx => by
  obtain ⟨i, hi, rfl⟩ := List.mem_map.1 hx
  have := List.mem_range.1 hi
  have h0 : (0 : Int) < (n : Int) := by omega
  have h1 := Int.emod_nonneg ((i : Int) + 1) (show (n : Int) ≠ 0 by omega)
  have h2 := Int.emod_lt_of_pos ((i : Int) + 1) h0
  exact ⟨wf64 (show -9223372036854775808 ≤ (i : Int) by omega) (show (i : Int) ≤ 9223372036854775807 by omega), wf64 (show -9223372036854775808 ≤ ((i : Int) + 1) % (n : Int) by omega) (show ((i : Int) + 1) % (n : Int) ≤ 9223372036854775807 by omega), w8, w0⟩
 refine enter (args := [I (n : Nat)]) (As := [E (I (n : Nat))]) Tryz.func16 rfl Tryz.ntmps16 (Nat.le_of_ble_eq_true rfl) ?_ (fun a hf => ?_) (Nat.le_of_ble_eq_true rfl)
 rotate_left
 dsimp only [params, Nat.reduceAdd] at hf
 rotate_right
 ·exact arg1 rfl
 have e := Ext.rfl' W
 repeat refine seq ?_
 refine regn0 ?_
 refine tl_as hf rfl (by decide) fun a hf => ?_
 refine tl_nil ?_
 repeat refine seq ?_
 refine regn0 ?_
 refine tl_as hf rfl (by decide) fun a hf => ?_
 refine tl_nil ?_
 repeat refine seq ?_
 refine regn0 ?_
 refine tl_as hf rfl (by decide) fun a hf => ?_
 refine tl_nil ?_
 repeat refine seq ?_
 refine regn0 ?_
 refine tl_as hf rfl (by decide) fun a hf => ?_
 refine tl_nil ?_
 replace hf := hf.kp [0, 2, 3, 4, 5]
 repeat refine seq ?_
 refine blk (loopN (fun r0 a w => ∃ (k : Nat) (u1 u2 : Value), r0 = n - k ∧ k ≤ n ∧ Fr 34 a w [(0, E (I (n : Nat))), (2, E (.pointer none)), (3, E u1), (4, E u2), (5, E (I k))] ∧ Ext W w ∧ OwR vtE 54 W.heap.size Go.Mono.G0 w ((ringV n).take k) u1 ∧ OwR etE 56 W.heap.size Go.Mono.G0 w ((ringE n).take k) u2) n ⟨0, .slice none 0 0,  .slice none 0 0, rfl, by omega, hf, e, ⟨OwR.nil vtE _ e.size fun b hb => hb.elim, OwR.nil etE _ e.size fun b hb => hb.elim⟩⟩ ?_)
 clear hf e; try clear H1; try clear H2
 rintro r0 a w ⟨k, u1, u2, rfl, hk, hf, e, H1, H2⟩
 repeat refine seq ?_
 refine regn 3 hf (by decide +kernel) ?_
 refine st (mv rfl) ?_
 refine st (mv rfl) ?_
 refine st (lss rfl rfl) ?_
 refine en fun a w e' hf => ?_
 replace H1 := H1.ext e'
 replace H2 := H2.ext e'
 replace e := e.tr e'
 refine tl_nil ?_
 repeat refine seq ?_
 refine ifc hf rfl (fun hc => wskip ?_) (fun hc => wexit ?_)
 rotate_left
 rotate_left
 ·have hlt : k < n := by have := of_decide_eq_true hc; (try dsimp only at this); omega
  clear hc
  replace hf := hf.kp [0, 2, 3, 4, 5]
  repeat refine seq ?_
  refine blk ?_
  have hx : (ringV n)[k]? = some ((k : Int), (0, 0)) := by simp [ringV, hlt]
  have hy : (ringE n)[k]? = some (((k : Int), ((k : Int) + 1) % (n : Int)), (0, 0)) := by simp [ringE, hlt]
  have hlk := List.length_take_le k (ringV n)
  have hlk2 := List.length_take_le k (ringE n)
  repeat refine seq ?_
  refine regn 4 hf (by decide +kernel) ?_
  refine st (mv rfl) ?_
  refine st (mv rfl) ?_
  refine st (bldV1 _ rfl) ?_
  refine st (bsl1 Tryz.underlying52 I54 rfl (by decide) rfl H1.avs (isVt rfl)) ?_
  refine en fun a w e' hf => ?_
  replace H2 := H2.ext e'
  replace H1 := H1.ext e'
  replace e := e.tr e'
  clear e'
  haveI hin : ∀ G0, InR (GB W G0) _ := OwR.inGB (W := W) H1 (Nat.le_refl _)
  refine tl_app Tryz.underlying52 I54 rfl rfl hf (by decide) rfl H1 (isR rfl) (by simp only [List.length_singleton]; omega) (by simp only [List.length_singleton, maxLen]; omega) fun a v w hg hat Hn hf => ?_
  replace e := e.gro hg (H1.row (W := W) (Nat.le_refl _))
  have hrow := H1.row (W := W) (Nat.le_refl _)
  replace H2 := H2.groE hg (fun b hb => H2.neT H1 (by decide) hb)
  replace H1 := Hn
  clear hrow
  replace H1 := Hn; clear Hn hg hat hin
  refine tl_as hf rfl (by decide) fun a hf => ?_
  refine tl_nil ?_
  rw [← take_succ_get hx] at H1
  replace hf := hf.kp [0, 2, 3, 4, 5]
  repeat refine seq ?_
  refine regn 8 hf (by decide +kernel) ?_
  refine st (mv rfl) ?_
  refine st (mv rfl) ?_
  refine st (mv rfl) ?_
  refine st (add rfl rfl (by omega)) ?_
  refine st (mv rfl) ?_
  refine st (rem rfl rfl (by omega)) ?_
  refine st (bldE2 _ _ rfl rfl) ?_
  refine st (bsl1 Tryz.underlying53 I56 rfl (by decide) rfl H2.avs (isEt rfl)) ?_
  refine en fun a w e' hf => ?_
  replace H1 := H1.ext e'
  replace H2 := H2.ext e'
  replace e := e.tr e'
  clear e'
  haveI hin : ∀ G0, InR (GB W G0) _ := OwR.inGB (W := W) H2 (Nat.le_refl _)
  refine tl_app Tryz.underlying53 I56 rfl rfl hf (by decide) rfl H2 (isR rfl) (by simp only [List.length_singleton]; omega) (by simp only [List.length_singleton, maxLen]; omega) fun a v w hg hat Hn hf => ?_
  replace e := e.gro hg (H2.row (W := W) (Nat.le_refl _))
  have hrow := H2.row (W := W) (Nat.le_refl _)
  replace H1 := H1.groE hg (fun b hb => H1.neT H2 (by decide) hb)
  replace H2 := Hn
  clear hrow
  replace H2 := Hn; clear Hn hg hat hin
  refine tl_as hf rfl (by decide) fun a hf => ?_
  refine tl_nil ?_
  rw [← take_succ_get hy] at H2
  try simp only [Exit.then, Exit.inBlock, ↓reduceIte]
  repeat refine seq ?_
  refine regn 2 hf (by decide +kernel) ?_
  refine st (mv rfl) ?_
  refine st ((add rfl rfl (by omega)).eq (congrArg (Value.int .i64) (show (k : Int) + 1 = ((k + 1 : Nat) : Int) from rfl))) ?_
  refine en fun a w e' hf => ?_
  replace H1 := H1.ext e'
  replace H2 := H2.ext e'
  replace e := e.tr e'
  refine tl_as hf rfl (by decide) fun a hf => ?_
  refine tl_nil ?_
  replace hf := hf.kp [0, 2, 3, 4, 5]
  refine ⟨_, ?_, k + 1, _, _, rfl, by omega, hf, e, ?_⟩
  ·omega
  exact ⟨H1, H2⟩
 ·obtain rfl : k = n := by have := of_decide_eq_false hc; (try dsimp only at this); omega
  clear hc
  simp only [Exit.then, Exit.inBlock, ↓reduceIte]
  rw [List.take_of_length_le (by omega)] at H1 H2
  replace hf := hf.kp [2, 3, 4]
  repeat refine seq ?_
  refine regn 6 hf (by decide +kernel) ?_
  refine st (mv rfl) ?_
  refine st (mv rfl) ?_
  refine st (call2 (A := Tup [Dv (ptE (grE 2000)) K (some (ringG k)), E (I 0)]) En15 rfl rfl (fun v u w he k1 k2 => by cases k1; cases k2; exact build_perm (ringV k) (ringE k) (ringG k) hb hV hE _ _ w (VA.st _ _ _ _ he H1.sl) (VA.st _ _ _ _ he H2.sl) (by omega) (by omega) (fun b hb => Nat.lt_of_lt_of_le (hK b hb) (Ext.tr e he).size))) ?_
  refine st (mv rfl) ?_
  refine st (ext_ rfl rfl) ?_
  refine st (ext_ rfl rfl) ?_
  refine en fun a w e' hf => ?_
  replace e := e.tr e'
  refine tl_as hf rfl (by decide) fun a hf => ?_
  refine tl_as hf rfl (by decide) fun a hf => ?_
  refine tl_nil ?_
  replace hf := hf.kp [2, 6]
  repeat refine seq ?_
  refine regn 1 hf (by decide +kernel) ?_
  refine st (mv rfl) ?_
  refine en fun a w e' hf => ?_
  replace e := e.tr e'
  refine tl_as hf rfl (by decide) fun a hf => ?_
  refine tl_nil ?_
  refine wret ?_
  try simp only [Exit.then, Exit.inBlock]
  refine ret1 rfl hf rfl ?_
  intro v hv
  exact ⟨_, rfl, e, VA.st _ _ _ _ (Ext.rfl' _) hv⟩
end Go.Mono

namespace Go.Mono
open Go Go.Proofs Go.RowKit Go.Gr
theorem mem_vset {g : GT} {i : Nat} (G : Gr.Ok g) : (vset g.1).getLsbD i = true ↔ ∃ x ∈ g.1, x.1 = (i : Int) := by
 by_cases hi : i < 1024
 ·rw [vset, foldl_ins_bit i hi, Bool.or_eq_true, decide_eq_true_eq, List.mem_map]
  exact ⟨fun h => h.elim (fun h => absurd h (bit_zero i)) id, .inr⟩
 ·constructor
  ·intro h; exact absurd (bit_lt h) hi
  ·rintro ⟨x, hx, h⟩
   have := idOk_r (G.rv x hx).1
   omega
theorem inV_vset {g : GT} {i : Nat} (G : Gr.Ok g) : (vset g.1).getLsbD i = true ↔ inV g.1 (i : Int) = true := by
 rw [mem_vset G, inV, List.any_eq_true]
 exact ⟨fun ⟨x, h1, h2⟩ => ⟨x, h1, by simpa using h2⟩, fun ⟨x, h1, h2⟩ => ⟨x, h1, by simpa using h2⟩⟩
def Adj (g : GT) (i j : Nat) : Prop := ∃ x ∈ g.2, x.1 = ((i : Int), (j : Int)) ∨ x.1 = ((j : Int), (i : Int))
theorem Adj.symm {g : GT} {i j : Nat} (h : Adj g i j) : Adj g j i := by obtain ⟨x, h1, h2⟩ := h; exact ⟨x, h1, h2.symm⟩
theorem Adj.inn {g : GT} {i j : Nat} (G : Gr.Ok g) (h : Adj g i j) : (vset g.1).getLsbD i = true ∧ (vset g.1).getLsbD j = true ∧ i ≠ j := by
 obtain ⟨x, h1, h2⟩ := h
 obtain ⟨q1, q2, q3, _⟩ := G.re x h1
 rcases h2 with h2 | h2 <;> rw [h2] at q1 q2 q3 <;> dsimp only at q1 q2 q3
 ·exact ⟨(inV_vset G).2 q2, (inV_vset G).2 q3, by omega⟩
 ·exact ⟨(inV_vset G).2 q3, (inV_vset G).2 q2, by omega⟩
theorem nbG_bit {E : List ET} (h : ∀ x ∈ E, x.1.1 < x.1.2 ∧ (0 ≤ x.1.1 ∧ x.1.1 < 1024) ∧ (0 ≤ x.1.2 ∧ x.1.2 < 1024)) (i j : Nat) : (nbG E (i : Int)).getLsbD j = true ↔ ∃ x ∈ E, x.1 = ((i : Int), (j : Int)) ∨ x.1 = ((j : Int), (i : Int)) := by
 have key : ∀ (E : List ET) (S : BS), (∀ x ∈ E, x.1.1 < x.1.2 ∧ (0 ≤ x.1.1 ∧ x.1.1 < 1024) ∧ (0 ≤ x.1.2 ∧ x.1.2 < 1024)) → ((E.foldl (nbI (i : Int)) S).getLsbD j = true ↔ S.getLsbD j = true ∨ ∃ x ∈ E, x.1 = ((i : Int), (j : Int)) ∨ x.1 = ((j : Int), (i : Int))) := by
  intro E
  induction E with
  | nil => intro S _; simp
  | cons x E ih =>
   intro S hE
   rw [List.foldl_cons, ih _ fun y hy => hE y (by simp [hy])]
   obtain ⟨⟨p, q⟩, c⟩ := x
   obtain ⟨h1, h2, h3⟩ := hE _ (List.mem_cons_self)
   dsimp only at h1 h2 h3
   obtain ⟨p', rfl⟩ := Int.eq_ofNat_of_zero_le h2.1
   obtain ⟨q', rfl⟩ := Int.eq_ofNat_of_zero_le h3.1
   have hn : (nbI (i : Int) S (((p' : Int), (q' : Int)), c)).getLsbD j = true ↔ S.getLsbD j = true ∨ (i = p' ∧ j = q') ∨ (i = q' ∧ j = p') := by
    unfold nbI
    dsimp only
    by_cases e1 : (i : Int) = (p' : Int)
    ·rw [if_pos e1, bit_ins S (by omega)]
     constructor
     ·rintro (h | h)
      ·exact .inl h
      ·exact .inr (.inl ⟨by omega, h⟩)
     ·rintro (h | h | h)
      ·exact .inl h
      ·exact .inr h.2
      ·omega
    ·rw [if_neg e1]
     by_cases e2 : (i : Int) = (q' : Int)
     ·rw [if_pos e2, bit_ins S (by omega)]
      constructor
      ·rintro (h | h)
       ·exact .inl h
       ·exact .inr (.inr ⟨by omega, h⟩)
      ·rintro (h | h | h)
       ·exact .inl h
       ·omega
       ·exact .inr h.2
     ·rw [if_neg e2]
      constructor
      ·exact .inl
      ·rintro (h | h | h)
       ·exact h
       ·omega
       ·omega
   rw [hn]
   simp only [List.mem_cons, exists_eq_or_imp, Prod.mk.injEq, Int.ofNat_eq_natCast]
   constructor
   ·rintro ((h | h) | h)
    ·exact .inl h
    ·exact .inr (.inl (by omega))
    ·exact .inr (.inr h)
   ·rintro (h | h | h)
    ·exact .inl (.inl h)
    ·exact .inl (.inr (by omega))
    ·exact .inr h
 rw [nbG, key E 0 h]
 exact ⟨fun h => h.elim (fun h => absurd h (bit_zero j)) id, .inr⟩
theorem gr_ends {g : GT} (G : Gr.Ok g) : ∀ x ∈ g.2, x.1.1 < x.1.2 ∧ (0 ≤ x.1.1 ∧ x.1.1 < 1024) ∧ (0 ≤ x.1.2 ∧ x.1.2 < 1024) := fun x hx => by
 obtain ⟨h1, h2, h3, _⟩ := G.re x hx
 exact ⟨h1, inV_r G h2, inV_r G h3⟩
theorem nbA_at {g : GT} {i : Nat} : nbA g (i : Int) = if (vset g.1).getLsbD i = true then nbG g.2 (i : Int) else 0 := by
 have hl : ∀ (s : List Nat), lkS (nbL g s) (i : Int) = if i ∈ s then nbG g.2 (i : Int) else 0 := by
  intro s
  induction s with
  | nil => rfl
  | cons a s ih =>
   rw [lkS, nbL, List.map_cons, List.find?_cons] at *
   by_cases ha : a = i
   ·subst ha; simp
   ·have h1 : decide (((a : Int), nbG g.2 (a : Int)).1 = (i : Int)) = false := decide_eq_false fun h => ha (by dsimp only at h; omega)
    rw [h1]
    have h2 : (i ∈ a :: s) ↔ i ∈ s := by rw [List.mem_cons]; exact ⟨fun h => h.elim (fun h => absurd h.symm ha) id, .inr⟩
    simp only [h2]
    exact ih
 rw [nbA, hl]
 by_cases h : (vset g.1).getLsbD i = true
 ·rw [if_pos h, if_pos (mem_elems.2 ⟨bit_lt h, h⟩)]
 ·rw [if_neg h, if_neg fun hh => h (mem_elems.1 hh).2]
theorem nbA_bit {g : GT} (G : Gr.Ok g) {i j : Nat} : (nbA g (i : Int)).getLsbD j = true ↔ Adj g i j := by
 rw [nbA_at]
 constructor
 ·intro h
  split at h
  ·exact (nbG_bit (gr_ends G) i j).1 h
  ·exact absurd h (bit_zero j)
 ·intro h
  rw [if_pos (h.inn G).1]
  exact (nbG_bit (gr_ends G) i j).2 h
theorem card_ins_le (S : BS) (n : Int) : card (ins S n) ≤ card S + 1 := by
 by_cases hf : fitsB n = true
 ·obtain ⟨h1, h2⟩ := fitsB_iff.1 hf
  obtain ⟨p, rfl⟩ := Int.eq_ofNat_of_zero_le h1
  have hp : p < 1024 := by omega
  by_cases hb : S.getLsbD p = true
  ·have : ins S (p : Int) = S := set_ext' fun i => by rw [bit_ins S hp]; exact ⟨fun h => h.elim id fun h => by rw [h]; exact hb, .inl⟩
   rw [this]; omega
  ·have h1 : card (ins (0 : BS) (p : Int)) = 1 := card_one (p := p) fun i => by
    rw [bit_ins 0 hp]; exact ⟨fun h => h.elim (fun h => absurd h (bit_zero i)) id, .inr⟩
   rw [card_add (S := S) (T := ins 0 (p : Int)) (U := ins S (p : Int)) (fun i => by
    rw [bit_ins S hp, bit_ins 0 hp]
    exact ⟨fun h => h.imp id .inr, fun h => h.imp id fun h => h.elim (fun h => absurd h (bit_zero i)) id⟩) (fun i hi => by
    rw [bit_ins 0 hp] at hi
    obtain ⟨h3, h4⟩ := hi
    rcases h4 with h4 | h4
    ·exact bit_zero i h4
    ·rw [h4] at h3; exact hb h3), h1]
   exact Nat.le_refl _
 ·rw [ins, if_neg hf]; omega
theorem card_foldl (l : List Int) : ∀ S : BS, card (l.foldl ins S) ≤ card S + l.length := by
 induction l with
 | nil => intro S; rw [List.foldl_nil, List.length_nil, Nat.add_zero]; exact Nat.le_refl _
 | cons n l ih =>
  intro S
  have h1 := ih (ins S n)
  have h2 := card_ins_le S n
  rw [List.foldl_cons, List.length_cons]; omega
theorem card_vset (g : GT) : card (vset g.1) ≤ g.1.length := by
 have h0 : card ((g.1.map (·.1)).foldl ins 0) ≤ card (0 : BS) + (g.1.map (·.1)).length := card_foldl _ 0
 rw [List.length_map, card_zero, Nat.zero_add] at h0
 exact h0
theorem sml_ok {g : GT} (G : Gr.Ok g) (hl : g.1.length ≤ 12) {all : BS} (ha : ∀ i, all.getLsbD i = true → (vset g.1).getLsbD i = true) : Sml (nbA g) all :=
 sml_of (V := vset g.1) (fun i j h => (((nbA_bit G).1 h).inn G).2.1) (Nat.le_trans (card_vset g) hl) ha
def gokB (g : GT) : Bool := decide (g.1.Pairwise fun x y => lt1 x.1 y.1 = true) && decide (g.2.Pairwise fun x y => lt2 x.1 y.1 = true) && g.1.all (fun x => idOk x.1 && decide (0 ≤ x.2.1 ∧ x.2.1 < 256) && !Gr.heavy x.2.2) &&
 g.2.all (fun x => decide (x.1.1 < x.1.2) && inV g.1 x.1.1 && inV g.1 x.1.2 && decide (0 ≤ x.2.1 ∧ x.2.1 < 256) && !Gr.heavy x.2.2) && decide (g.2.length ≤ 1024)
theorem gok_of {g : GT} (h : gokB g = true) : Gr.Ok g := by
 simp only [gokB, Bool.and_eq_true, decide_eq_true_eq, List.all_eq_true, Bool.not_eq_true'] at h
 obtain ⟨⟨⟨⟨h1, h2⟩, h3⟩, h4⟩, h5⟩ := h
 exact ⟨h1, h2, fun x hx => by have := h3 x hx; exact ⟨this.1.1, this.1.2, this.2⟩, fun x hx => by have := h4 x hx; exact ⟨this.1.1.1.1, this.1.1.1.2, this.1.1.2, this.1.2, this.2⟩, h5⟩
end Go.Mono

namespace Go.Mono
open Go Go.Proofs Go.RowKit Go.Gr
theorem ring_gokA : (List.range 12).all (fun i => gokB (ringG (i + 3))) = true := by decide +kernel
theorem ring_gok {n : Nat} (h3 : 3 ≤ n) (hn : n ≤ 14) : Gr.Ok (ringG n) := by
 have h := List.all_eq_true.1 ring_gokA (n - 3) (List.mem_range.2 (by omega))
 rw [show n - 3 + 3 = n by omega] at h
 exact gok_of h
def l4 : List (Int × BS) := [(0, 10#1024), (1, 5#1024), (2, 10#1024), (3, 5#1024)]
def s02 : BS := [(0 : Int), 2].foldl ins 0
def s0 : BS := [(0 : Int)].foldl ins 0
def s23' : BS := [(2 : Int), 3].foldl ins 0
theorem nb4 : nbL (ringG 4) (elems (vset (ringG 4).1)) = l4 := by decide +kernel
theorem v4 : vset (ringG 4).1 = 15#1024 := by decide +kernel
theorem na4 : nbA (ringG 4) = lkS l4 := by rw [nbA, nb4]
theorem w4' : rsR (lkS l4) 15#1024 0 = 2 := by decide +kernel
theorem w4 : rsR (nbA (ringG 4)) (vset (ringG 4).1) 0 = 2 := by rw [na4, v4]; exact w4'
theorem p4' : rsR (lkS l4) s02 0 = 2 := by decide +kernel
theorem p4 : rsR (nbA (ringG 4)) s02 0 = 2 := by rw [na4]; exact p4'
theorem q4 : s02 &&& ~~~(vset (ringG 4).1) = 0 := by decide +kernel
theorem o4' : natL (grF (lkS l4) 15#1024 2 (card 15#1024) 0) = [0, 1, 2, 3] := by decide +kernel
theorem o4 : natL (widO (ringG 4)) = [0, 1, 2, 3] := by rw [widO, w4, na4, v4]; exact o4'
theorem r4 : rchG (ringG 4) s0 1 = s23' := by decide +kernel
theorem eqlS {P : Program} {w0 : World} {L : Env} {dst : Option Tmp} {ty : TypeId} {pos : String} {aft : Array Edge} {g : Option (Nat × Bool)} {x y : Operand} {t yt e : TypeId} {S T : BS} (ht : P.underlying t = some (.array 16 e)) (he : P.underlying e = some (.int .u64)) (hs : TI P e false 1) (hm : P.eqGuardType P.depth t = false) (hx : opd L x = some (E (setV S))) (hy : opd L y = some (E (setV T))) :
  OpC P w0 L ⟨dst, .binOp .eql t x y yt, ty, pos, aft, g⟩ (E (.bool (S == T))) :=
 opc_eql hx hy (fun w => eqGuard_agg _ _ _ _ _ _ hm w) rfl fun w _ => by
  rw [← all_setC]
  exact run_equalIn_words ht he hs 9998 (word S) (word T) w
theorem s23_eq : (s23' == s23') = true := beq_self_eq_true _
theorem known23_spec (W : World) (hT : Tab W) : Calls Tryz.prog 6 #[] W (Post (E (B true)) W) := by
 have hT0 := hT.lt
 have G4 := ring_gok (n := 4) (by omega) (by omega)
 have hl1 : (ringG 4).1.length ≤ 12 := by decide
 have hl2 : (ringG 4).2.length ≤ 1000 := by decide
 have hsm := sml_ok G4 hl1 (all := vset (ringG 4).1) fun i h => h
 have hcv := Nat.le_trans (card_vset (ringG 4)) hl1
 have gs1 := G4.sv
 have gs2 := G4.se
 refine enter (args := []) (As := []) Tryz.func6 rfl Tryz.ntmps6 (Nat.le_of_ble_eq_true rfl) (fun i A h => by simp at h) (fun a hf => ?_) (Nat.le_of_ble_eq_true rfl)
 dsimp only [params, Nat.reduceAdd] at hf
 have e := Ext.rfl' W
 repeat refine seq ?_
 refine regn0 ?_
 refine tl_as hf rfl (by decide) fun a hf => ?_
 refine tl_nil ?_
 repeat refine seq ?_
 refine regn 1 hf (by decide +kernel) ?_
 refine st (call1 (A := Dv (ptE (grE 2000)) Go.Mono.G0 (some (ringG 4))) En16 rfl (fun v w he k => by cases k; exact ring_spec 4 (by omega) (by omega) w fun b hb => hb.elim)) ?_
 refine en fun a w e' hf => ?_
 replace hT := hT.ext e'
 replace e := e.tr e'
 refine tl_as hf rfl (by decide) fun a hf => ?_
 refine tl_nil ?_
 obtain ⟨gv, hgv, hf⟩ := hf.opn 1 rfl
 obtain ⟨W1, hW1⟩ : ∃ W1, W1 = w := ⟨_, rfl⟩
 have e1 : Ext W1 w := by rw [hW1]; exact Ext.rfl' _
 replace hgv : (Dv (ptE (grE 2000)) Go.Mono.G0 (some (ringG 4))).p gv W1 := by rw [hW1]; exact hgv
 clear hW1
 replace hf := hf.kp [0, 1]
 repeat refine seq ?_
 refine regn 6 hf (by decide +kernel) ?_
 refine st (mv rfl) ?_
 refine st (call1 (A := Tup [E (I 2), Dv (slE intE) Go.Mono.G0 [0, 1, 2, 3], E (I 0)]) En7 rfl (fun v w he k => by cases k; have := widthG_spec (ringG 4) gv w (hT.ext he) (VA.st _ _ _ _ (Ext.tr e1 he) hgv) gs1 gs2 hl1 (by omega) (by omega) hsm hcv (K := Go.Mono.G0) fun b hb => hb.elim; rwa [w4, o4] at this)) ?_
 refine st (mv rfl) ?_
 refine st (ext_ rfl rfl) ?_
 refine st (ext_ rfl rfl) ?_
 refine st (ext_ rfl rfl) ?_
 refine en fun a w e' hf => ?_
 replace hT := hT.ext e'
 replace e1 := Ext.tr e1 e'
 replace e := e.tr e'
 refine tl_as hf rfl (by decide) fun a hf => ?_
 refine tl_as hf rfl (by decide) fun a hf => ?_
 refine tl_as hf rfl (by decide) fun a hf => ?_
 refine tl_nil ?_
 replace hf := hf.kp [0, 1, 2, 3, 4]
 repeat refine seq ?_
 refine regn 7 hf (by decide +kernel) ?_
 refine st (mv rfl) ?_
 refine st (bsl2 (e := intE) (G := Go.Mono.G0) Tryz.underlying26 I3 rfl (by decide) rfl (fun b hb => hb.elim) (isI rfl) (isI rfl)) ?_
 refine st (call1 (A := E (setV s02)) En10 rfl (fun v w he h => of_spec [(0 : Int), 2] v w h (by decide))) ?_
 refine st (call2 (A := Tup [E (I 2), E (I 0)]) En17 rfl rfl (fun v u w he k k' => by cases k; cases k'; have := prefix_spec (ringG 4) s02 gv w (hT.ext he) (VA.st _ _ _ _ (Ext.tr e1 he) hgv) gs1 gs2 hl1 (by omega) (by omega) hcv; rwa [if_pos q4, if_pos q4, p4] at this)) ?_
 refine st (mv rfl) ?_
 refine st (ext_ rfl rfl) ?_
 refine st (ext_ rfl rfl) ?_
 refine en fun a w e' hf => ?_
 replace hT := hT.ext e'
 replace e1 := Ext.tr e1 e'
 replace e := e.tr e'
 refine tl_as hf rfl (by decide) fun a hf => ?_
 refine tl_as hf rfl (by decide) fun a hf => ?_
 refine tl_nil ?_
 replace hf := hf.kp [0, 1, 2, 3, 4, 5, 6]
 have dd : (decide (([0, 1, 2, 3] : List Int) = [0, 1, 2, 3])) = true := by decide
 repeat refine seq ?_
 refine regn 28 hf (by decide +kernel) ?_
 refine st (mv rfl) ?_
 refine st ((eql rfl rfl).eq (congrArg Value.bool (show ((2 : Int) == 2) = true from rfl))) ?_
 refine st (mv rfl) ?_
 refine sy rfl rfl (mv rfl) ?_
 refine sy rfl rfl (bslN (e := intE) (G := Go.Mono.G0) (zs := [0, 1, 2, 3]) (xs := [.const (.int .i64 0), .const (.int .i64 1), .const (.int .i64 2), .const (.int .i64 3)]) Tryz.underlying26 I3 rfl rfl (by decide) (by decide) rfl (fun b hb => hb.elim) ⟨isI rfl, isI rfl, isI rfl, isI rfl, trivial⟩) ?_
 refine sy rfl rfl (call2 (A := E (B true)) En18 rfl rfl (fun v u w he k k' => by have := same23_spec [0, 1, 2, 3] [0, 1, 2, 3] v u w k k' (by decide) (by decide); rwa [dd] at this)) ?_
 refine st (pkT rfl rfl) ?_
 refine st (mv rfl) ?_
 refine sy rfl rfl (mv rfl) ?_
 refine sy rfl rfl ((eql rfl rfl).eq (congrArg Value.bool (show ((0 : Int) == 0) = true from rfl))) ?_
 refine st (pkT rfl rfl) ?_
 refine st (mv rfl) ?_
 refine sy rfl rfl (mv rfl) ?_
 refine sy rfl rfl (bsl1 (e := intE) (G := Go.Mono.G0) Tryz.underlying26 I3 rfl (by decide) rfl (fun b hb => hb.elim) (isI rfl)) ?_
 refine sy rfl rfl (call1 (A := E (setV s0)) En10 rfl (fun v w he h => of_spec [(0 : Int)] v w h (by decide))) ?_
 refine sy rfl rfl (call3 (A := E (setV s23')) En19 rfl rfl rfl (fun v u s w he k k' k'' => by cases k; cases k'; cases k''; have := reachable_spec (ringG 4) s0 1 gv w (hT.ext he) (VA.st _ _ _ _ (Ext.tr e1 he) hgv) gs1 gs2 (by omega) (by omega) (by omega); rwa [r4] at this)) ?_
 refine sy rfl rfl (bsl2 (e := intE) (G := Go.Mono.G0) Tryz.underlying26 I3 rfl (by decide) rfl (fun b hb => hb.elim) (isI rfl) (isI rfl)) ?_
 refine sy rfl rfl (call1 (A := E (setV s23')) En10 rfl (fun v w he h => of_spec [(2 : Int), 3] v w h (by decide))) ?_
 refine sy rfl rfl ((eqlS Tryz.underlying39 Tryz.underlying37 T37 (by kernel_rfl) rfl rfl).eq (congrArg Value.bool (s23_eq))) ?_
 refine st (pkT rfl rfl) ?_
 refine st (mv rfl) ?_
 refine sy rfl rfl (mv rfl) ?_
 refine sy rfl rfl ((eql rfl rfl).eq (congrArg Value.bool (show ((2 : Int) == 2) = true from rfl))) ?_
 refine st (pkT rfl rfl) ?_
 refine st (mv rfl) ?_
 refine sy rfl rfl (mv rfl) ?_
 refine sy rfl rfl ((eql rfl rfl).eq (congrArg Value.bool (show ((0 : Int) == 0) = true from rfl))) ?_
 refine st (pkT rfl rfl) ?_
 refine en fun a w e' hf => ?_
 replace hT := hT.ext e'
 replace e1 := Ext.tr e1 e'
 replace e := e.tr e'
 refine tl_as hf rfl (by decide) fun a hf => ?_
 refine tl_nil ?_
 refine wret ?_
 try simp only [Exit.then, Exit.inBlock]
 refine ret1 rfl hf rfl ?_
 rintro _ rfl
 exact ⟨_, rfl, e, rfl⟩
end Go.Mono
