/-
  Walks and plain facts, in this order: Node, MonoW, MonoP, Below2, Leave, Words, Min, Range, Range2, Sets, Come, Down, Pop, Len, New.
  No condition.
-/
import Derived.Test.YtnhbkdliljcedaaGreatDoorWC
import Derived.Test.YtnhbkdliljcedaaGreatDoorWB
import Derived.Test.YtnhbkdliljcedaaGreatDoorWA
import Derived.RangeFuncRecord
set_option linter.unusedVariables false
set_option linter.unusedSimpArgs false
set_option linter.unusedVariables false
set_option linter.unusedSimpArgs false
namespace Go.Mono
open Go Go.Proofs Go.RowKit

/-- the cells of node i -/
def NdC (G : Nat → Prop) (w : World) (cells : Array Value) (i : Nat) (x : Nd) : Prop :=
  ∃ kv lv, cells[0 + i * 5 + 0]? = some kv ∧ cells[0 + i * 5 + 1]? = some lv ∧ cells[0 + i * 5 + 2]? = some (I x.2.2.1) ∧ cells[0 + i * 5 + 3]? = some (I x.2.2.2.1) ∧ cells[0 + i * 5 + 4]? = some (I x.2.2.2.2) ∧
    (Dv (slE intE) G x.1).p kv w ∧ (Dv (slE intE) G x.2.1).p lv w
structure NS (n : Nat) (G : Nat → Prop) (nd : Nat → Nd) (cells : Array Value) (w : World) : Prop where
  size : cells.size = n * 5
  nd : ∀ i, i < n → NdC G w cells i (nd i)
section
variable {n : Nat} {G G' : Nat → Prop} {nd : Nat → Nd} {cells : Array Value} {w w' W : World} {i : Nat}
theorem NS.map (h : NS n G nd cells w) (hd : ∀ (l : List Int) v, (Dv (slE intE) G l).p v w → (Dv (slE intE) G' l).p v w') : NS n G' nd cells w' :=
  ⟨h.size, fun i hi => by
    obtain ⟨kv, lv, h1, h2, h3, h4, h5, h6, h7⟩ := h.nd i hi
    exact ⟨kv, lv, h1, h2, h3, h4, h5, hd _ _ h6, hd _ _ h7⟩⟩
theorem NS.ext (h : NS n G nd cells w) (e : Ext w w') : NS n G nd cells w' := h.map fun l v hv => Dv.ex hv e
theorem NS.gr (h : NS n G nd cells w) {b : Nat} (hg : w.grownBy w' (some b)) (hb : G b) : NS n G nd cells w' := h.map fun l v hv => Dv.gr hv hg hb
theorem NS.ch (h : NS n G nd cells w) {S : Nat → Prop} (k : Chg S w w') (hS : ∀ b, S b → G b) : NS n G nd cells w' := h.map fun l v hv => Dv.ch hv k hS
theorem NS.toB (h : NS n G nd cells W) : NS n (GB W G) nd cells W := h.map fun l v hv => Dv.toB hv
theorem NS.weak (h : NS n G nd cells w) (hG : ∀ b, b < w.heap.size → G' b → G b) : NS n G' nd cells w := h.map fun l v hv => Dv.weak hv hG
theorem NS.congr {nd' : Nat → Nd} (h : NS n G nd cells w) (hn : ∀ i, i < n → nd i = nd' i) : NS n G nd' cells w := ⟨h.size, fun i hi => hn i hi ▸ h.nd i hi⟩
theorem NS.size_at (h : NS n G nd cells w) (hi : i < n) : cells[0 + i * 5 + 2]? = some (I (nd i).2.2.1) := by obtain ⟨kv, lv, h1, h2, h3, h4, h5, h6, h7⟩ := h.nd i hi; exact h3
theorem NS.heavy_at (h : NS n G nd cells w) (hi : i < n) : cells[0 + i * 5 + 3]? = some (I (nd i).2.2.2.1) := by obtain ⟨kv, lv, h1, h2, h3, h4, h5, h6, h7⟩ := h.nd i hi; exact h4
theorem NS.deep_at (h : NS n G nd cells w) (hi : i < n) : cells[0 + i * 5 + 4]? = some (I (nd i).2.2.2.2) := by obtain ⟨kv, lv, h1, h2, h3, h4, h5, h6, h7⟩ := h.nd i hi; exact h5
theorem NS.kids_at (h : NS n G nd cells w) (hi : i < n) : ∃ kv, cells[0 + i * 5 + 0]? = some kv ∧ (Dv (slE intE) G (nd i).1).p kv w := by obtain ⟨kv, lv, h1, h2, h3, h4, h5, h6, h7⟩ := h.nd i hi; exact ⟨kv, h1, h6⟩
/-- node i is x -/
def un (nd : Nat → Nd) (i : Nat) (x : Nd) : Nat → Nd := fun j => if j = i then x else nd j
theorem un_same {x : Nd} : un nd i x i = x := if_pos rfl
theorem un_ne {j : Nat} {x : Nd} (h : j ≠ i) : un nd i x j = nd j := if_neg h
theorem un_un {x y : Nd} : un (un nd i x) i y = un nd i y := by
  funext j
  unfold un
  split <;> rfl
theorem NS.set (h : NS n G nd cells w) {f : Nat} {v : Value} {x : Nd} (hf : f < 5) (hx : NdC G w (cells.setIfInBounds (0 + i * 5 + f) v) i x) : NS n G (un nd i x) (cells.setIfInBounds (0 + i * 5 + f) v) w := by
  refine ⟨by simp [h.size], fun j hj => ?_⟩
  by_cases hji : j = i
  · subst hji; rw [un_same]; exact hx
  · rw [un_ne hji]
    obtain ⟨kv, lv, h1, h2, h3, h4, h5, h6, h7⟩ := h.nd j hj
    refine ⟨kv, lv, ?_, ?_, ?_, ?_, ?_, h6, h7⟩
    all_goals rw [Array.getElem?_setIfInBounds_ne (by omega)]; assumption
theorem NS.bd (h : NS n G nd cells w) (hi : i < n) {f : Nat} (hf : f < 5) : 0 + i * 5 + f < cells.size := by rw [h.size]; omega
theorem NS.set_kids (h : NS n G nd cells w) (hi : i < n) {v : Value} {l : List Int} (hv : (Dv (slE intE) G l).p v w) : NS n G (un nd i (l, (nd i).2)) (cells.setIfInBounds (0 + i * 5 + 0) v) w := by
  obtain ⟨kv, lv, h1, h2, h3, h4, h5, h6, h7⟩ := h.nd i hi
  have hb := h.bd hi (f := 0) (by decide)
  refine h.set (by decide) ⟨v, lv, ?_, ?_, ?_, ?_, ?_, hv, h7⟩
  · simp [Array.getElem?_setIfInBounds]; omega
  all_goals rw [Array.getElem?_setIfInBounds_ne (by omega)]; assumption
theorem NS.set_light (h : NS n G nd cells w) (hi : i < n) {v : Value} {l : List Int} (hv : (Dv (slE intE) G l).p v w) : NS n G (un nd i ((nd i).1, l, (nd i).2.2)) (cells.setIfInBounds (0 + i * 5 + 1) v) w := by
  obtain ⟨kv, lv, h1, h2, h3, h4, h5, h6, h7⟩ := h.nd i hi
  have hb := h.bd hi (f := 1) (by decide)
  refine h.set (by decide) ⟨kv, v, ?_, ?_, ?_, ?_, ?_, h6, hv⟩
  rotate_left
  · simp [Array.getElem?_setIfInBounds]; omega
  all_goals rw [Array.getElem?_setIfInBounds_ne (by omega)]; assumption
theorem NS.set_size (h : NS n G nd cells w) (hi : i < n) (s : Int) : NS n G (un nd i ((nd i).1, (nd i).2.1, s, (nd i).2.2.2)) (cells.setIfInBounds (0 + i * 5 + 2) (I s)) w := by
  obtain ⟨kv, lv, h1, h2, h3, h4, h5, h6, h7⟩ := h.nd i hi
  have hb := h.bd hi (f := 2) (by decide)
  refine h.set (by decide) ⟨kv, lv, ?_, ?_, ?_, ?_, ?_, h6, h7⟩
  rotate_left 2
  · simp [Array.getElem?_setIfInBounds]; omega
  all_goals rw [Array.getElem?_setIfInBounds_ne (by omega)]; assumption
theorem NS.set_heavy (h : NS n G nd cells w) (hi : i < n) (s : Int) : NS n G (un nd i ((nd i).1, (nd i).2.1, (nd i).2.2.1, s, (nd i).2.2.2.2)) (cells.setIfInBounds (0 + i * 5 + 3) (I s)) w := by
  obtain ⟨kv, lv, h1, h2, h3, h4, h5, h6, h7⟩ := h.nd i hi
  have hb := h.bd hi (f := 3) (by decide)
  refine h.set (by decide) ⟨kv, lv, ?_, ?_, ?_, ?_, ?_, h6, h7⟩
  rotate_left 3
  · simp [Array.getElem?_setIfInBounds]; omega
  all_goals rw [Array.getElem?_setIfInBounds_ne (by omega)]; assumption
theorem NS.set_deep (h : NS n G nd cells w) (hi : i < n) (s : Int) : NS n G (un nd i ((nd i).1, (nd i).2.1, (nd i).2.2.1, (nd i).2.2.2.1, s)) (cells.setIfInBounds (0 + i * 5 + 4) (I s)) w := by
  obtain ⟨kv, lv, h1, h2, h3, h4, h5, h6, h7⟩ := h.nd i hi
  have hb := h.bd hi (f := 4) (by decide)
  refine h.set (by decide) ⟨kv, lv, ?_, ?_, ?_, ?_, ?_, h6, h7⟩
  rotate_left 4
  · simp [Array.getElem?_setIfInBounds]; omega
  all_goals rw [Array.getElem?_setIfInBounds_ne (by omega)]; assumption
theorem un_self (nd : Nat → Nd) (i : Nat) : un nd i (nd i) = nd := by
  funext j
  unfold un
  split
  · subst_vars; rfl
  · rfl
theorem NS.size' {k l : List Int} {s hv d : Int} (h : NS n G (un nd i (k, l, s, hv, d)) cells w) (hi : i < n) (s' : Int) : NS n G (un nd i (k, l, s', hv, d)) (cells.setIfInBounds (0 + i * 5 + 2) (I s')) w := by
  have := h.set_size hi s'
  rw [un_un] at this
  simpa only [un_same] using this
theorem NS.heavy' {k l : List Int} {s hv d : Int} (h : NS n G (un nd i (k, l, s, hv, d)) cells w) (hi : i < n) (s' : Int) : NS n G (un nd i (k, l, s, s', d)) (cells.setIfInBounds (0 + i * 5 + 3) (I s')) w := by
  have := h.set_heavy hi s'
  rw [un_un] at this
  simpa only [un_same] using this
theorem NS.light' {k l l' : List Int} {s hv d : Int} {v : Value} (h : NS n G (un nd i (k, l, s, hv, d)) cells w) (hi : i < n) (hl : (Dv (slE intE) G l').p v w) : NS n G (un nd i (k, l', s, hv, d)) (cells.setIfInBounds (0 + i * 5 + 1) v) w := by
  have := h.set_light hi hl
  rw [un_un] at this
  simpa only [un_same] using this
end

theorem new31_spec (x : Int) (b3 bn off : Nat) (hv : Int) (cells : Array Value) (W : World) (B3 : Blk W b3 #[.pointer (some ⟨bn, off, none⟩)] 145) (BN : Blk W bn cells 134) (hc : cells[off + 3]? = some (I hv)) :
    Calls Tryz.prog 99 #[I x, .pointer (some ⟨b3, 0, none⟩)] W (Post (E (B (x == hv))) W) := by
  refine enter (args := [I x, .pointer (some ⟨b3, 0, none⟩)]) (As := [E (I x), E (.pointer (some ⟨b3, 0, none⟩))]) Tryz.func99 rfl Tryz.ntmps99 (Nat.le_of_ble_eq_true rfl) ?_ (fun a hf => ?_) (Nat.le_of_ble_eq_true rfl)
  rotate_left
  dsimp only [params, Nat.reduceAdd] at hf
  rotate_right
  · exact arg2 rfl rfl
  have e := Ext.rfl' W
  repeat refine seq ?_
  refine regn0 ?_
  refine tl_as hf rfl (by decide) fun a hf => ?_
  refine tl_nil ?_
  repeat refine seq ?_
  refine regn 6 hf (by decide +kernel) ?_
  refine st (mv rfl) ?_
  refine st (ld1 T145 rfl B3 rfl) ?_
  refine st (nilE rfl) ?_
  refine st (fldA Tryz.underlying134 rfl T3 (by decide) rfl) ?_
  refine st (ld1 T3 rfl BN hc) ?_
  refine st (eql rfl rfl) ?_
  refine en fun a w e' hf => ?_
  replace e := Ext.tr e e'
  replace B3 := B3.ext e'
  replace BN := BN.ext e'
  clear e'
  refine tl_as hf rfl (by decide) fun a hf => ?_
  refine tl_nil ?_
  refine wret ?_
  try simp only [Exit.then, Exit.inBlock]
  refine ret1 rfl hf rfl ?_
  rintro _ rfl
  exact ⟨_, rfl, e, rfl⟩
end Go.Mono

set_option linter.unusedVariables false
set_option linter.unusedSimpArgs false
namespace Go.Mono
open Go Go.RowKit
theorem wf_small {n : Nat} (h : n ≤ 1000000) : (Lit.int .i64 (n : Int)).wf = true := by
  have h1 : IntKind.i64.min = -9223372036854775808 := by decide
  have h2 : IntKind.i64.max = 9223372036854775807 := by decide
  simp only [Lit.wf, h1, h2, Bool.and_eq_true, decide_eq_true_eq]
  omega
section
variable {P : Program} {k e : TypeId} {w w' : World} {b : Nat} {m : Int → Option Int}
theorem MapR.ext {n : Nat} (h : MapR P k e w b n m) (e' : Ext w w') : MapR P k e w' b n m := h.pres (e'.block b h.lt)
theorem MapR.gr {n : Nat} (h : MapR P k e w b n m) {c : Nat} (hg : w.grownBy w' (some c)) (hne : b ≠ c) : MapR P k e w' b n m := h.pres (hg.block b h.lt (by simpa using hne))
theorem MapR.ch {n : Nat} (h : MapR P k e w b n m) {S : Nat → Prop} (c : Chg S w w') (hS : ¬S b) : MapR P k e w' b n m := h.pres (c.block b h.lt hS)
end
section tail
variable {P : Program} {L : Env} {ty : TypeId} {pos : String} {aft : Array Edge} {r : Option Nat} {ds : List Deferred}
variable {ops : Array Oper} {rest : List Oper} {Q : Exit → Act → World → Prop} {n : Nat} {a : Act} {w : World} {x y z : Operand} {k e : TypeId}
/-- m[i] = c -/
theorem tl_mput {t : TypeId} {bm nn : Nat} {m : Int → Option Int} {i c : Int} (hk : P.underlying k = some (.int .i64)) (he : P.underlying e = some (.int .i64)) (ht : P.underlying t = some (.map k e)) (hf : FrD n ds a w L) [hL : AvL bm L] (hx : opd L x = some (E (.map (some bm))))
    (hy : opd L y = some (E (.int .i64 i))) (hz : opd L z = some (E (.int .i64 c))) (hM : MapR P k e w bm nn m) (hn : nn < maxLen) (hi : (Lit.int .i64 i).wf = true) (hc : (Lit.int .i64 c).wf = true)
    (kk : ∀ w', w.grownBy w' (some bm) → MapR P k e w' bm (nn + 1) (fun y => if y = i then some c else m y) → FrD n ds a w' L → wpListIn (FW r) 0 P ops Q rest a w') :
    wpListIn (FW r) 0 P ops Q (⟨none, .mapUpdate t x y z, ty, pos, aft, none⟩ :: rest) a w :=
  wpListIn_plain rfl fun K hK => by
    have hxv : a.eval x = .map (some bm) := hf.opd x _ hx
    have hyv : a.eval y = .int .i64 i := hf.opd y _ hy
    have hzv : a.eval z = .int .i64 c := hf.opd z _ hz
    obtain ⟨w', h1, h2, h3⟩ := run_mapPut hM hk he ht hn hi hc
    refine OpR.wp (R := fun _ w1 => w1 = w') ?_ ?_
    · simp only [OpR, execOp, hxv, hyv, hzv, Sem.run_bind, h1, Result.andThen_ok, Sem.run_pure]
    · rintro _ w1 rfl
      exact hK _ _ (kk _ h3 h2 (hf.gr h3))
end tail
end Go.Mono
namespace Go.Mono
open Go Go.RowKit
section
variable {P : Program} {w0 : World} {L : Env} {dst : Option Tmp} {ty : TypeId} {pos : String} {aft : Array Edge} {g : Option (Nat × Bool)} {t : TypeId}
/-- a struct of three parts, one cell each -/
def B3A (A0 A1 A2 : VA) : VA := ⟨fun v w => ∃ u0 u1 u2, v = .agg #[u0, u1, u2] ∧ A0.p u0 w ∧ A1.p u1 w ∧ A2.p u2 w, fun v w w' e ⟨u0, u1, u2, h, h0, h1, h2⟩ => ⟨u0, u1, u2, h, A0.st _ _ _ e h0, A1.st _ _ _ e h1, A2.st _ _ _ e h2⟩⟩
theorem bld3 {i0 i1 i2 : Operand} {A0 A1 A2 : VA} (h0 : opd L i0 = some A0) (h1 : opd L i1 = some A1) (h2 : opd L i2 = some A2) (hb : ∀ u0 u1 u2 w, A0.p u0 w → A1.p u1 w → A2.p u2 w → P.built t [(0, u0), (1, u1), (2, u2)] = some #[u0, u1, u2]) :
    OpC P w0 L ⟨dst, .build t #[(0, i0), (1, i1), (2, i2)], ty, pos, aft, g⟩ (B3A A0 A1 A2) :=
  opc_pure fun ρ w he hv => by
    have a0 := hv i0 (by simp [Op.operands]) _ h0
    have a1 := hv i1 (by simp [Op.operands]) _ h1
    have a2 := hv i2 (by simp [Op.operands]) _ h2
    refine ⟨.agg #[ρ i0, ρ i1, ρ i2], ?_, _, _, _, rfl, a0, a1, a2⟩
    simp only [execOp, List.map_toArray, List.map_cons, List.map_nil, Sem.run_bind, run_build w t _ _ (by simpa using hb _ _ _ _ a0 a1 a2), Result.andThen_ok, Sem.run_pure]
theorem xcall4Z {S : Nat → Prop} {F : World → Prop} {f : FuncId} {x y z u : Operand} {tys : Array TypeId} {A B C D E' : VA} (hf : Proofs.Enters P f) (hx : opd L x = some B) (hy : opd L y = some C) (hz : opd L z = some D) (hu : opd L u = some E')
    (h : ∀ v1 v2 v3 v4 w, Ext w0 w → B.p v1 w → C.p v2 w → D.p v3 w → E'.p v4 w → Calls P f #[v1, v2, v3, v4] w (fun e w' => ∃ r, e = .returned r ∧ Chg S w w' ∧ A.p r w' ∧ F w')) :
    XOpZ P w0 S F L ⟨dst, .call ⟨.value (.func f), #[x, y, z, u], tys⟩, ty, pos, aft, none⟩ A := by
  refine ⟨fun ρ w he hv => ?_⟩
  have hfv : ρ (.func f) = .func (.func f) #[] #[] := hv (.func f) (by simp [Op.operands, Call.operands]) _ rfl
  have hrun : (execOp ρ ⟨dst, .call ⟨.value (.func f), #[x, y, z, u], tys⟩, ty, pos, aft, none⟩).run P w = .ok (.enter f (#[x, y, z, u].map ρ)) w := by
    simp [execOp, resolve, hfv, Deferred.ofValue, invoke, hf #[ρ x, ρ y, ρ z, ρ u] w]
  simp only [OpR, hrun]
  have := h (ρ x) (ρ y) (ρ z) (ρ u) w he (hv x (by simp [Op.operands, Call.operands]) _ hx) (hv y (by simp [Op.operands, Call.operands]) _ hy) (hv z (by simp [Op.operands, Call.operands]) _ hz) (hv u (by simp [Op.operands, Call.operands]) _ hu)
  simpa using this
theorem Dv.r1 {α : Type} {e : Enc α} {G : Nat → Prop} {x : α} {v : Value} {w : World} (ha : e.agg = false) (h : (Dv e G x).p v w) : e.r G w x [v] := by
  obtain ⟨cs, h1, h2⟩ := h
  have hl := e.len h1
  rw [e.k1 ha] at hl
  match cs, hl with
  | [u], _ =>
    rw [Enc.pack, ha] at h2
    have : v = u := h2
    rw [this]; exact h1
theorem Dv.slF {α : Type} {e : Enc α} {G : Nat → Prop} {xs : List α} {v : Value} {w : World} (h : (Dv (slE e) G xs).p v w) : ∃ ao n c, v = .slice ao n c := by
  rcases Dv.sl.1 h with ⟨rfl, _⟩ | ⟨ad, cap, cs, rfl, _⟩
  · exact ⟨_, _, _, rfl⟩
  · exact ⟨_, _, _, rfl⟩
end
theorem madeCells_get {z : Array Value} {k n i f : Nat} (hz : z.size = k) (hf : f < k) (hi : i < n) : (madeCells z (n * k))[0 + i * k + f]? = z[f]? := by
  have hlt : i * k + f < n * k := by
    have : (i + 1) * k ≤ n * k := Nat.mul_le_mul_right _ hi
    rw [Nat.add_mul, Nat.one_mul] at this
    omega
  have hm : (0 + i * k + f) % z.size = f := by rw [hz, Nat.zero_add, Nat.mul_comm, Nat.mul_add_mod]; exact Nat.mod_eq_of_lt hf
  have hfz : f < z.size := by omega
  rw [madeCells, Array.getElem?_map, Array.getElem?_range, if_pos (by omega)]
  simp only [Option.map_some, hm]
  simp [hfz]
end Go.Mono
namespace Go.Mono
open Go Go.RowKit
/-- a new variable -/
def AlA (B : Nat) (z : Value) (e : TypeId) : VA := ⟨fun v w => ∃ b, B ≤ b ∧ v = .pointer (some ⟨b, 0, none⟩) ∧ Blk w b z.cells e, fun v w w' k ⟨b, h1, h2, h3⟩ => ⟨b, h1, h2, h3.ext k⟩⟩
theorem alD {P : Program} {w0 : World} {L : Env} {dst : Option Tmp} {ty : TypeId} {pos : String} {aft : Array Edge} {g : Option (Nat × Bool)} {e : TypeId} {z : Value} {sz bz : Nat} (hz : (P.info? e).map (fun i => (i.zero, i.size, i.bytes)) = some (some z, sz, bz)) :
    OpC P w0 L ⟨dst, .alloc e, ty, pos, aft, g⟩ (AlA w0.heap.size z e) := by
  refine ⟨fun ρ w he hv => ?_⟩
  obtain ⟨i, hi, hzi, _, _⟩ := info_parts hz
  simp only [OpR, execOp, Instr.alloc, zeroValue, typeInfo, hi, hzi, Sem.run_bind, Sem.run_pure, run_newVar, Result.andThen_ok]
  simp [hi, hzi, run_newVar]
  exact ⟨ext_alloc _ _, _, he.size, rfl, blk_alloc _ _ _⟩
theorem Blk.ne {w : World} {a b : Nat} {cs cs' : Array Value} {t t' : TypeId} (h : Blk w a cs t) (h' : Blk w b cs' t') (ht : t ≠ t') : a ≠ b := by
  rintro rfl
  unfold Blk at h h'
  rw [h] at h'
  simp at h'
  exact ht h'.2
theorem Blk.neM {P : Program} {w : World} {a b : Nat} {cs : Array Value} {t k e : TypeId} {n : Nat} {m : Int → Option Int} (h : Blk w a cs t) (h' : MapR P k e w b n m) : a ≠ b := by
  rintro rfl
  obtain ⟨D, ⟨es, clock, h3, _⟩, _⟩ := h'
  unfold Blk at h
  rw [h] at h3; cases h3
end Go.Mono

set_option linter.unusedVariables false
namespace Go.Mono
open Go Go.Proofs Go.RowKit

theorem OwR.neB {α : Type} {e : Enc α} {ty : TypeId} {B : Nat} {G : Nat → Prop} {w : World} {xs : List α} {v : Value} (h : OwR e ty B G w xs v) {b : Nat} {cs : Array Value} {t : TypeId} (hb : Blk w b cs t) (ht : t ≠ ty) : v.ownBlock ≠ some b := fun hv => by
  obtain ⟨cs', h1, _⟩ := h.own
  rcases h1.2 with ⟨rfl, _⟩ | ⟨g, cap, cur, rfl, _, hg, _⟩
  · simp [Value.ownBlock] at hv
  · simp only [Value.ownBlock, Option.some.injEq] at hv
    subst hv
    exact (Blk.ne hb hg ht) rfl
theorem OwR.neM {α : Type} {e : Enc α} {ty : TypeId} {B : Nat} {G : Nat → Prop} {w : World} {xs : List α} {v : Value} (h : OwR e ty B G w xs v) {P : Program} {b n : Nat} {k el : TypeId} {m : Int → Option Int} (hb : MapR P k el w b n m) : v.ownBlock ≠ some b := fun hv => by
  obtain ⟨cs', h1, _⟩ := h.own
  rcases h1.2 with ⟨rfl, _⟩ | ⟨g, cap, cur, rfl, _, hg, _⟩
  · simp [Value.ownBlock] at hv
  · simp only [Value.ownBlock, Option.some.injEq] at hv
    subst hv
    exact (Blk.neM (t := ty) (cs := cur) hg hb) rfl
theorem OwR.chE {α : Type} {e : Enc α} [FlE e] {ty : TypeId} {B : Nat} {G : Nat → Prop} {w w' : World} {xs : List α} {v : Value} {S : Nat → Prop} (h : OwR e ty B G w xs v) (c : Chg S w w') (hS : ∀ b, v.ownBlock = some b → ¬S b) : OwR e ty B G w' xs v := by
  obtain ⟨cs, h1, h2⟩ := h.own
  refine ⟨⟨cs, ⟨h1.1, ?_⟩, Cells.fl h2⟩, h.av, Nat.le_trans h.base c.size⟩
  rcases h1.2 with h3 | ⟨g, cap, cur, a1, a2, a3, a4⟩
  · exact .inl h3
  · refine .inr ⟨g, cap, cur, a1, a2, ?_, a4⟩
    rw [c.block g (Array.getElem?_eq_some_iff.1 a3).1 (hS g (by rw [a1]; rfl))]
    exact a3
theorem call4 {P : Program} {w0 : World} {L : Env} {dst : Option Tmp} {ty : TypeId} {pos : String} {aft : Array Edge} {g : Option (Nat × Bool)} {f : FuncId} {x y z u : Operand} {tys : Array TypeId} {A B C D F : VA} (hf : Proofs.Enters P f) (hx : opd L x = some B) (hy : opd L y = some C) (hz : opd L z = some D) (hu : opd L u = some F)
    (h : ∀ v u s t w, Ext w0 w → B.p v w → C.p u w → D.p s w → F.p t w → Calls P f #[v, u, s, t] w (Post A w)) :
    OpC P w0 L ⟨dst, .call ⟨.value (.func f), #[x, y, z, u], tys⟩, ty, pos, aft, g⟩ A :=
  opc_call hf fun ρ w he hv => by
    simpa using h (ρ x) (ρ y) (ρ z) (ρ u) w he (hv x (by simp [Op.operands, Call.operands]) _ hx) (hv y (by simp [Op.operands, Call.operands]) _ hy) (hv z (by simp [Op.operands, Call.operands]) _ hz) (hv u (by simp [Op.operands, Call.operands]) _ hu)
/-- the end of a function: what a block holds and a slot -/
theorem ret2c {P : Program} {fn : Func} {t u s k : Nat} {R : Ending → World → Prop} {n : Nat} {a : Act} {w : World} {L : Env} {b : Nat} {cs : Array Value} {bt : TypeId} {A : VA} (hr : fn.results = #[.cell t u, .tmp s]) (ht : TI P u true k) (hf : Fr n a w L) (h : look L t = some (E (.pointer (some ⟨b, 0, none⟩)))) (h' : look L s = some A)
    (hb : Blk w b cs bt) (hs : cs.size = k) (hR : ∀ x, A.p x w → R (.returned (.tuple #[.agg cs, x])) w) : bodyPost P fn R .ret a w := by
  have hv : a.tmps.getD t undef = .pointer (some ⟨b, 0, none⟩) := hf.val t _ h
  have hv' : a.tmps[t]?.getD undef = .pointer (some ⟨b, 0, none⟩) := by simpa using hv
  obtain ⟨d, h1, h2⟩ := ht.u
  have hl := run_loadVar_row (P := P) w b bt u cs (0, 0) d hb h1 (by cases d <;> simp_all) (by rw [ht.s, hs])
  exact ⟨hf.defers, .tuple #[.agg cs, a.eval (.tmp s)], by simp [results, hr, Act.eval, hv', asAddr, hl], hR _ (hf.val s A h')⟩
theorem makeF5 {P : Program} {w0 : World} {L : Env} {dst : Option Tmp} {ty : TypeId} {pos : String} {aft : Array Edge} {g : Option (Nat × Bool)} {fn : Fn} {x1 x2 x3 x4 x5 : Operand} {v1 v2 v3 v4 v5 : Value} (h1 : opd L x1 = some (E v1)) (h2 : opd L x2 = some (E v2)) (h3 : opd L x3 = some (E v3)) (h4 : opd L x4 = some (E v4)) (h5 : opd L x5 = some (E v5)) :
    OpC P w0 L ⟨dst, .makeFunc fn #[] #[x1, x2, x3, x4, x5], ty, pos, aft, g⟩ (E (.func fn #[] #[v1, v2, v3, v4, v5])) :=
  opc_pure fun ρ w _ hv => ⟨_, by
    have a1 := opE hv (x := x1) (by simp [Op.operands]) h1
    have a2 := opE hv (x := x2) (by simp [Op.operands]) h2
    have a3 := opE hv (x := x3) (by simp [Op.operands]) h3
    have a4 := opE hv (x := x4) (by simp [Op.operands]) h4
    have a5 := opE hv (x := x5) (by simp [Op.operands]) h5
    simp [execOp, Instr.makeFunc, a1, a2, a3, a4, a5], rfl⟩
end Go.Mono

set_option linter.unusedVariables false
namespace Go.Mono
open Go Go.Proofs Go.RowKit

theorem below2_spec {G G2 : Nat → Prop} (t : List (Int × BS)) (v : Value) (W : World) (h : (Dv treeE G t).p v W) (hG : ∀ b, G2 b → b < W.heap.size) (hl : t.length ≤ 4096) (hr : Rng t) :
    Calls Tryz.prog 129 #[v] W (Post (Dv (slE (slE intE)) G2 (belowT t)) W) := by
  refine enter (args := [v]) (As := [Dv treeE (GB W G) t]) Tryz.func129 rfl Tryz.ntmps129 (Nat.le_of_ble_eq_true rfl) ?_ (fun a hf => ?_) (Nat.le_of_ble_eq_true rfl)
  rotate_left
  dsimp only [params, Nat.reduceAdd] at hf
  rotate_right
  · exact arg1 (Dv.toB h)
  have e := Ext.rfl' W
  repeat refine seq ?_
  refine regn0 ?_
  refine tl_as hf rfl (by decide) fun a hf => ?_
  refine tl_nil ?_
  repeat refine seq ?_
  refine regn 2 hf (by decide +kernel) ?_
  refine st (mv rfl) ?_
  refine st (lenD Tryz.underlying23 (isR rfl)) ?_
  refine en fun a w e' hf => ?_
  replace e := Ext.tr e e'
  clear e'
  refine tl_mk Tryz.underlying141 I59 rfl hf (by decide) rfl (by omega) (by decide) fun a b8 w e' hb8 hs8 B8 hf => ?_
  have hle8 := Nat.le_trans e.size (Nat.le_of_eq hb8.symm)
  replace e := Ext.tr e e'
  clear e'
  refine tl_as hf rfl (by decide) fun a hf => ?_
  refine tl_nil ?_
  have HR : Rows 3 W.heap.size G2 w b8 (belowTo t 0) (List.replicate t.length (.slice none 0 0)) := by rw [belowTo_zero]; exact Rows.nil e.size hG
  have hlen : (List.replicate t.length (Value.slice none 0 0)).length = t.length := by simp
  repeat refine seq ?_
  refine regn 3 hf (by decide +kernel) ?_
  refine st (mv rfl) ?_
  refine st (lenD Tryz.underlying23 (isR rfl)) ?_
  refine st (mv rfl) ?_
  refine en fun a w e' hf => ?_
  replace e := Ext.tr e e'
  replace B8 := B8.ext e'
  replace HR := HR.ext e'
  clear e'
  refine tl_nil ?_
  replace hf := hf.keep [3, 9, 10, 11]
  dsimp only [keep, List.filterMap, look, Nat.beq, Option.map] at hf
  repeat refine seq ?_
  refine blk (loopN (fun r0 a w => ∃ (k : Nat) (vs : List Value), r0 = t.length - k ∧ k ≤ t.length ∧ Fr 33 a w [(3, E (.slice (some ⟨b8, 0, none⟩) t.length t.length)), (9, Dv treeE (GB W G) t), (10, E (I (t.length : Nat))), (11, E (I k))] ∧ Ext W w ∧ Blk w b8 vs.toArray 59 ∧ vs.length = t.length ∧ Rows 3 W.heap.size G2 w b8 (belowTo t k) vs) t.length ⟨0, _, rfl, by omega, hf, e, B8, hlen, HR⟩ ?_)
  clear hf e; try clear B8; try clear hlen; try clear HR
  rintro r0 a w ⟨k, vs, rfl, hk, hf, e, B8, hlen, HR⟩
  repeat refine seq ?_
  refine regn 1 hf (by decide +kernel) ?_
  refine st (lss rfl rfl) ?_
  refine en fun a w e' hf => ?_
  replace e := Ext.tr e e'
  replace B8 := B8.ext e'
  replace HR := HR.ext e'
  clear e'
  refine tl_nil ?_
  repeat refine seq ?_
  refine ifc hf rfl (fun hc => wskip ?_) (fun hc => wexit ?_)
  rotate_left
  rotate_left
  · have hlt : k < t.length := by have := of_decide_eq_true hc; (try dsimp only at this); omega
    clear hc
    replace hf := hf.keep [3, 9, 10, 11]
    dsimp only [keep, List.filterMap, look, Nat.beq, Option.map] at hf
    repeat refine seq ?_
    refine blk ?_
    have hx := bg_get hlt
    have hrk := hr k hlt
    repeat refine seq ?_
    refine regn0 ?_
    refine tl_op hf (by decide) (mv rfl) fun a w e' hf => ?_
    replace e := Ext.tr e e'
    replace B8 := B8.ext e'
    replace HR := HR.ext e'
    clear e'
    refine tl_op hf (by decide) (idxD Tryz.underlying23 S69 (isR rfl) rfl (by omega) (hx)) fun a w e' hf => ?_
    replace e := Ext.tr e e'
    replace B8 := B8.ext e'
    replace HR := HR.ext e'
    clear e'
    refine tl_op hf (by decide) (ldBag T69 (isR rfl)) fun a w e' hf => ?_
    replace e := Ext.tr e e'
    replace B8 := B8.ext e'
    replace HR := HR.ext e'
    clear e'
    refine tl_alloc I69 hf (by decide) fun a b5 w e' hb5 hs5 B5 hf => ?_
    have hle5 := Nat.le_trans e.size (Nat.le_of_eq hb5.symm)
    have ne5_HR := HR.ne_new hb5
    have lt5_B8 := B8.lt
    replace e := Ext.tr e e'
    replace B8 := B8.ext e'
    replace HR := HR.ext e'
    clear e'
    refine tl_as hf rfl (by decide) fun a hf => ?_
    haveI hinr : ∀ G0, InR (GB W G0) (some b5) := fun G0 => InR.gb (by omega)
    refine tl_stW T69 hf rfl rfl (bagC_one _) B5 rfl (bagC_size _) fun w hg hsz B5 hf => ?_
    replace e := e.gr hg (by omega)
    replace B8 := B8.gr hg (by omega)
    replace HR := HR.gr hg (by assumption)
    clear hg
    refine tl_nil ?_
    repeat refine seq ?_
    refine regn 3 hf (by decide +kernel) ?_
    refine st (fldA Tryz.underlying69 rfl T3 (by decide) rfl) ?_
    refine st (ld1 T3 rfl B5 (bagC_0 _)) ?_
    refine st (neq rfl rfl) ?_
    refine en fun a w e' hf => ?_
    replace e := Ext.tr e e'
    replace B8 := B8.ext e'
    replace HR := HR.ext e'
    replace B5 := B5.ext e'
    clear e'
    refine tl_nil ?_
    repeat refine seq ?_
    refine ifc hf rfl (fun hb => ?_) (fun hb => ?_)
    · have hne : (bg t k).1 ≠ -1 := by simpa using hb
      obtain ⟨p, hp⟩ : ∃ p : Nat, (bg t k).1 = (p : Int) := ⟨(bg t k).1.toNat, by omega⟩
      have hpl : p < t.length := by omega
      have hvp : vs[p]? = some (vs[p]'(by omega)) := by simp
      obtain ⟨u, hu⟩ : ∃ u, u = vs[p]'(by omega) := ⟨_, rfl⟩
      rw [← hu] at hvp
      obtain ⟨Ho, hob⟩ := HR.at' p u _ hvp (belowTo_get hpl)
      have n5 : u.ownBlock ≠ some b5 := ne5_HR p u hvp
      have hsel := selN_len (fun i => decide ((bg t i).1 = (p : Int))) k
      haveI hin : ∀ G0, InR (GB W G0) u.ownBlock := OwR.inGB Ho (Nat.le_refl _)
      replace hf := hf.keep [3, 4, 5, 9, 10, 11]
      dsimp only [keep, List.filterMap, look, Nat.beq, Option.map] at hf
      have h8 := B8.lt
      repeat refine seq ?_
      refine regX 12 10 u.ownBlock (by decide) Mix.mix hf (by decide +kernel) ?_
      refine xm (fun w1 h1 => mv rfl) ?_
      refine xm (fun w1 h1 => fldA Tryz.underlying69 rfl T3 (by decide) rfl) ?_
      refine xm (fun w1 h1 => (ld1 T3 rfl (B5.gro h1 n5) (bagC_0 _)).eq (congrArg (Value.int .i64) hp)) ?_
      refine xm (fun w1 h1 => mv rfl) ?_
      refine xm (fun w1 h1 => fldA Tryz.underlying69 rfl T3 (by decide) rfl) ?_
      refine xm (fun w1 h1 => (ld1 T3 rfl (B5.gro h1 n5) (bagC_0 _)).eq (congrArg (Value.int .i64) hp)) ?_
      refine xm (fun w1 h1 => idxS Tryz.underlying141 S59 rfl rfl (by omega)) ?_
      refine xm (fun w1 h1 => ld1 T59 rfl (B8.gro h1 hob) (get_arr hvp)) ?_
      refine xm (fun w1 h1 => mv rfl) ?_
      refine xm (fun w1 h1 => bsl1 Tryz.underlying59 I3 rfl (by decide) rfl (fun b hb => Nat.lt_of_lt_of_le (Ho.avs b hb) h1.size) (isI rfl)) ?_
      refine xx (xapp Tryz.underlying59 I3 rfl rfl rfl Ho rfl (by simp only [List.length_singleton, kidT]; omega) (by simp only [List.length_singleton, kidT, maxLen]; omega)) ?_
      refine xn (fun w1 h1 => idxS Tryz.underlying141 S59 rfl rfl (by omega)) ?_
      refine xe fun a w hg hf => ?_
      obtain ⟨v', ⟨Hn, hat⟩, hf⟩ := hf.fix 29 rfl
      replace e := e.gro hg (Ho.row (Nat.le_refl _))
      replace HR := HR.upd hvp hg Hn hat h8
      replace B8 := B8.gro hg hob
      have hone := Hn.one
      have hbo := HR.ne_bo
      clear Ho Hn hg hat B5
      rw [← belowTo_succ hp hpl] at HR
      replace hf := hf.keep [3, 9, 10, 11, 29, 30]
      dsimp only [keep, List.filterMap, look, Nat.beq, Option.map] at hf
      haveI hinr : ∀ G0, InR (GB W G0) (some b8) := fun G0 => InR.gb (by omega)
      refine tl_st1 T59 hf rfl rfl hone B8 (by simp; omega) fun w hg hsz B8 hf => ?_
      replace e := e.gr hg (by omega)
      replace HR := HR.gr hg hbo
      rw [set_arr] at B8
      refine tl_nil ?_
      try simp only [Exit.then, Exit.inBlock, ↓reduceIte]
      repeat refine seq ?_
      refine regn 1 hf (by decide +kernel) ?_
      refine st ((add rfl rfl (by omega)).eq (congrArg (Value.int .i64) (show (k : Int) + 1 = ((k + 1 : Nat) : Int) from rfl))) ?_
      refine en fun a w e' hf => ?_
      replace e := Ext.tr e e'
      replace B8 := B8.ext e'
      replace HR := HR.ext e'
      clear e'
      refine tl_op hf (by decide) (mv rfl) fun a w e' hf => ?_
      replace e := Ext.tr e e'
      replace B8 := B8.ext e'
      replace HR := HR.ext e'
      clear e'
      refine tl_nil ?_
      replace hf := hf.keep [3, 9, 10, 11]
      dsimp only [keep, List.filterMap, look, Nat.beq, Option.map] at hf
      refine ⟨_, ?_, k + 1, vs.set p v', rfl, by omega, hf, e, ?_⟩
      · omega
      exact ⟨B8, by simpa using hlen, HR⟩
    · have hne : (bg t k).1 = -1 := by simpa using hb
      refine wskip ?_
      try simp only [Exit.then, Exit.inBlock, ↓reduceIte]
      try simp only [Exit.then, Exit.inBlock, ↓reduceIte]
      repeat refine seq ?_
      refine regn 1 hf (by decide +kernel) ?_
      refine st ((add rfl rfl (by omega)).eq (congrArg (Value.int .i64) (show (k : Int) + 1 = ((k + 1 : Nat) : Int) from rfl))) ?_
      refine en fun a w e' hf => ?_
      replace e := Ext.tr e e'
      replace B5 := B5.ext e'
      replace B8 := B8.ext e'
      replace HR := HR.ext e'
      clear e'
      refine tl_op hf (by decide) (mv rfl) fun a w e' hf => ?_
      replace e := Ext.tr e e'
      replace B5 := B5.ext e'
      replace B8 := B8.ext e'
      replace HR := HR.ext e'
      clear e'
      refine tl_nil ?_
      replace hf := hf.keep [3, 9, 10, 11]
      dsimp only [keep, List.filterMap, look, Nat.beq, Option.map] at hf
      refine ⟨_, ?_, k + 1, vs, rfl, by omega, hf, e, ?_⟩
      · omega
      exact ⟨B8, hlen, by rw [belowTo_none hne]; exact HR⟩
  · obtain rfl : k = t.length := by have := of_decide_eq_false hc; (try dsimp only at this); omega
    clear hc
    simp only [Exit.then, Exit.inBlock, ↓reduceIte]
    repeat refine seq ?_
    refine regn 1 hf (by decide +kernel) ?_
    refine st (mv rfl) ?_
    refine en fun a w e' hf => ?_
    replace e := Ext.tr e e'
    replace B8 := B8.ext e'
    replace HR := HR.ext e'
    clear e'
    refine tl_as hf rfl (by decide) fun a hf => ?_
    refine tl_nil ?_
    have hd := HR.dv B8 (fun hg => by have := hG _ hg; omega) (Nat.le_of_eq (belowTo_len t _))
    rw [belowTo_len] at hd
    refine wret ?_
    try simp only [Exit.then, Exit.inBlock]
    refine ret1 rfl hf rfl ?_
    rintro _ rfl
    exact ⟨_, rfl, e, hd⟩
theorem children2_spec {G G2 : Nat → Prop} (t : List (Int × BS)) (f : Nat) (v : Value) (W : World) (h : (Dv treeE G t).p v W) (hG : ∀ b, G2 b → b < W.heap.size) (hl : t.length ≤ 4096)
    (hd : Rng t → (rootN t).length = 1 → Dp t f) (hr : Rng t) (hc : chkT t f = 0) :
    Calls Tryz.prog 92 #[v] W (Post (Dv (slE (slE intE)) G2 (belowT t)) W) := by
  refine enter (args := [v]) (As := [Dv treeE G t]) Tryz.func92 rfl Tryz.ntmps92 (Nat.le_of_ble_eq_true rfl) ?_ (fun a hf => ?_) (Nat.le_of_ble_eq_true rfl)
  rotate_left
  dsimp only [params, Nat.reduceAdd] at hf
  rotate_right
  · exact arg1 h
  have e := Ext.rfl' W
  repeat refine seq ?_
  refine regn0 ?_
  refine tl_as hf rfl (by decide) fun a hf => ?_
  refine tl_nil ?_
  repeat refine seq ?_
  refine regn 3 hf (by decide +kernel) ?_
  refine st (mv rfl) ?_
  refine st (call1 En26 rfl (fun v w he h => chkT_spec t f _ w h hl hd)) ?_
  refine st ((neq rfl rfl).eq (congrArg Value.bool (show (chkT t f != 0) = false from by rw [hc]; rfl))) ?_
  refine en fun a w e' hf => ?_
  replace e := Ext.tr e e'
  clear e'
  refine tl_nil ?_
  repeat refine seq ?_
  refine ifc hf rfl (fun h => by cases h) (fun _ => ?_)
  refine wskip ?_
  try simp only [Exit.then, Exit.inBlock, ↓reduceIte]
  repeat refine seq ?_
  refine regn 2 hf (by decide +kernel) ?_
  refine st (mv rfl) ?_
  refine st (call1 En129 rfl (fun v w he h => below2_spec (G2 := G2) t _ w h (fun b hb => Nat.lt_of_lt_of_le (hG b hb) (Nat.le_trans e.size he.size)) hl hr)) ?_
  refine en fun a w e' hf => ?_
  replace e := Ext.tr e e'
  clear e'
  refine tl_as hf rfl (by decide) fun a hf => ?_
  refine tl_nil ?_
  refine wret ?_
  try simp only [Exit.then, Exit.inBlock]
  refine ret1 rfl hf rfl ?_
  intro v hv
  exact ⟨_, rfl, e, hv⟩

theorem cloneTO_spec {G : Nat → Prop} (t : List (Int × BS)) (v : Value) (W : World) (h : (Dv (slE bagE) G t).p v W) (hl : t.length ≤ 4096) :
    Calls Tryz.prog 119 #[v] W (Post (OwA bagE 69 W.heap.size Go.Mono.G0 t) W) := by
  have hG : ∀ b, Go.Mono.G0 b → b < W.heap.size := fun b hb => hb.elim
  have HV : (Dv (slE bagE) (GB W Go.Mono.G0) t).p v W := Dv.toB (Dv.weak h fun b _ hb => hb.elim)
  have hv : ∃ ao n c, v = .slice ao n c ∧ (ao = none → t = [] ∧ v = .slice none 0 0) := by
    rcases Dv.sl.1 h with ⟨rfl, rfl⟩ | ⟨ad, cap, cs, rfl, _⟩
    · exact ⟨none, 0, 0, rfl, fun _ => ⟨rfl, rfl⟩⟩
    · exact ⟨_, _, _, rfl, fun h => by cases h⟩
  obtain ⟨ao, n, c, hv1, hv2⟩ := hv
  refine enter (args := [v]) (As := [E v]) Tryz.func119 rfl Tryz.ntmps119 (Nat.le_of_ble_eq_true rfl) ?_ (fun a hf => ?_) (Nat.le_of_ble_eq_true rfl)
  rotate_left
  dsimp only [params, Nat.reduceAdd] at hf
  rotate_right
  · exact arg1 rfl
  have e := Ext.rfl' W
  rw [hv1] at hf
  repeat refine seq ?_
  refine regn0 ?_
  refine tl_as hf rfl (by decide) fun a hf => ?_
  refine tl_nil ?_
  repeat refine seq ?_
  refine regn 2 hf (by decide +kernel) ?_
  refine st (mv rfl) ?_
  refine st (eqlNil Tryz.underlying23 rfl) ?_
  refine en fun a w e' hf => ?_
  replace HV := Dv.ex HV e'
  replace e := Ext.tr e e'
  clear e'
  refine tl_nil ?_
  repeat refine seq ?_
  refine ifc hf rfl (fun hb => ?_) (fun hb => ?_)
  · have hn : ao = none := by cases ao <;> simp at hb ⊢
    obtain ⟨h1, _⟩ := hv2 hn
    subst h1
    repeat refine seq ?_
    refine regn0 ?_
    refine tl_as hf rfl (by decide) fun a hf => ?_
    refine tl_nil ?_
    refine wret ?_
    try simp only [Exit.then, Exit.inBlock]
    refine ret1 rfl hf rfl ?_
    rintro _ rfl
    exact ⟨_, rfl, e, (OwR.nil bagE _ e.size hG)⟩
  · refine wskip ?_
    try simp only [Exit.then, Exit.inBlock, ↓reduceIte]
    repeat refine seq ?_
    refine regn0 ?_
    refine tl_bsl0 W.heap.size Go.Mono.G0 bagE Tryz.underlying23 S69 hf (by decide) e.size hG fun a v w e' hov Ho hf => ?_
    replace HV := Dv.ex HV e'
    replace e := Ext.tr e e'
    clear e'
    refine tl_op hf (by decide) (mv rfl) fun a w e' hf => ?_
    replace HV := Dv.ex HV e'
    replace e := Ext.tr e e'
    replace Ho := Ho.ext e'
    clear e'
    haveI hin : ∀ G0, InR (GB W G0) _ := OwR.inGB Ho (Nat.le_refl _)
    refine tl_app Tryz.underlying23 I69 rfl rfl hf (by decide) rfl Ho (isE rfl (by rw [← hv1]; exact Dv.weak HV fun b _ hb => hb.elim (fun h => h.elim) (fun h => .inr (Ho.row (Nat.le_refl _) b h)))) (by simp only [List.length_nil]; omega) (by simp only [List.length_nil, maxLen]; omega) fun a v w hg hat Hn hf => ?_
    replace e := e.gro hg (Ho.row (Nat.le_refl _))
    replace Ho := Hn; clear Hn hg hat hin
    refine tl_as hf rfl (by decide) fun a hf => ?_
    refine tl_nil ?_
    refine wret ?_
    try simp only [Exit.then, Exit.inBlock]
    refine ret1 rfl hf rfl ?_
    rintro _ rfl
    exact ⟨_, rfl, e, (by have := Ho; rw [List.nil_append] at this; exact this)⟩


theorem OwR.lower {α : Type} {e : Enc α} {ty : TypeId} {B B' : Nat} {G : Nat → Prop} {w : World} {xs : List α} {v : Value} (h : OwR e ty B G w xs v) (hB : B' ≤ B) (hG : ∀ b, G b → b < B') : OwR e ty B' G w xs v := by
  obtain ⟨cs, h1, h2⟩ := h.own
  refine ⟨⟨cs, ⟨h1.1, ?_⟩, h2⟩, hG, Nat.le_trans hB h.base⟩
  rcases h1.2 with h | ⟨g, cap, cur, a1, a2, a3⟩
  · exact .inl h
  · exact .inr ⟨g, cap, cur, a1, Nat.le_trans hB a2, a3⟩
theorem treeCloneO_spec {G : Nat → Prop} (B : Nat) (t : List (Int × BS)) (v : Value) (W : World) (h : (Dv treeE G t).p v W) (hl : t.length ≤ 4096) (hB : B ≤ W.heap.size) :
    Calls Tryz.prog 59 #[v] W (Post (OwA bagE 69 B Go.Mono.G0 t) W) := by
  refine enter (args := [v]) (As := [Dv treeE G t]) Tryz.func59 rfl Tryz.ntmps59 (Nat.le_of_ble_eq_true rfl) ?_ (fun a hf => ?_) (Nat.le_of_ble_eq_true rfl)
  rotate_left
  dsimp only [params, Nat.reduceAdd] at hf
  rotate_right
  · exact arg1 h
  have e := Ext.rfl' W
  repeat refine seq ?_
  refine regn0 ?_
  refine tl_as hf rfl (by decide) fun a hf => ?_
  refine tl_nil ?_
  repeat refine seq ?_
  refine regn 2 hf (by decide +kernel) ?_
  refine st (mv rfl) ?_
  refine st (call1 (A := OwA bagE 69 B Go.Mono.G0 t) En119 rfl (fun v w he h => Calls.mono (cloneTO_spec _ _ w h hl) (fun en w' ⟨u, h1, h2, h3⟩ => ⟨u, h1, h2, OwR.lower (B' := B) h3 (Nat.le_trans hB (Nat.le_trans e.size he.size)) (fun b hb => hb.elim)⟩))) ?_
  refine en fun a w e' hf => ?_
  replace e := Ext.tr e e'
  clear e'
  refine tl_as hf rfl (by decide) fun a hf => ?_
  refine tl_nil ?_
  refine wret ?_
  try simp only [Exit.then, Exit.inBlock]
  refine ret1 rfl hf rfl ?_
  intro v hv
  exact ⟨_, rfl, e, hv⟩
end Go.Mono

set_option linter.unusedVariables false
set_option linter.unusedSimpArgs false
namespace Go.Mono
open Go Go.Proofs Go.RowKit

/-- the frame under construction, its box -/
structure FB (w : World) (bF bn bm bf n : Nat) (tv : Value) : Prop where
  f : Blk w bF #[tv, .slice (some ⟨bn, 0, none⟩) n n, .map (some bm)] 99
  p : Blk w bf #[.pointer (some ⟨bF, 0, none⟩)] 27

theorem leave_spec (xs : List RB) (V : Vals xs) (hl : xs.length ≤ 4096) (G : Nat → Prop) (nd : Nat → Nd) (bF bn bm bf b : Nat) (tv : Value) (cells : Array Value) (W : World) (hG : ∀ c, G c → c < W.heap.size) (hGn : G bn) (hbl : b < xs.length) (FBx : FB W bF bn bm bf xs.length tv)
    (BN : Blk W bn cells 134) (HS : NS xs.length G nd cells W) (hk : (nd b).1 = kids xs (b : Nat)) (hkid : ∀ i, i < xs.length → up xs i = (b : Int) → (nd i).2.2.1 = sizeR xs (i : Nat)) :
    Calls Tryz.prog 97 #[I (b : Nat), .pointer (some ⟨bf, 0, none⟩)] W (fun e w' => ∃ v, e = .returned v ∧ Chg (fun c => c = bn) W w' ∧ Any.p v w' ∧
      ∃ cells', Blk w' bn cells' 134 ∧ NS xs.length G (un nd b (kids xs (b : Nat), lightR xs (b : Nat), sizeR xs (b : Nat), heavyR xs (b : Nat), (nd b).2.2.2.2)) cells' w') := by
  obtain ⟨BF, Bf⟩ := FBx
  have hkl := kids_len xs (b : Nat)
  have nFn : bF ≠ bn := fun h => by
    have h1 := BF; have h2 := BN
    rw [h] at h1; unfold Blk at h1 h2; rw [h1] at h2; simp at h2
  have nfn : bf ≠ bn := fun h => by
    have h1 := Bf; have h2 := BN
    rw [h] at h1; unfold Blk at h1 h2; rw [h1] at h2; simp at h2
  have lF := BF.lt
  have lf := Bf.lt
  have ln := BN.lt
  replace HS := HS.toB
  haveI hin : InR (GB W G) (some bn) := ⟨fun c hc => by cases hc; exact .inl hGn⟩
  have hGB : GB W G bn := .inl hGn
  refine enter (args := [I (b : Nat), .pointer (some ⟨bf, 0, none⟩)]) (As := [E (I (b : Nat)), E (.pointer (some ⟨bf, 0, none⟩))]) Tryz.func97 rfl Tryz.ntmps97 (Nat.le_of_ble_eq_true rfl) ?_ (fun a hf => ?_) (Nat.le_of_ble_eq_true rfl)
  rotate_left
  dsimp only [params, Nat.reduceAdd] at hf
  rotate_right
  · exact arg2 rfl rfl
  have c := Chg.rfl' (fun c => c = bn) W
  have hNW := Nat.le_refl W.heap.size
  repeat refine seq ?_
  refine regn0 ?_
  refine tl_op hf (by decide) (ld1 T27 rfl (by assumption) rfl) fun a w e' hf => ?_
  replace hNW := Nat.le_trans hNW e'.size
  replace HS := HS.ext e'
  replace c := c.ext e'
  replace BF := BF.ext e'
  replace Bf := Bf.ext e'
  replace BN := BN.ext e'
  clear e'
  refine tl_op hf (by decide) (nilE rfl) fun a w e' hf => ?_
  replace hNW := Nat.le_trans hNW e'.size
  replace HS := HS.ext e'
  replace c := c.ext e'
  replace BF := BF.ext e'
  replace Bf := Bf.ext e'
  replace BN := BN.ext e'
  clear e'
  refine tl_op hf (by decide) (fldA Tryz.underlying99 rfl T96 (by decide) rfl) fun a w e' hf => ?_
  replace hNW := Nat.le_trans hNW e'.size
  replace HS := HS.ext e'
  replace c := c.ext e'
  replace BF := BF.ext e'
  replace Bf := Bf.ext e'
  replace BN := BN.ext e'
  clear e'
  refine tl_op hf (by decide) (ld1 T96 rfl (by assumption) rfl) fun a w e' hf => ?_
  replace hNW := Nat.le_trans hNW e'.size
  replace HS := HS.ext e'
  replace c := c.ext e'
  replace BF := BF.ext e'
  replace Bf := Bf.ext e'
  replace BN := BN.ext e'
  clear e'
  refine tl_op hf (by decide) (mv rfl) fun a w e' hf => ?_
  replace hNW := Nat.le_trans hNW e'.size
  replace HS := HS.ext e'
  replace c := c.ext e'
  replace BF := BF.ext e'
  replace Bf := Bf.ext e'
  replace BN := BN.ext e'
  clear e'
  refine tl_op hf (by decide) (idxS Tryz.underlying96 S134 rfl rfl (by omega)) fun a w e' hf => ?_
  replace hNW := Nat.le_trans hNW e'.size
  replace HS := HS.ext e'
  replace c := c.ext e'
  replace BF := BF.ext e'
  replace Bf := Bf.ext e'
  replace BN := BN.ext e'
  clear e'
  refine tl_alloc I145 hf (by decide) fun a b3 w e' hb3 hs3 B3 hf => ?_
  have lo3_hNW := Nat.le_trans hNW (Nat.le_of_eq hb3.symm)
  have lt3_BF := BF.lt
  have lt3_Bf := Bf.lt
  have lt3_BN := BN.lt
  replace hNW := Nat.le_trans hNW e'.size
  replace HS := HS.ext e'
  replace c := c.ext e'
  replace BF := BF.ext e'
  replace Bf := Bf.ext e'
  replace BN := BN.ext e'
  clear e'
  haveI hinr : ∀ G0, InR (GB W G0) (some b3) := fun G0 => InR.gb (by omega)
  refine tl_st1 T145 hf rfl rfl rfl B3 (by decide) fun w hg hsz B3 hf => ?_
  replace hNW := Nat.le_trans hNW (Nat.le_of_eq hsz.symm)
  replace HS := HS.gr hg (by first | exact .inl hGn | exact .inr (by omega))
  replace c := c.gr hg (by first | exact .inl rfl | exact .inr (by omega))
  replace BF := BF.gr hg (by omega)
  replace Bf := Bf.gr hg (by omega)
  replace BN := BN.gr hg (by omega)
  clear hg
  refine tl_nil ?_
  have B3' : Blk w b3 #[.pointer (some ⟨bn, 0 + b * 5, none⟩)] 145 := B3
  replace B3 := B3'
  clear B3'
  have hle3 : W.heap.size ≤ b3 := by omega
  have n3 : b3 ≠ bn ∧ b3 ≠ bF ∧ b3 ≠ bf := by omega
  replace hf := hf.keep [0, 1, 3]
  dsimp only [keep, List.filterMap, look, Nat.beq, Option.map] at hf
  have hb5 : ∀ f, f < 5 → 0 + b * 5 + f < cells.size := fun f hf => HS.bd hbl hf
  repeat refine seq ?_
  refine regY 5 4 (some bn) (fun w => Blk w bn (cells.setIfInBounds (0 + b * 5 + 2) (I 1)) 134) (fun w w1 k h => h.ext k) (by decide) Mix.mix hf (by decide +kernel) ?_
  refine ym (fun w1 h1 => ld1 T145 rfl (B3.gr h1 n3.1) rfl) ?_
  refine ym (fun w1 h1 => ld1 T145 rfl (B3.gr h1 n3.1) rfl) ?_
  refine ym (fun w1 h1 => nilE rfl) ?_
  refine ym (fun w1 h1 => fldA Tryz.underlying134 rfl T3 (by decide) rfl) ?_
  refine yx (yst1 T3 rfl rfl rfl BN (hb5 2 (by decide))) ?_
  refine ye fun a w hg HF hf => ?_
  try dsimp only [push] at hf
  have hszY := hg.size
  replace hNW := Nat.le_trans hNW (hg.size)
  replace HS := HS.gr hg (by first | exact .inl hGn | exact .inr (by omega))
  replace c := c.gr hg (by first | exact .inl rfl | exact .inr (by omega))
  replace BF := BF.gr hg (by omega)
  replace Bf := Bf.gr hg (by omega)
  replace B3 := B3.gr hg (by omega)
  replace BN := HF
  clear HF hg
  refine tl_op hf (by decide) (nilE rfl) fun a w e' hf => ?_
  replace hNW := Nat.le_trans hNW e'.size
  replace HS := HS.ext e'
  replace c := c.ext e'
  replace BF := BF.ext e'
  replace Bf := Bf.ext e'
  replace BN := BN.ext e'
  replace B3 := B3.ext e'
  clear e'
  refine tl_op hf (by decide) (fldA Tryz.underlying134 rfl T3 (by decide) rfl) fun a w e' hf => ?_
  replace hNW := Nat.le_trans hNW e'.size
  replace HS := HS.ext e'
  replace c := c.ext e'
  replace BF := BF.ext e'
  replace Bf := Bf.ext e'
  replace BN := BN.ext e'
  replace B3 := B3.ext e'
  clear e'
  refine tl_st1 T3 hf rfl rfl rfl BN (by rw [Array.size_setIfInBounds]; exact hb5 3 (by decide)) fun w hg hsz BN hf => ?_
  replace hNW := Nat.le_trans hNW (Nat.le_of_eq hsz.symm)
  replace HS := HS.gr hg (by first | exact .inl hGn | exact .inr (by omega))
  replace c := c.gr hg (by first | exact .inl rfl | exact .inr (by omega))
  replace BF := BF.gr hg (by omega)
  replace Bf := Bf.gr hg (by omega)
  replace B3 := B3.gr hg (by omega)
  clear hg
  refine tl_nil ?_
  have HS1 : NS xs.length (GB W G) (un nd b (kids xs (b : Nat), (nd b).2.1, szTo xs b 0, hvTo xs (b : Nat) 0, (nd b).2.2.2.2)) ((cells.setIfInBounds (0 + b * 5 + 2) (I 1)).setIfInBounds (0 + b * 5 + 3) (I (-1))) w := by
    rw [← hk]
    have h0 : NS xs.length (GB W G) (un nd b ((nd b).1, (nd b).2.1, (nd b).2.2.1, (nd b).2.2.2.1, (nd b).2.2.2.2)) cells w := by rw [show ((nd b).1, (nd b).2.1, (nd b).2.2.1, (nd b).2.2.2.1, (nd b).2.2.2.2) = nd b from rfl, un_self]; exact HS
    exact (h0.size' hbl 1).heavy' hbl (-1)
  obtain ⟨cells1, BN1, HS2⟩ : ∃ cells1, Blk w bn cells1 134 ∧ NS xs.length (GB W G) (un nd b (kids xs (b : Nat), (nd b).2.1, szTo xs b 0, hvTo xs (b : Nat) 0, (nd b).2.2.2.2)) cells1 w := ⟨_, BN, HS1⟩
  clear BN HS HS1 hb5
  replace BN := BN1
  replace HS := HS2
  clear BN1 HS2
  replace hf := hf.keep [0, 1, 3]
  dsimp only [keep, List.filterMap, look, Nat.beq, Option.map] at hf
  obtain ⟨kv, hkv, HK⟩ := HS.kids_at hbl
  rw [un_same] at HK
  repeat refine seq ?_
  refine regn 6 hf (by decide +kernel) ?_
  refine st (ld1 T145 rfl B3 rfl) ?_
  refine st (nilE rfl) ?_
  refine st (fldA Tryz.underlying134 rfl T59 (by decide) rfl) ?_
  refine st ((ld1 T59 rfl BN hkv).as (A := Dv (slE intE) (GB W G) (kids xs (b : Nat))) HK) ?_
  refine st (lenD Tryz.underlying59 (isR rfl)) ?_
  refine st (mv rfl) ?_
  refine en fun a w e' hf => ?_
  replace hNW := Nat.le_trans hNW e'.size
  replace HS := HS.ext e'
  replace c := c.ext e'
  replace BF := BF.ext e'
  replace Bf := Bf.ext e'
  replace BN := BN.ext e'
  replace B3 := B3.ext e'
  clear e'
  refine tl_nil ?_
  clear hkv HK
  replace hf := hf.keep [0, 1, 3, 21, 22, 23]
  dsimp only [keep, List.filterMap, look, Nat.beq, Option.map] at hf
  repeat refine seq ?_
  refine blk (loopN (fun r0 a w => ∃ (k : Nat) (cells : Array Value), r0 = (kids xs (b : Nat)).length - k ∧ k ≤ (kids xs (b : Nat)).length ∧ Fr 84 a w [(0, E (I (b : Nat))), (1, E (.pointer (some ⟨bf, 0, none⟩))), (3, E (.pointer (some ⟨b3, 0, none⟩))), (21, Dv (slE intE) (GB W G) (kids xs (b : Nat))), (22, E (I ((kids xs (b : Nat)).length : Nat))), (23, E (I k))] ∧
    Chg (fun c => c = bn) W w ∧ Blk w b3 #[.pointer (some ⟨bn, 0 + b * 5, none⟩)] 145 ∧ Blk w bF #[tv, .slice (some ⟨bn, 0, none⟩) xs.length xs.length, .map (some bm)] 99 ∧ Blk w bf #[.pointer (some ⟨bF, 0, none⟩)] 27 ∧ Blk w bn cells 134 ∧
    NS xs.length (GB W G) (un nd b (kids xs (b : Nat), (nd b).2.1, szTo xs b k, hvTo xs (b : Nat) k, (nd b).2.2.2.2)) cells w ∧ W.heap.size ≤ w.heap.size) (kids xs (b : Nat)).length ⟨0, cells1, rfl, by omega, hf, c, B3, BF, Bf, BN, HS, hNW⟩ ?_)
  clear hf c B3 BF Bf BN HS hNW
  rintro r0 a w ⟨k, cells, rfl, hkk, hf, c, B3, BF, Bf, BN, HS, hNW⟩
  repeat refine seq ?_
  refine regn 1 hf (by decide +kernel) ?_
  refine st (lss rfl rfl) ?_
  refine en fun a w e' hf => ?_
  replace hNW := Nat.le_trans hNW e'.size
  replace HS := HS.ext e'
  replace c := c.ext e'
  replace BF := BF.ext e'
  replace Bf := Bf.ext e'
  replace BN := BN.ext e'
  replace B3 := B3.ext e'
  clear e'
  refine tl_nil ?_
  repeat refine seq ?_
  refine ifc hf rfl (fun hc => wskip ?_) (fun hc => wexit ?_)
  · have hlt : k < (kids xs (b : Nat)).length := by have := of_decide_eq_true hc; omega
    clear hc
    obtain ⟨i, i1, i2, i3⟩ := kid_at hlt
    have hib : i ≠ b := fun h => by subst h; have := depth_step V i1 i2; omega
    have hz := szTo_le V hbl k
    have hz' := szTo_le V hbl (k + 1)
    have hg0 := gi_get hlt
    have hs0 := szTo_succ hlt
    have hh0 := hvTo_succ hlt
    rw [i3] at hg0 hs0 hh0
    repeat refine seq ?_
    refine blk ?_
    replace hf := hf.keep [0, 1, 3, 21, 22, 23]
    dsimp only [keep, List.filterMap, look, Nat.beq, Option.map] at hf
    repeat refine seq ?_
    refine regn 2 hf (by decide +kernel) ?_
    refine st (idxD Tryz.underlying59 S3 (isR rfl) rfl (by omega) (hg0)) ?_
    refine st (ldI T3 (isR rfl)) ?_
    refine en fun a w e' hf => ?_
    replace hNW := Nat.le_trans hNW e'.size
    replace HS := HS.ext e'
    replace c := c.ext e'
    replace BF := BF.ext e'
    replace Bf := Bf.ext e'
    replace BN := BN.ext e'
    replace B3 := B3.ext e'
    clear e'
    refine tl_as hf rfl (by decide) fun a hf => ?_
    refine tl_nil ?_
    replace hf := hf.keep [0, 1, 3, 5, 21, 22, 23]
    dsimp only [keep, List.filterMap, look, Nat.beq, Option.map] at hf
    have f2 : cells[0 + b * 5 + 2]? = some (I (szTo xs b k)) := by have := HS.size_at hbl; rwa [un_same] at this
    have fi : cells[0 + i * 5 + 2]? = some (I (sizeR xs (i : Nat))) := by have := HS.size_at i1; rwa [un_ne hib, hkid i i1 i2] at this
    have hb2 := HS.bd hbl (f := 2) (by decide)
    repeat refine seq ?_
    refine reg 15 Mix.mix hf (by decide +kernel) ?_
    refine st (ld1 T145 rfl B3 rfl) ?_
    refine st (nilE rfl) ?_
    refine st (fldA Tryz.underlying134 rfl T3 (by decide) rfl) ?_
    refine st (ld1 T3 rfl BN f2) ?_
    refine st (ld1 T27 rfl (by assumption) rfl) ?_
    refine st (nilE rfl) ?_
    refine st (fldA Tryz.underlying99 rfl T96 (by decide) rfl) ?_
    refine st (ld1 T96 rfl (by assumption) rfl) ?_
    refine st (mv rfl) ?_
    refine st (idxS Tryz.underlying96 S134 rfl rfl (by omega)) ?_
    refine st (fldA Tryz.underlying134 rfl T3 (by decide) rfl) ?_
    refine st (ld1 T3 rfl BN fi) ?_
    refine st ((add rfl rfl (by omega)).eq (congrArg (Value.int .i64) (show szTo xs b k + sizeR xs (i : Nat) = szTo xs b (k + 1) from hs0.symm))) ?_
    refine st (nilE rfl) ?_
    refine st (fldA Tryz.underlying134 rfl T3 (by decide) rfl) ?_
    refine en fun a w e' hf => ?_
    replace hNW := Nat.le_trans hNW e'.size
    replace HS := HS.ext e'
    replace c := c.ext e'
    replace BF := BF.ext e'
    replace Bf := Bf.ext e'
    replace BN := BN.ext e'
    replace B3 := B3.ext e'
    clear e'
    refine tl_st1 T3 hf rfl rfl rfl BN (by exact hb2) fun w hg hsz BN hf => ?_
    replace hNW := Nat.le_trans hNW (Nat.le_of_eq hsz.symm)
    replace HS := HS.gr hg (by first | exact .inl hGn | exact .inr (by omega))
    replace c := c.gr hg (by first | exact .inl rfl | exact .inr (by omega))
    replace BF := BF.gr hg (by omega)
    replace Bf := Bf.gr hg (by omega)
    replace B3 := B3.gr hg (by omega)
    clear hg
    refine tl_nil ?_
    have HS1 := HS.size' hbl (szTo xs b (k + 1))
    obtain ⟨cells1, BN1, HS2⟩ : ∃ cells1, Blk w bn cells1 134 ∧ NS xs.length (GB W G) (un nd b (kids xs (b : Nat), (nd b).2.1, szTo xs b (k + 1), hvTo xs (b : Nat) k, (nd b).2.2.2.2)) cells1 w := ⟨_, BN, HS1⟩
    clear BN HS HS1 f2 fi hb2
    replace BN := BN1
    replace HS := HS2
    clear BN1 HS2 cells
    replace hf := hf.keep [0, 1, 3, 5, 21, 22, 23]
    dsimp only [keep, List.filterMap, look, Nat.beq, Option.map] at hf
    have f3 : cells1[0 + b * 5 + 3]? = some (I (hvTo xs (b : Nat) k)) := by have := HS.heavy_at hbl; rwa [un_same] at this
    have fi : cells1[0 + i * 5 + 2]? = some (I (sizeR xs (i : Nat))) := by have := HS.size_at i1; rwa [un_ne hib, hkid i i1 i2] at this
    have hb3 := HS.bd hbl (f := 3) (by decide)
    obtain ⟨c0, hc0⟩ : ∃ c0 : Bool, c0 = decide (hvTo xs (b : Nat) k < 0 ∨ sizeR xs (hvTo xs (b : Nat) k) < sizeR xs (i : Nat)) := ⟨_, rfl⟩
    repeat refine seq ?_
    refine cut (J := fun a w => Fr 84 a w [(0, E (I (b : Nat))), (1, E (.pointer (some ⟨bf, 0, none⟩))), (3, E (.pointer (some ⟨b3, 0, none⟩))), (5, E (I (i : Nat))), (21, Dv (slE intE) (GB W G) (kids xs (b : Nat))), (22, E (I ((kids xs (b : Nat)).length : Nat))), (23, E (I k)), (68, E (B c0))] ∧
      Chg (fun c => c = bn) W w ∧ Blk w b3 #[.pointer (some ⟨bn, 0 + b * 5, none⟩)] 145 ∧ Blk w bF #[tv, .slice (some ⟨bn, 0, none⟩) xs.length xs.length, .map (some bm)] 99 ∧ Blk w bf #[.pointer (some ⟨bF, 0, none⟩)] 27 ∧ Blk w bn cells1 134 ∧
      NS xs.length (GB W G) (un nd b (kids xs (b : Nat), (nd b).2.1, szTo xs b (k + 1), hvTo xs (b : Nat) k, (nd b).2.2.2.2)) cells1 w ∧ W.heap.size ≤ w.heap.size) ?_ (fun a w hJ => ?_)
    · rcases hvTo_ok k (by omega) with hm | ⟨m, m1, m2, m3⟩
      · have hcT : c0 = true := by rw [hc0]; exact decide_eq_true (.inl (by omega))
        rw [hm] at f3
        repeat refine seq ?_
        refine reg 27 Mix.mix hf (by decide +kernel) ?_
        refine st (ld1 T145 rfl B3 rfl) ?_
        refine st (nilE rfl) ?_
        refine st (fldA Tryz.underlying134 rfl T3 (by decide) rfl) ?_
        refine st (ld1 T3 rfl BN f3) ?_
        refine st ((lss rfl rfl).eq (congrArg Value.bool (show decide ((-1 : Int) < 0) = true from rfl))) ?_
        refine st (mv rfl) ?_
        first | refine sn rfl rfl rfl ?_ | refine su rfl rfl ?_ | refine sy rfl rfl (ld1 T27 rfl (by assumption) rfl) ?_
        first | refine sn rfl rfl rfl ?_ | refine su rfl rfl ?_ | refine sy rfl rfl (nilE rfl) ?_
        first | refine sn rfl rfl rfl ?_ | refine su rfl rfl ?_ | refine sy rfl rfl (fldA Tryz.underlying99 rfl T96 (by decide) rfl) ?_
        first | refine sn rfl rfl rfl ?_ | refine su rfl rfl ?_ | refine sy rfl rfl (ld1 T96 rfl (by assumption) rfl) ?_
        first | refine sn rfl rfl rfl ?_ | refine su rfl rfl ?_ | refine sy rfl rfl (mv rfl) ?_
        first | refine sn rfl rfl rfl ?_ | refine su rfl rfl ?_ | refine sy rfl rfl (idxD Tryz.underlying96 S134 (isR rfl) rfl (by omega) (by assumption)) ?_
        first | refine sn rfl rfl rfl ?_ | refine su rfl rfl ?_ | refine sy rfl rfl (fldD Tryz.underlying134 rfl T3 (by decide) (Fld.snd (Fld.snd (Fld.fst Fld.refl) rfl) rfl) (isR rfl)) ?_
        first | refine sn rfl rfl rfl ?_ | refine su rfl rfl ?_ | refine sy rfl rfl (ldI T3 (isR rfl)) ?_
        first | refine sn rfl rfl rfl ?_ | refine su rfl rfl ?_ | refine sy rfl rfl (ld1 T27 rfl (by assumption) rfl) ?_
        first | refine sn rfl rfl rfl ?_ | refine su rfl rfl ?_ | refine sy rfl rfl (nilE rfl) ?_
        first | refine sn rfl rfl rfl ?_ | refine su rfl rfl ?_ | refine sy rfl rfl (fldA Tryz.underlying99 rfl T96 (by decide) rfl) ?_
        first | refine sn rfl rfl rfl ?_ | refine su rfl rfl ?_ | refine sy rfl rfl (ld1 T96 rfl (by assumption) rfl) ?_
        first | refine sn rfl rfl rfl ?_ | refine su rfl rfl ?_ | refine sy rfl rfl (ld1 T145 rfl (by assumption) rfl) ?_
        first | refine sn rfl rfl rfl ?_ | refine su rfl rfl ?_ | refine sy rfl rfl (nilE rfl) ?_
        first | refine sn rfl rfl rfl ?_ | refine su rfl rfl ?_ | refine sy rfl rfl (fldA Tryz.underlying134 rfl T3 (by decide) rfl) ?_
        first | refine sn rfl rfl rfl ?_ | refine su rfl rfl ?_ | refine sy rfl rfl (ld1 T3 rfl (by assumption) rfl) ?_
        first | refine sn rfl rfl rfl ?_ | refine su rfl rfl ?_ | refine sy rfl rfl (idxD Tryz.underlying96 S134 (isR rfl) rfl (by omega) (by assumption)) ?_
        first | refine sn rfl rfl rfl ?_ | refine su rfl rfl ?_ | refine sy rfl rfl (fldD Tryz.underlying134 rfl T3 (by decide) (Fld.snd (Fld.snd (Fld.fst Fld.refl) rfl) rfl) (isR rfl)) ?_
        first | refine sn rfl rfl rfl ?_ | refine su rfl rfl ?_ | refine sy rfl rfl (ldI T3 (isR rfl)) ?_
        first | refine sn rfl rfl rfl ?_ | refine su rfl rfl ?_ | refine sy rfl rfl (gtr rfl rfl) ?_
        first | refine st (pkT rfl rfl) ?_ | refine st (pkF rfl rfl) ?_ | refine st (pk rfl rfl rfl) ?_
        refine en fun a w e' hf => ?_
        replace hNW := Nat.le_trans hNW e'.size
        replace HS := HS.ext e'
        replace c := c.ext e'
        replace BF := BF.ext e'
        replace Bf := Bf.ext e'
        replace BN := BN.ext e'
        replace B3 := B3.ext e'
        clear e'
        refine tl_nil ?_
        replace hf := hf.keep [0, 1, 3, 5, 21, 22, 23, 68]
        dsimp only [keep, List.filterMap, look, Nat.beq, Option.map] at hf
        rw [hcT]
        exact ⟨rfl, hf, c, B3, BF, Bf, BN, HS, hNW⟩
      · have hmb : m ≠ b := fun h => by subst h; have := depth_step V m1 m2; omega
        have hcT : c0 = decide (sizeR xs (m : Nat) < sizeR xs (i : Nat)) := by
          rw [hc0, m3, decide_eq_decide]
          exact ⟨fun h => h.elim (fun h => by omega) id, .inr⟩
        rw [m3] at f3
        have fm : cells1[0 + m * 5 + 2]? = some (I (sizeR xs (m : Nat))) := by have := HS.size_at m1; rwa [un_ne hmb, hkid m m1 m2] at this
        repeat refine seq ?_
        refine reg 27 Mix.mix hf (by decide +kernel) ?_
        refine st (ld1 T145 rfl B3 rfl) ?_
        refine st (nilE rfl) ?_
        refine st (fldA Tryz.underlying134 rfl T3 (by decide) rfl) ?_
        refine st (ld1 T3 rfl BN f3) ?_
        refine st ((lss rfl rfl).eq (congrArg Value.bool (show decide ((m : Int) < 0) = false from decide_eq_false (by omega)))) ?_
        refine st (mv rfl) ?_
        first | refine sn rfl rfl rfl ?_ | refine su rfl rfl ?_ | refine sy rfl rfl (ld1 T27 rfl (by assumption) rfl) ?_
        first | refine sn rfl rfl rfl ?_ | refine su rfl rfl ?_ | refine sy rfl rfl (nilE rfl) ?_
        first | refine sn rfl rfl rfl ?_ | refine su rfl rfl ?_ | refine sy rfl rfl (fldA Tryz.underlying99 rfl T96 (by decide) rfl) ?_
        first | refine sn rfl rfl rfl ?_ | refine su rfl rfl ?_ | refine sy rfl rfl (ld1 T96 rfl (by assumption) rfl) ?_
        first | refine sn rfl rfl rfl ?_ | refine su rfl rfl ?_ | refine sy rfl rfl (mv rfl) ?_
        first | refine sn rfl rfl rfl ?_ | refine su rfl rfl ?_ | refine sy rfl rfl (idxS Tryz.underlying96 S134 rfl rfl (by omega)) ?_
        first | refine sn rfl rfl rfl ?_ | refine su rfl rfl ?_ | refine sy rfl rfl (fldA Tryz.underlying134 rfl T3 (by decide) rfl) ?_
        first | refine sn rfl rfl rfl ?_ | refine su rfl rfl ?_ | refine sy rfl rfl (ld1 T3 rfl BN fi) ?_
        first | refine sn rfl rfl rfl ?_ | refine su rfl rfl ?_ | refine sy rfl rfl (ld1 T27 rfl (by assumption) rfl) ?_
        first | refine sn rfl rfl rfl ?_ | refine su rfl rfl ?_ | refine sy rfl rfl (nilE rfl) ?_
        first | refine sn rfl rfl rfl ?_ | refine su rfl rfl ?_ | refine sy rfl rfl (fldA Tryz.underlying99 rfl T96 (by decide) rfl) ?_
        first | refine sn rfl rfl rfl ?_ | refine su rfl rfl ?_ | refine sy rfl rfl (ld1 T96 rfl (by assumption) rfl) ?_
        first | refine sn rfl rfl rfl ?_ | refine su rfl rfl ?_ | refine sy rfl rfl (ld1 T145 rfl B3 rfl) ?_
        first | refine sn rfl rfl rfl ?_ | refine su rfl rfl ?_ | refine sy rfl rfl (nilE rfl) ?_
        first | refine sn rfl rfl rfl ?_ | refine su rfl rfl ?_ | refine sy rfl rfl (fldA Tryz.underlying134 rfl T3 (by decide) rfl) ?_
        first | refine sn rfl rfl rfl ?_ | refine su rfl rfl ?_ | refine sy rfl rfl (ld1 T3 rfl BN f3) ?_
        first | refine sn rfl rfl rfl ?_ | refine su rfl rfl ?_ | refine sy rfl rfl (idxS Tryz.underlying96 S134 rfl rfl (by omega)) ?_
        first | refine sn rfl rfl rfl ?_ | refine su rfl rfl ?_ | refine sy rfl rfl (fldA Tryz.underlying134 rfl T3 (by decide) rfl) ?_
        first | refine sn rfl rfl rfl ?_ | refine su rfl rfl ?_ | refine sy rfl rfl (ld1 T3 rfl BN fm) ?_
        first | refine sn rfl rfl rfl ?_ | refine su rfl rfl ?_ | refine sy rfl rfl (gtr rfl rfl) ?_
        first | refine st (pkT rfl rfl) ?_ | refine st (pkF rfl rfl) ?_ | refine st (pk rfl rfl rfl) ?_
        refine en fun a w e' hf => ?_
        replace hNW := Nat.le_trans hNW e'.size
        replace HS := HS.ext e'
        replace c := c.ext e'
        replace BF := BF.ext e'
        replace Bf := Bf.ext e'
        replace BN := BN.ext e'
        replace B3 := B3.ext e'
        clear e'
        refine tl_nil ?_
        replace hf := hf.keep [0, 1, 3, 5, 21, 22, 23, 68]
        dsimp only [keep, List.filterMap, look, Nat.beq, Option.map] at hf
        rw [hcT]
        exact ⟨rfl, hf, c, B3, BF, Bf, BN, HS, hNW⟩
    clear hf c B3 BF Bf BN HS hNW
    obtain ⟨hf, c, B3, BF, Bf, BN, HS, hNW⟩ := hJ
    try simp only [Exit.then]
    repeat refine seq ?_
    refine ifc hf rfl (fun hb => ?_) (fun hb => ?_)
    · have hst : hvTo xs (b : Nat) (k + 1) = (i : Int) := by
        rw [hh0, heavyStep, if_pos]
        rw [hc0] at hb
        exact of_decide_eq_true hb
      replace hf := hf.keep [0, 1, 3, 5, 21, 22, 23]
      dsimp only [keep, List.filterMap, look, Nat.beq, Option.map] at hf
      repeat refine seq ?_
      refine regn 4 hf (by decide +kernel) ?_
      refine st (ld1 T145 rfl B3 rfl) ?_
      refine st (mv rfl) ?_
      refine st (nilE rfl) ?_
      refine st (fldA Tryz.underlying134 rfl T3 (by decide) rfl) ?_
      refine en fun a w e' hf => ?_
      replace hNW := Nat.le_trans hNW e'.size
      replace HS := HS.ext e'
      replace c := c.ext e'
      replace BF := BF.ext e'
      replace Bf := Bf.ext e'
      replace BN := BN.ext e'
      replace B3 := B3.ext e'
      clear e'
      refine tl_st1 T3 hf rfl rfl rfl BN (by exact hb3) fun w hg hsz BN hf => ?_
      replace hNW := Nat.le_trans hNW (Nat.le_of_eq hsz.symm)
      replace HS := HS.gr hg (by first | exact .inl hGn | exact .inr (by omega))
      replace c := c.gr hg (by first | exact .inl rfl | exact .inr (by omega))
      replace BF := BF.gr hg (by omega)
      replace Bf := Bf.gr hg (by omega)
      replace B3 := B3.gr hg (by omega)
      clear hg
      refine tl_nil ?_
      have HS1 := HS.heavy' hbl (i : Int)
      obtain ⟨cells2, BN1, HS2⟩ : ∃ cells2, Blk w bn cells2 134 ∧ NS xs.length (GB W G) (un nd b (kids xs (b : Nat), (nd b).2.1, szTo xs b (k + 1), hvTo xs (b : Nat) (k + 1), (nd b).2.2.2.2)) cells2 w := ⟨_, BN, by rw [hst]; exact HS1⟩
      clear BN HS HS1 f3 fi hb3
      replace BN := BN1
      replace HS := HS2
      clear BN1 HS2
      try simp only [Exit.then, Exit.inBlock, ↓reduceIte]
      replace hf := hf.keep [0, 1, 3, 21, 22, 23]
      dsimp only [keep, List.filterMap, look, Nat.beq, Option.map] at hf
      repeat refine seq ?_
      refine regn 1 hf (by decide +kernel) ?_
      refine st ((add rfl rfl (by omega)).eq (congrArg (Value.int .i64) (show (k : Int) + 1 = ((k + 1 : Nat) : Int) from rfl))) ?_
      refine en fun a w e' hf => ?_
      replace hNW := Nat.le_trans hNW e'.size
      replace HS := HS.ext e'
      replace c := c.ext e'
      replace BF := BF.ext e'
      replace Bf := Bf.ext e'
      replace BN := BN.ext e'
      replace B3 := B3.ext e'
      clear e'
      refine tl_op hf (by decide) (mv rfl) fun a w e' hf => ?_
      replace hNW := Nat.le_trans hNW e'.size
      replace HS := HS.ext e'
      replace c := c.ext e'
      replace BF := BF.ext e'
      replace Bf := Bf.ext e'
      replace BN := BN.ext e'
      replace B3 := B3.ext e'
      clear e'
      refine tl_nil ?_
      replace hf := hf.keep [0, 1, 3, 21, 22, 23]
      dsimp only [keep, List.filterMap, look, Nat.beq, Option.map] at hf
      exact ⟨(kids xs (b : Nat)).length - (k + 1), by omega, k + 1, _, rfl, by omega, hf, c, B3, BF, Bf, BN, HS, hNW⟩
    · have hst : hvTo xs (b : Nat) (k + 1) = hvTo xs (b : Nat) k := by
        rw [hh0, heavyStep, if_neg]
        rw [hc0] at hb
        exact of_decide_eq_false hb
      rw [← hst] at HS
      refine wskip ?_
      try simp only [Exit.then, Exit.inBlock, ↓reduceIte]
      replace hf := hf.keep [0, 1, 3, 21, 22, 23]
      dsimp only [keep, List.filterMap, look, Nat.beq, Option.map] at hf
      repeat refine seq ?_
      refine regn 1 hf (by decide +kernel) ?_
      refine st ((add rfl rfl (by omega)).eq (congrArg (Value.int .i64) (show (k : Int) + 1 = ((k + 1 : Nat) : Int) from rfl))) ?_
      refine en fun a w e' hf => ?_
      replace hNW := Nat.le_trans hNW e'.size
      replace HS := HS.ext e'
      replace c := c.ext e'
      replace BF := BF.ext e'
      replace Bf := Bf.ext e'
      replace BN := BN.ext e'
      replace B3 := B3.ext e'
      clear e'
      refine tl_op hf (by decide) (mv rfl) fun a w e' hf => ?_
      replace hNW := Nat.le_trans hNW e'.size
      replace HS := HS.ext e'
      replace c := c.ext e'
      replace BF := BF.ext e'
      replace Bf := Bf.ext e'
      replace BN := BN.ext e'
      replace B3 := B3.ext e'
      clear e'
      refine tl_nil ?_
      replace hf := hf.keep [0, 1, 3, 21, 22, 23]
      dsimp only [keep, List.filterMap, look, Nat.beq, Option.map] at hf
      exact ⟨(kids xs (b : Nat)).length - (k + 1), by omega, k + 1, _, rfl, by omega, hf, c, B3, BF, Bf, BN, HS, hNW⟩
  · obtain rfl : k = (kids xs (b : Nat)).length := by have := of_decide_eq_false hc; omega
    simp only [Exit.then, Exit.inBlock, ↓reduceIte]
    replace hf := hf.keep [0, 1, 3]
    dsimp only [keep, List.filterMap, look, Nat.beq, Option.map] at hf
    have ez : szTo xs b (kids xs (b : Nat)).length = sizeR xs (b : Nat) := by rw [sizeR_eq V hbl, szTo, List.take_length]
    have eh : hvTo xs (b : Nat) (kids xs (b : Nat)).length = heavyR xs (b : Nat) := by rw [hvTo, List.take_length]; rfl
    rw [ez, eh] at HS
    obtain ⟨kv, hkv, HK⟩ := HS.kids_at hbl
    rw [un_same] at HK
    have f3 : cells[0 + b * 5 + 3]? = some (I (heavyR xs (b : Nat))) := by have := HS.heavy_at hbl; rwa [un_same] at this
    have hb1 := HS.bd hbl (f := 1) (by decide)
    have l3 := B3.lt
    have lN := BN.lt
    obtain ⟨Bz, hBz⟩ : ∃ Bz, Bz = w.heap.size := ⟨_, rfl⟩
    repeat refine seq ?_
    refine regZ 8 [true, false, false, false, false, false, false] (fun c => Bz ≤ c) (fun w => True) (fun w w1 k h => trivial) Mix.mix hf (by decide +kernel) (by decide +kernel) ?_
    refine zf (fun w1 h1 => ld1 T145 rfl (B3.ch h1 (by omega)) rfl) ?_
    refine za (ld1 T145 rfl B3 rfl) ?_
    refine za (nilE rfl) ?_
    refine za (fldA Tryz.underlying134 rfl T59 (by decide) rfl) ?_
    refine za ((ld1 T59 rfl BN hkv).as (A := Dv (slE intE) (GB W G) (kids xs (b : Nat))) HK) ?_
    refine za (call1 (A := OwA intE 3 Bz Go.Mono.G0 (kids xs (b : Nat))) En83 rfl (fun v w' he h => Calls.mono (cloneO_spec _ _ w' h (by omega)) (fun en w2 ⟨u, h1, h2, h3⟩ => ⟨u, h1, h2, OwR.lower (B' := Bz) h3 (by have := he.size; omega) (fun b hb => hb.elim)⟩))) ?_
    refine za (makeF1 rfl) ?_
    refine zx (xcall2Z En98 rfl rfl (fun v u w' he h h' => by cases h'; exact deleteFuncI_spec (kids xs (b : Nat)) Bz v _ _ (fun x => x == heavyR xs (b : Nat)) w' En99 h (fun w2 x c2 => new31_spec x b3 bn _ _ cells w2 ((B3.ext he).ch c2 (by omega)) ((BN.ext he).ch c2 (by omega)) f3) (by omega))) ?_
    refine fun a w hc HF hf => ?_
    try dsimp only [push] at hf
    clear HF
    replace B3 := B3.ch hc (by omega)
    replace BN := BN.ch hc (by omega)
    replace c := c.tr (hc.to fun b _ hb => by omega)
    replace HS := HS.ch hc fun b hb => .inr (by omega)
    replace HS := HS.weak (G' := G) fun _ _ h => .inl h
    obtain ⟨v, hv, hf⟩ := hf.fix 81 rfl
    replace hv := Dv.weak (G' := G) hv fun c _ hc => by have := hG c hc; show c < Bz; omega
    replace hf := hf.keep [74, 81]
    dsimp only [keep, List.filterMap, look, Nat.beq, Option.map] at hf
    refine tl_op hf (by decide) (nilE rfl) fun a w e' hf => ?_
    replace HS := HS.ext e'
    replace hv := Dv.ex hv e'
    replace c := c.ext e'
    replace BN := BN.ext e'
    clear e'
    refine tl_op hf (by decide) (fldA Tryz.underlying134 rfl T59 (by decide) rfl) fun a w e' hf => ?_
    replace HS := HS.ext e'
    replace hv := Dv.ex hv e'
    replace c := c.ext e'
    replace BN := BN.ext e'
    clear e'
    refine tl_st1 T59 hf rfl rfl (Dv.slOne hv) BN hb1 fun w hg hsz BN hf => ?_
    replace HS := HS.gr hg hGn
    replace hv := Dv.gr hv hg hGn
    replace c := c.gr hg (.inl rfl)
    have HS1 := HS.light' hbl hv
    refine tl_nil ?_
    refine ret0n rfl hf ?_
    exact ⟨_, rfl, c, trivial, _, BN, HS1⟩
end Go.Mono

set_option linter.unusedVariables false
namespace Go.Mono
open Go

/-- the place of the lowest bit (64: none) -/
def tz (x : BitVec 64) : Nat := ((List.range 64).find? fun i => x.getLsbD i).getD 64
def tabZ : List Nat := [0, 1, 56, 2, 57, 49, 28, 3, 61, 58, 42, 50, 38, 29, 17, 4, 62, 47, 59, 36, 45, 43, 51, 22, 53, 39, 33, 30, 24, 18, 12, 5, 63, 55, 48, 27, 60, 41, 37, 16, 46, 35, 44, 21, 52, 32, 23, 11, 54, 26, 40, 15, 34, 20, 31, 10, 25, 14, 19, 9, 13, 8, 7, 6]
theorem tab_all : ∀ k, k < 64 → tabZ.getD (((1#64 <<< k) * 285870213051353865#64) >>> 58).toNat 0 = k := by decide
theorem tz_some {x : BitVec 64} (h : x ≠ 0) : ∃ k, k < 64 ∧ tz x = k ∧ x.getLsbD k = true ∧ ∀ j, j < k → x.getLsbD j = false := by
  cases hf : (List.range 64).find? fun i => x.getLsbD i with
  | none =>
    exfalso
    apply h
    apply BitVec.eq_of_getLsbD_eq
    intro i hi
    have := List.find?_eq_none.1 hf i (List.mem_range.2 hi)
    simpa using this
  | some k =>
    have hk := List.find?_some hf
    have hm := List.mem_range.1 (List.mem_of_find?_eq_some hf)
    refine ⟨k, hm, by simp [tz, hf], hk, fun j hj => ?_⟩
    have := (List.find?_range_eq_some.1 hf).2.2 j hj
    simpa using this
theorem lowbit {x : BitVec 64} {k : Nat} (hk : k < 64) (h : x.getLsbD k = true) (h0 : ∀ j, j < k → x.getLsbD j = false) : x &&& -x = 1#64 <<< k := by
  apply BitVec.eq_of_getLsbD_eq
  intro i hi
  rw [BitVec.getLsbD_and, BitVec.getLsbD_neg, BitVec.getLsbD_shiftLeft, BitVec.getLsbD_one]
  rcases Nat.lt_trichotomy i k with hik | hik | hik
  · simp [h0 i hik, hik]
  · subst hik
    have : ¬ ∃ j, j < i ∧ x.getLsbD j = true := fun ⟨j, hj, hb⟩ => by rw [h0 j hj] at hb; cases hb
    rw [decide_eq_false this]
    simp only [h]
    simp [hi]
  · have : ∃ j, j < i ∧ x.getLsbD j = true := ⟨k, hik, h⟩
    rw [decide_eq_true this]
    have hne : i - k ≠ 0 := by omega
    simp only [decide_eq_false hne, hi, decide_true, Bool.true_and, Bool.and_true, Bool.xor_true, Bool.and_false]
    cases x.getLsbD i <;> rfl
theorem tz_calc {x : BitVec 64} (h : x ≠ 0) : (((x &&& -x) * 285870213051353865#64) >>> 58).toNat < 64 ∧ tabZ.getD (((x &&& -x) * 285870213051353865#64) >>> 58).toNat 0 = tz x := by
  obtain ⟨k, hk, ht, hb, h0⟩ := tz_some h
  constructor
  · have : (((x &&& -x) * 285870213051353865#64) >>> 58).toNat < 64 := by
      rw [BitVec.toNat_ushiftRight, Nat.shiftRight_eq_div_pow]
      have := ((x &&& -x) * 285870213051353865#64).isLt
      omega
    exact this
  · rw [lowbit hk hb h0, tab_all k hk, ht]
theorem tz_lt {x : BitVec 64} (h : x ≠ 0) : tz x < 64 := by
  obtain ⟨k, hk, ht, _⟩ := tz_some h
  omega

/-- the least element -/
def minOf (S : BS) : Option Nat := (List.range 1024).find? fun i => S.getLsbD i
theorem minOf_none {S : BS} : minOf S = none ↔ S = 0 := by
  constructor
  · intro h
    apply BitVec.eq_of_getLsbD_eq
    intro i hi
    have := List.find?_eq_none.1 h i (List.mem_range.2 hi)
    simpa using this
  · rintro rfl
    exact List.find?_eq_none.2 fun x hx => by simp
theorem find_range {p : Nat → Bool} {n k : Nat} (hk : k < n) (h : p k = true) (h0 : ∀ j, j < k → p j = false) : (List.range n).find? p = some k := by
  rw [List.find?_range_eq_some]
  exact ⟨h, List.mem_range.2 hk, fun j hj => by simp [h0 j hj]⟩
theorem minOf_some {S : BS} {k : Nat} : minOf S = some k ↔ k < 1024 ∧ S.getLsbD k = true ∧ ∀ j, j < k → S.getLsbD j = false := by
  constructor
  · intro h
    have := List.find?_range_eq_some.1 h
    exact ⟨List.mem_range.1 this.2.1, this.1, fun j hj => by simpa using this.2.2 j hj⟩
  · rintro ⟨h1, h2, h3⟩
    exact find_range h1 h2 h3
theorem minOf_word {S : BS} {k : Nat} (hk : k < 16) (h0 : ∀ i, i < k → word S i = 0) (h : word S k ≠ 0) : minOf S = some (64 * k + tz (word S k)) := by
  obtain ⟨t, ht, e, hb, hz⟩ := tz_some h
  rw [e]
  refine minOf_some.2 ⟨by omega, ?_, fun j hj => ?_⟩
  · rwa [word_bit _ _ _ ht] at hb
  · by_cases hjk : j / 64 < k
    · have h1 := h0 _ hjk
      have h2 := congrArg (fun v => v.getLsbD (j % 64)) h1
      simp only [word_bit _ _ _ (Nat.mod_lt j (by decide : 0 < 64)), Nat.div_add_mod] at h2
      simpa using h2
    · have hj64 : j / 64 = k := by omega
      have h1 := hz (j % 64) (by omega)
      rw [word_bit _ _ _ (Nat.mod_lt j (by decide))] at h1
      rw [← hj64, Nat.div_add_mod] at h1
      exact h1
theorem all_zero {S : BS} (h : ∀ i, i < 16 → word S i = 0) : S = 0 := word_ext fun i hi => by rw [h i hi, word_zero]
end Go.Mono

set_option linter.unusedVariables false
set_option linter.unusedSimpArgs false
namespace Go.Mono
open Go Go.Proofs Go.RowKit

/-- the library's table lies where it was laid -/
def Tab (w : World) : Prop := ∀ i, i < 64 → w.cell? ⟨0, i, none⟩ = some (.int .u8 (tabZ.getD i 0 : Nat))
theorem Tab.ext {w w' : World} (h : Tab w) (e : Ext w w') : Tab w' := fun i hi =>
  (Below.cell e (p := ⟨0, i, none⟩) (World.block_lt_of_cell? w ⟨0, i, none⟩ (h i hi))).trans (h i hi)
theorem Tab.lt {w : World} (h : Tab w) : 0 < w.heap.size := World.block_lt_of_cell? w ⟨0, 0, none⟩ (h 0 (by decide))

theorem tz_spec (x : BitVec 64) (W : World) (hT : Tab W) : Calls Tryz.prog 163 #[Mono.W x] W (Post (E (I (tz x))) W) := by
  refine enter (args := [Mono.W x]) (As := [E (Mono.W x)]) Tryz.func163 rfl Tryz.ntmps163 (Nat.le_of_ble_eq_true rfl) ?_ (fun a hf => ?_) (Nat.le_of_ble_eq_true rfl)
  rotate_left
  dsimp only [params, Nat.reduceAdd] at hf
  rotate_right
  · exact arg1 rfl
  have e := Ext.rfl' W
  repeat refine seq ?_
  refine regn0 ?_
  refine tl_as hf rfl (by decide) fun a hf => ?_
  refine tl_nil ?_
  cases hb : (x == 0#64)
  · have hx : x ≠ 0 := by simpa using hb
    obtain ⟨h1, h2⟩ := tz_calc hx
    obtain ⟨p, hp⟩ : ∃ p : BitVec 64, p = ((x &&& -x) * 285870213051353865#64) >>> 58 := ⟨_, rfl⟩
    rw [← hp] at h1 h2
    repeat refine seq ?_
    refine regn 2 hf (by decide +kernel) ?_
    refine st (mv rfl) ?_
    refine st ((eqlW (v := 0#64) rfl rfl).eq (congrArg Value.bool (hb))) ?_
    refine en fun a w e' hf => ?_
    replace e := Ext.tr e e'
    clear e'
    refine tl_nil ?_
    repeat refine seq ?_
    refine ifc hf rfl (fun h => by cases h) (fun _ => wskip ?_)
    repeat refine seq ?_
    refine regn 9 hf (by decide +kernel) ?_
    refine st (mv rfl) ?_
    refine st (mv rfl) ?_
    refine st (negW rfl) ?_
    refine st (andW rfl rfl) ?_
    refine st (mulW (v := 285870213051353865#64) rfl rfl) ?_
    refine st ((shrW rfl rfl (by omega)).eq (show Mono.W _ = Mono.W p from by rw [hp]; rfl)) ?_
    refine st (idxA Tryz.underlying206 ⟨_, T5⟩ rfl rfl (by constructor <;> omega)) ?_
    refine st (ldC T5 rfl (v := .int .u8 (tabZ.getD p.toNat 0 : Nat)) (fun w' e' => by simpa using hT.ext (Ext.tr e e') _ h1)) ?_
    refine st (convI Tryz.underlying5 Tryz.underlying3 rfl) ?_
    refine en fun a w e' hf => ?_
    replace e := Ext.tr e e'
    clear e'
    refine tl_as hf rfl (by decide) fun a hf => ?_
    refine tl_nil ?_
    refine wret (ret1 rfl hf rfl ?_)
    rintro v rfl
    refine ⟨_, rfl, e, ?_⟩
    have h3 := tz_lt hx
    show Value.int .i64 _ = Value.int .i64 _
    rw [h2, IntWalk.i64_in _ (by omega)]
  · have hx : x = 0 := by simpa using hb
    repeat refine seq ?_
    refine regn 2 hf (by decide +kernel) ?_
    refine st (mv rfl) ?_
    refine st ((eqlW (v := 0#64) rfl rfl).eq (congrArg Value.bool (hb))) ?_
    refine en fun a w e' hf => ?_
    replace e := Ext.tr e e'
    clear e'
    refine tl_nil ?_
    repeat refine seq ?_
    refine ifc hf rfl (fun _ => ?_) (fun h => by cases h)
    repeat refine seq ?_
    refine regn0 ?_
    refine tl_as hf rfl (by decide) fun a hf => ?_
    refine tl_nil ?_
    refine wret (ret1 rfl hf rfl ?_)
    rintro v rfl
    refine ⟨_, rfl, e, ?_⟩
    subst hx
    rfl

/-- what Min returns -/
def minP (S : BS) : VA := Tup [E (I ((minOf S).getD 0 : Nat)), E (B (minOf S).isSome)]

theorem min_spec (S : BS) (W : World) (hT : Tab W) : Calls Tryz.prog 121 #[setV S] W (Post (minP S) W) := by
  refine enter (args := [setV S]) (As := [E (setV S)]) Tryz.func121 rfl Tryz.ntmps121 (Nat.le_of_ble_eq_true rfl) ?_ (fun a hf => ?_) (Nat.le_of_ble_eq_true rfl)
  rotate_left
  dsimp only [params, Nat.reduceAdd] at hf
  rotate_right
  · exact arg1 rfl
  have e := Ext.rfl' W
  repeat refine seq ?_
  refine regn0 ?_
  refine tl_box hf rfl (by decide) fun a b1 w v1 hv1 e' hb1 hs1 B1 hf => ?_
  have hle1 := Nat.le_trans e.size (Nat.le_of_eq hb1.symm)
  replace e := Ext.tr e e'
  clear e'
  refine tl_as hf rfl (by decide) fun a hf => ?_
  refine tl_as hf rfl (by decide) fun a hf => ?_
  refine tl_nil ?_
  subst hv1
  rw [setV_cells] at B1
  repeat refine seq ?_
  refine regn 2 hf (by decide +kernel) ?_
  refine st (ldW T67 rfl (by assumption) rfl) ?_
  refine st (mv rfl) ?_
  refine en fun a w e' hf => ?_
  replace e := Ext.tr e e'
  replace B1 := B1.ext e'
  clear e'
  refine tl_nil ?_
  replace hf := hf.keep [6, 7]
  dsimp only [keep, List.filterMap, look, Nat.beq, Option.map] at hf
  repeat refine seq ?_
  refine blk (loopN (fun r a w => ∃ k : Nat, r = 16 - k ∧ k ≤ 16 ∧ Fr 19 a w [(6, E (setV S)), (7, E (I k))] ∧ Ext W w ∧ ∀ i, i < k → word S i = 0) 16 ⟨0, rfl, by omega, hf, e, fun i hi => by omega⟩ ?_)
  clear hf e B1
  rintro r a w ⟨k, rfl, hk, hf, e, hz⟩
  by_cases hlt : k < 16
  · repeat refine seq ?_
    refine regn 1 hf (by decide +kernel) ?_
    refine st ((lss rfl rfl).eq (congrArg Value.bool (show decide ((k : Int) < 16) = true from decide_eq_true (by omega)))) ?_
    refine en fun a w e' hf => ?_
    replace e := Ext.tr e e'
    clear e'
    refine tl_nil ?_
    repeat refine seq ?_
    refine ifc hf rfl (fun _ => wskip ?_) (fun h => by cases h)
    repeat refine seq ?_
    refine blk ?_
    repeat refine seq ?_
    refine regn 2 hf (by decide +kernel) ?_
    refine st (mv rfl) ?_
    refine st (idxV Tryz.underlying67 T65 rfl rfl (by omega) (by simpa [setC] using wordsC_get (word S) k hlt)) ?_
    refine en fun a w e' hf => ?_
    replace e := Ext.tr e e'
    clear e'
    refine tl_as hf rfl (by decide) fun a hf => ?_
    refine tl_as hf rfl (by decide) fun a hf => ?_
    refine tl_nil ?_
    cases hb : (word S k != 0#64)
    · have hw : word S k = 0 := by simpa using hb
      repeat refine seq ?_
      refine regn 2 hf (by decide +kernel) ?_
      refine st (mv rfl) ?_
      refine st ((neqW (v := 0#64) rfl rfl).eq (congrArg Value.bool (hb))) ?_
      refine en fun a w e' hf => ?_
      replace e := Ext.tr e e'
      clear e'
      refine tl_nil ?_
      repeat refine seq ?_
      refine ifc hf rfl (fun h => by cases h) (fun _ => wskip ?_)
      repeat refine seq ?_
      refine regn 1 hf (by decide +kernel) ?_
      refine st (add rfl rfl (by omega)) ?_
      refine en fun a w e' hf => ?_
      replace e := Ext.tr e e'
      clear e'
      refine tl_op hf (by decide) (mv rfl) fun a w e' hf => ?_
      replace e := Ext.tr e e'
      clear e'
      refine tl_nil ?_
      replace hf := hf.keep [6, 7]
      dsimp only [keep, List.filterMap, look, Nat.beq, Option.map] at hf
      exact ⟨16 - (k + 1), by omega, k + 1, rfl, by omega, by simpa using hf, e, fun i hi => by
        by_cases h : i = k
        · subst h; exact hw
        · exact hz i (by omega)⟩
    · have hw : word S k ≠ 0 := by simpa using hb
      have hm := minOf_word hlt hz hw
      have htz := tz_lt hw
      repeat refine seq ?_
      refine regn 2 hf (by decide +kernel) ?_
      refine st (mv rfl) ?_
      refine st ((neqW (v := 0#64) rfl rfl).eq (congrArg Value.bool (hb))) ?_
      refine en fun a w e' hf => ?_
      replace e := Ext.tr e e'
      clear e'
      refine tl_nil ?_
      repeat refine seq ?_
      refine ifc hf rfl (fun _ => ?_) (fun h => by cases h)
      repeat refine seq ?_
      refine regn 5 hf (by decide +kernel) ?_
      refine st (mv rfl) ?_
      refine st (mul rfl rfl (by omega)) ?_
      refine st (mv rfl) ?_
      refine st (call1 En163 rfl (fun v w' e' h => by cases h; exact tz_spec _ w' (hT.ext (Ext.tr e e')))) ?_
      refine st (add rfl rfl (by omega)) ?_
      refine en fun a w e' hf => ?_
      replace e := Ext.tr e e'
      clear e'
      refine tl_as hf rfl (by decide) fun a hf => ?_
      refine tl_as hf rfl (by decide) fun a hf => ?_
      refine tl_nil ?_
      refine wret (ret2 rfl hf rfl rfl ?_)
      rintro u v rfl rfl
      refine ⟨_, rfl, e, Tup.two ?_ ?_⟩
      · rw [hm]; simp [E]
      · rw [hm]; rfl
  · obtain rfl : k = 16 := by omega
    have hm : minOf S = none := minOf_none.2 (all_zero hz)
    repeat refine seq ?_
    refine regn 1 hf (by decide +kernel) ?_
    refine st ((lss rfl rfl).eq (congrArg Value.bool (show decide (((16 : Nat) : Int) < 16) = false from rfl))) ?_
    refine en fun a w e' hf => ?_
    replace e := Ext.tr e e'
    clear e'
    refine tl_nil ?_
    repeat refine seq ?_
    refine ifc hf rfl (fun h => by cases h) (fun _ => wexit ?_)
    simp only [Exit.then, Exit.inBlock, ↓reduceIte]
    repeat refine seq ?_
    refine regn0 ?_
    refine tl_as hf rfl (by decide) fun a hf => ?_
    refine tl_as hf rfl (by decide) fun a hf => ?_
    refine tl_nil ?_
    refine wret (ret2 rfl hf rfl rfl ?_)
    rintro u v rfl rfl
    refine ⟨_, rfl, e, Tup.two ?_ ?_⟩
    · rw [hm]; rfl
    · rw [hm]; rfl
end Go.Mono

set_option linter.unusedVariables false
set_option linter.unusedSimpArgs false
namespace Go.Mono
open Go Go.Proofs Go.RowKit

/-- the elements, ascending -/
def elems (S : BS) : List Nat := (List.range 1024).filter fun i => S.getLsbD i
theorem mem_elems {S : BS} {i : Nat} : i ∈ elems S ↔ i < 1024 ∧ S.getLsbD i = true := by simp [elems, List.mem_filter]
theorem elems_zero : elems 0 = [] := by
  refine List.filter_eq_nil_iff.2 fun i _ => by simp
theorem range_at (n k : Nat) (hk : k < n) : List.range n = List.range k ++ k :: (List.range (n - (k + 1))).map (fun i => k + 1 + i) := by
  have h1 : List.range n = List.range (k + (1 + (n - (k + 1)))) := congrArg List.range (by omega)
  rw [h1, List.range_add, List.range_add, List.map_append, List.map_map]
  simp [Function.comp, Nat.add_assoc]
theorem elems_min {S : BS} {k : Nat} (h : minOf S = some k) : elems S = k :: elems (del S k) := by
  obtain ⟨hk, hb, h0⟩ := minOf_some.1 h
  have hfit : fitsB (k : Int) = true := fitsB_iff.2 ⟨by omega, by omega⟩
  have hdel : ∀ i, (del S (k : Int)).getLsbD i = (S.getLsbD i && !decide (i = k)) := by
    intro i
    rw [del, if_pos hfit, BitVec.getLsbD_and, BitVec.getLsbD_not, Int.toNat_natCast, sgl_bit _ _ hk]
    by_cases hi : i < 1024
    · simp [hi]
    · simp [hi, BitVec.getLsbD_of_ge S i (by omega)]
  unfold elems
  rw [range_at 1024 k hk, List.filter_append, List.filter_append, List.filter_cons_of_pos (by simpa using hb), List.filter_cons_of_neg (by simp [hdel])]
  have z1 : (List.range k).filter (fun i => S.getLsbD i) = [] := List.filter_eq_nil_iff.2 fun i hi => by simpa using h0 i (List.mem_range.1 hi)
  have z2 : (List.range k).filter (fun i => (del S (k : Int)).getLsbD i) = [] := List.filter_eq_nil_iff.2 fun i hi => by simp [hdel, h0 i (List.mem_range.1 hi)]
  rw [z1, z2, List.nil_append, List.nil_append]
  refine congrArg (k :: ·) (List.filter_congr fun i hi => ?_)
  obtain ⟨j, _, rfl⟩ := List.mem_map.1 hi
  rw [hdel]
  simp
  omega
theorem elems_none {S : BS} (h : minOf S = none) : elems S = [] := by rw [minOf_none.1 h]; exact elems_zero

/-- a set's iterator, over the box b -/
def seqV (b : Nat) : Value := .func (.func 123) #[] #[.pointer (some ⟨b, 0, none⟩)]
/-- what All returns: boxes from n on -/
def SeqA (n : Nat) (S : BS) : VA := ⟨fun v w => ∃ b, n ≤ b ∧ v = seqV b ∧ Blk w b (setC S) 67, fun v w w' e ⟨b, h1, h2, h3⟩ => ⟨b, h1, h2, h3.ext e⟩⟩

theorem all_spec (S : BS) (W : World) : Calls Tryz.prog 64 #[setV S] W (Post (SeqA W.heap.size S) W) := by
  refine enter (args := [setV S]) (As := [E (setV S)]) Tryz.func64 rfl Tryz.ntmps64 (Nat.le_of_ble_eq_true rfl) ?_ (fun a hf => ?_) (Nat.le_of_ble_eq_true rfl)
  rotate_left
  dsimp only [params, Nat.reduceAdd] at hf
  rotate_right
  · exact arg1 rfl
  have e := Ext.rfl' W
  repeat refine seq ?_
  refine regn0 ?_
  refine tl_box hf rfl (by decide) fun a b1 w v1 hv1 e' hb1 hs1 B1 hf => ?_
  have hle1 := Nat.le_trans e.size (Nat.le_of_eq hb1.symm)
  replace e := Ext.tr e e'
  clear e'
  refine tl_as hf rfl (by decide) fun a hf => ?_
  refine tl_nil ?_
  subst hv1
  rw [setV_cells] at B1
  repeat refine seq ?_
  refine regn 1 hf (by decide +kernel) ?_
  refine st (makeF (vs := fun _ => .pointer (some ⟨b1, 0, none⟩)) (by intro x hx; simp at hx; subst hx; rfl)) ?_
  refine en fun a w e' hf => ?_
  replace e := Ext.tr e e'
  replace B1 := B1.ext e'
  clear e'
  refine tl_as hf rfl (by decide) fun a hf => ?_
  refine tl_nil ?_
  refine wret (ret1 rfl hf rfl ?_)
  rintro v rfl
  exact ⟨_, rfl, e, b1, hle1, by simp [seqV], B1⟩

/-! ### the iterator's own walk -/
/-- the machinery's blocks of a loop that begins at heap size B -/
def Hole (B b : Nat) : Prop := B ≤ b ∧ b < B + 3
/-- a step of the machinery: only its own blocks have turned -/
structure Kp (B : Nat) (w w' : World) : Prop where
  os : w'.os = w.os
  tape : w'.tape = w.tape
  output : w'.output = w.output
  size : w.heap.size ≤ w'.heap.size
  same : ∀ b, b < w.heap.size → ¬Hole B b → w'.heap[b]? = w.heap[b]?
/-- a step of a round: the machinery's blocks are as they were -/
structure Kh (B : Nat) (w w' : World) : Prop where
  size : w.heap.size ≤ w'.heap.size
  same : ∀ b, b < w.heap.size → Hole B b → w'.heap[b]? = w.heap[b]?
theorem Kp.rfl' (B : Nat) (w : World) : Kp B w w := ⟨rfl, rfl, rfl, Nat.le_refl _, fun _ _ _ => rfl⟩
theorem Kp.tr {B : Nat} {a b c : World} (h : Kp B a b) (k : Kp B b c) : Kp B a c :=
  ⟨k.os.trans h.os, k.tape.trans h.tape, k.output.trans h.output, Nat.le_trans h.size k.size, fun x hx hh => (k.same x (Nat.lt_of_lt_of_le hx h.size) hh).trans (h.same x hx hh)⟩
theorem Kp.ext {B : Nat} {w w' : World} (e : Ext w w') : Kp B w w' := ⟨e.os, e.tape, e.output, e.size, fun b hb _ => e.block b hb⟩
theorem Kp.gr {B b : Nat} {w w' : World} (h : w.grownBy w' (some b)) (hb : Hole B b) : Kp B w w' :=
  ⟨h.os, h.tape, h.output, h.size, fun x hx hh => h.block x hx (fun e => by cases e; exact hh hb)⟩
theorem Kp.put {B b : Nat} {w : World} {o : Obj} (hb : Hole B b) : Kp B w (w.putObj b o) :=
  ⟨rfl, rfl, rfl, by simp, fun x hx hh => World.putObj_heap_other (fun e => by subst e; exact hh hb)⟩
theorem Kh.rfl' (B : Nat) (w : World) : Kh B w w := ⟨Nat.le_refl _, fun _ _ _ => rfl⟩
theorem Kh.tr {B : Nat} {a b c : World} (h : Kh B a b) (k : Kh B b c) : Kh B a c := ⟨Nat.le_trans h.size k.size, fun x hx hh => (k.same x (Nat.lt_of_lt_of_le hx h.size) hh).trans (h.same x hx hh)⟩
theorem Kh.ext {B : Nat} {w w' : World} (e : Ext w w') : Kh B w w' := ⟨e.size, fun b hb _ => e.block b hb⟩
theorem Kh.gr {B b : Nat} {w w' : World} (h : w.grownBy w' (some b)) (hb : ¬Hole B b) : Kh B w w' := ⟨h.size, fun x hx hh => h.block x hx (fun e => by cases e; exact hb hh)⟩
theorem Ext.kp {B : Nat} {W w w' : World} (e : Ext W w) (k : Kp B w w') (h : W.heap.size ≤ B) : Ext W w' :=
  Below.trans e ⟨k.os, k.tape, k.output, k.size, fun b hb => k.same b (Nat.lt_of_lt_of_le hb e.size) (fun hh => by have := hh.1; omega)⟩
theorem Blk.kp {B b : Nat} {w w' : World} {cs : Array Value} {t : TypeId} (h : Blk w b cs t) (k : Kp B w w') (hb : ¬Hole B b) : Blk w' b cs t := (k.same b h.lt hb).trans h
theorem Blk.kh {B b : Nat} {w w' : World} {cs : Array Value} {t : TypeId} (h : Blk w b cs t) (k : Kh B w w') (hb : Hole B b) : Blk w' b cs t := (k.same b h.lt hb).trans h
theorem Tab.kp {B : Nat} {w w' : World} (h : Tab w) (k : Kp B w w') (hB : 0 < B) : Tab w' := fun i hi =>
  (World.cell?_of_block (k.same 0 h.lt (fun hh => by have := hh.1; omega))).trans (h i hi)

/-- a call of yield, behind all others -/
theorem tl_y {P : Program} {L : Env} {ty : TypeId} {pos : String} {aft : Array Edge} {r : Option Nat} {ds : List Deferred} {ops : Array Oper} {rest : List Oper} {Q : Exit → Act → World → Prop} {n : Nat} {a : Act} {w : World} {x y : Operand} {tys : Array TypeId} {d l : Nat} {v : Value}
    {R : Value → World → Prop} (hf : FrD n ds a w L) (hx : opd L x = some (E (.func (.yield l) #[] #[]))) (hy : opd L y = some (E v))
    (h : ∃ fn tmps assign body, (Instr.yield l #[v]).run P w = .ok (.round l fn tmps assign body) w ∧ RoundIn Fence.wide 0 P l fn tmps assign body w (fun e w2 => ∃ u, e = .returned u ∧ R u w2))
    (k : ∀ u w2, R u w2 → wpListIn (FW r) 0 P ops Q rest (a.put (some d) u) w2) :
    wpListIn (FW r) 0 P ops Q (⟨some d, .call ⟨.value x, #[y], tys⟩, ty, pos, aft, none⟩ :: rest) a w :=
  wpListIn_plain rfl fun K hK => by
    obtain ⟨fn, tmps, assign, body, hrun, hR⟩ := h
    have hxv : a.eval x = .func (.yield l) #[] #[] := hf.opd x _ hx
    have hyv : a.eval y = v := hf.opd y _ hy
    refine OpR.wp (R := R) ?_ (fun u w2 hu => hK _ _ (k u w2 hu))
    simp [OpR, execOp, resolve, hxv, hyv, Deferred.ofValue, invoke, hrun]
    exact hR

/-- between two rounds: s has come; the iterator is at a world that the rounds' own word I holds of -/
theorem iter_spec (S : BS) (l b B0 : Nat) (W : World) (I : List Nat → World → Prop) (X : World → Prop) (hT : Tab W) (hb : Blk W b (setC S) 67) (hB : b < B0) (hBW : B0 ≤ W.heap.size) (hW3 : W.heap.size < B0 + 3) (h0 : I [] W)
    (hI : ∀ (s : List Nat) (w w' : World), I s w → Kp B0 w w' → W.heap.size ≤ w.heap.size → (∀ x, x < W.heap.size → w'.heap[x]? = w.heap[x]?) → I s w')
    (hX : ∀ w w', X w → Ext w w' → X w')
    (hE : ∀ s w, I s w → Tab w)
    (hy : ∀ (s : List Nat) (x : Nat) (rest : List Nat) (w : World), elems S = s ++ x :: rest → I s w → W.heap.size < w.heap.size → ∃ fn tmps assign body, (Instr.yield l #[Mono.I x]).run Tryz.prog w = .ok (.round l fn tmps assign body) w ∧
      RoundIn Fence.wide 0 Tryz.prog l fn tmps assign body w (fun e w2 => ∃ u, e = .returned u ∧ ((u = .bool true ∧ I (s ++ [x]) w2 ∧ w.heap.size ≤ w2.heap.size ∧ w2.heap[W.heap.size]? = w.heap[W.heap.size]?) ∨ (u = .bool false ∧ X w2)))) :
    Calls Tryz.prog 123 #[.func (.yield l) #[] #[], .pointer (some ⟨b, 0, none⟩)] W (fun e w' => e = .returned (.tuple #[]) ∧ (I (elems S) w' ∨ X w')) := by
  refine enter (args := [.func (.yield l) #[] #[], .pointer (some ⟨b, 0, none⟩)]) (As := [E (.func (.yield l) #[] #[]), E (.pointer (some ⟨b, 0, none⟩))]) Tryz.func123 rfl Tryz.ntmps123 (Nat.le_of_ble_eq_true rfl) ?_ (fun a hf => ?_) (Nat.le_of_ble_eq_true rfl)
  rotate_left
  dsimp only [params, Nat.reduceAdd] at hf
  rotate_right
  · exact arg2 rfl rfl
  have e := Ext.rfl' W
  repeat refine seq ?_
  refine regn0 ?_
  refine tl_ldW T67 hf rfl hb (setC_size _) (by decide) fun a hf => ?_
  refine tl_alloc I67 hf (by decide) fun a b3 w e' hb3 hs3 B3 hf => ?_
  have hle3 := Nat.le_trans e.size (Nat.le_of_eq hb3.symm)
  replace e := Ext.tr e e'
  replace hb := hb.ext e'
  clear e'
  haveI hinr : ∀ G0, InR (GB W G0) (some b3) := fun G0 => InR.gb (by omega)
  refine tl_stW T67 hf rfl rfl (wordsC_one _) B3 rfl (rfl) fun w hg hsz B3 hf => ?_
  replace e := e.gr hg (by omega)
  replace hb := hb.gr hg (by omega)
  clear hg
  refine tl_nil ?_
  have k0 : I [] w := hI [] W w h0 (Kp.ext ⟨e.os, e.tape, e.output, e.size, e.block⟩) (Nat.le_refl _) (fun x hx => e.block x hx)
  obtain rfl : b3 = W.heap.size := by omega
  have hlt3 : W.heap.size < w.heap.size := by omega
  clear hb hT
  have hT := hE _ _ k0
  clear e
  repeat refine seq ?_
  refine regn 5 hf (by decide +kernel) ?_
  refine st (ldW T67 rfl (by assumption) rfl) ?_
  refine st (call1 En121 rfl (fun v w' e' h => by cases h; exact min_spec S w' (hT.ext e'))) ?_
  refine st (mv rfl) ?_
  refine st (ext_ rfl rfl) ?_
  refine st (ext_ rfl rfl) ?_
  refine en fun a w e' hf => ?_
  replace hT := hE _ _ k0
  replace k0 := hI _ _ _ k0 (Kp.ext e') (by omega) (fun x hx => e'.block x (by omega))
  replace hlt3 := Nat.lt_of_lt_of_le hlt3 e'.size
  replace B3 := B3.ext e'
  clear e'
  refine tl_as hf rfl (by decide) fun a hf => ?_
  refine tl_as hf rfl (by decide) fun a hf => ?_
  refine tl_nil ?_
  replace hf := hf.keep [0, 3, 4, 5]
  dsimp only [keep, List.filterMap, look, Nat.beq, Option.map] at hf
  repeat refine seq ?_
  refine blk (loopN (fun r a w => ∃ (T : BS) (s : List Nat), r = (elems T).length ∧ elems S = s ++ elems T ∧ Fr 25 a w [(0, E (.func (.yield l) #[] #[])), (3, E (.pointer (some ⟨W.heap.size, 0, none⟩))), (4, E (Mono.I ((minOf T).getD 0 : Nat))), (5, E (B (minOf T).isSome))] ∧
    I s w ∧ Blk w W.heap.size (setC T) 67 ∧ W.heap.size < w.heap.size) (elems S).length ⟨S, [], Eq.refl (elems S).length, (List.nil_append _).symm, hf, k0, B3, hlt3⟩ ?_)
  clear hf k0 B3 hlt3 hT
  rintro r a w ⟨T, s, hr, hs, hf, k0, B3, hlt3⟩
  have hT := hE _ _ k0
  cases hm : minOf T with
  | none =>
    rw [hm] at hf
    repeat refine seq ?_
    refine regn 1 hf (by decide +kernel) ?_
    refine st (mv rfl) ?_
    refine en fun a w e' hf => ?_
    replace hT := hE _ _ k0
    replace k0 := hI _ _ _ k0 (Kp.ext e') (by omega) (fun x hx => e'.block x (by omega))
    replace hlt3 := Nat.lt_of_lt_of_le hlt3 e'.size
    replace B3 := B3.ext e'
    clear e'
    refine tl_nil ?_
    repeat refine seq ?_
    refine ifc hf rfl (fun h => by cases h) (fun _ => wexit ?_)
    simp only [Exit.then, Exit.inBlock, ↓reduceIte]
    rw [elems_none hm, List.append_nil] at hs
    exact ret0n rfl hf ⟨rfl, .inl (hs ▸ k0)⟩
  | some k =>
    rw [hm] at hf
    have he := elems_min hm
    repeat refine seq ?_
    refine regn 1 hf (by decide +kernel) ?_
    refine st (mv rfl) ?_
    refine en fun a w e' hf => ?_
    replace hT := hE _ _ k0
    replace k0 := hI _ _ _ k0 (Kp.ext e') (by omega) (fun x hx => e'.block x (by omega))
    replace hlt3 := Nat.lt_of_lt_of_le hlt3 e'.size
    replace B3 := B3.ext e'
    clear e'
    refine tl_nil ?_
    repeat refine seq ?_
    refine ifc hf rfl (fun _ => wskip ?_) (fun h => by cases h)
    repeat refine seq ?_
    refine blk ?_
    repeat refine seq ?_
    refine regn 2 hf (by decide +kernel) ?_
    refine st (mv rfl) ?_
    refine st (mv rfl) ?_
    refine en fun a w e' hf => ?_
    replace hT := hE _ _ k0
    replace k0 := hI _ _ _ k0 (Kp.ext e') (by omega) (fun x hx => e'.block x (by omega))
    replace hlt3 := Nat.lt_of_lt_of_le hlt3 e'.size
    replace B3 := B3.ext e'
    clear e'
    refine tl_y hf rfl rfl (hy s k (elems (del T k)) w (by rw [hs, he]) k0 hlt3) fun u w2 hu => ?_
    rcases hu with ⟨rfl, kI, hsz, hrb⟩ | ⟨rfl, kX⟩
    · replace hf := (hf.pure w2).put (d := some 20) (Ext.rfl' _) (by rintro _ ⟨⟩; decide) (A := E (.bool true)) rfl
      dsimp only [push] at hf
      replace k0 := kI
      replace B3 : Blk w2 W.heap.size (setC T) 67 := hrb.trans B3
      replace hlt3 := Nat.lt_of_lt_of_le hlt3 hsz
      clear kI hrb hT
      refine tl_op hf (by decide) (notp rfl) fun a w e' hf => ?_
      replace hT := hE _ _ k0
      replace k0 := hI _ _ _ k0 (Kp.ext e') (by omega) (fun x hx => e'.block x (by omega))
      replace hlt3 := Nat.lt_of_lt_of_le hlt3 e'.size
      replace B3 := B3.ext e'
      clear e'
      refine tl_nil ?_
      repeat refine seq ?_
      refine ifc hf rfl (fun h => by cases h) (fun _ => wskip ?_)
      replace hf := hf.keep [0, 3, 4]
      dsimp only [keep, List.filterMap, look, Nat.beq, Option.map] at hf
      repeat refine seq ?_
      refine regn 2 hf (by decide +kernel) ?_
      refine st (ldW T67 rfl (by assumption) rfl) ?_
      refine st (mv rfl) ?_
      refine en fun a w e' hf => ?_
      replace hT := hE _ _ k0
      replace k0 := hI _ _ _ k0 (Kp.ext e') (by omega) (fun x hx => e'.block x (by omega))
      replace hlt3 := Nat.lt_of_lt_of_le hlt3 e'.size
      replace B3 := B3.ext e'
      clear e'
      refine tl_op hf (by decide) (call2 En124 rfl rfl (fun v u w' e' h h' => by cases h; cases h'; exact without_spec T k w')) fun a w e' hf => ?_
      replace hT := hE _ _ k0
      replace k0 := hI _ _ _ k0 (Kp.ext e') (by omega) (fun x hx => e'.block x (by omega))
      replace hlt3 := Nat.lt_of_lt_of_le hlt3 e'.size
      replace B3 := B3.ext e'
      clear e'
      refine tl_stW T67 hf rfl rfl (wordsC_one _) B3 rfl (rfl) fun w hg hsz B3 hf => ?_
      replace hT := hE _ _ k0
      replace k0 := hI _ _ _ k0 (Kp.gr hg ⟨hBW, hW3⟩) (by omega) (fun x hx => hg.block x (by omega) (by simp; omega))
      replace hlt3 := Nat.lt_of_lt_of_le hlt3 hg.size
      clear hg
      refine tl_nil ?_
      replace hf := hf.keep [0, 3]
      dsimp only [keep, List.filterMap, look, Nat.beq, Option.map] at hf
      have hT := hE _ _ k0
      repeat refine seq ?_
      refine regn 5 hf (by decide +kernel) ?_
      refine st (ldW T67 rfl (by assumption) rfl) ?_
      refine st (call1 En121 rfl (fun v w' e' h => by cases h; exact min_spec _ w' (hT.ext e'))) ?_
      refine st (mv rfl) ?_
      refine st (ext_ rfl rfl) ?_
      refine st (ext_ rfl rfl) ?_
      refine en fun a w e' hf => ?_
      replace hT := hE _ _ k0
      replace k0 := hI _ _ _ k0 (Kp.ext e') (by omega) (fun x hx => e'.block x (by omega))
      replace hlt3 := Nat.lt_of_lt_of_le hlt3 e'.size
      replace B3 := B3.ext e'
      clear e'
      refine tl_as hf rfl (by decide) fun a hf => ?_
      refine tl_as hf rfl (by decide) fun a hf => ?_
      refine tl_nil ?_
      replace hf := hf.keep [0, 3, 4, 5]
      dsimp only [keep, List.filterMap, look, Nat.beq, Option.map] at hf
      refine ⟨(elems (del T k)).length, by rw [hr, he]; exact Nat.lt_succ_self _, del T k, s ++ [k], Eq.refl (elems (del T k)).length, by rw [hs, he, List.append_assoc]; exact congrArg (s ++ ·) (List.singleton_append).symm, hf, k0, B3, hlt3⟩
    · replace hf := (hf.pure w2).put (d := some 20) (Ext.rfl' _) (by rintro _ ⟨⟩; decide) (A := E (.bool false)) rfl
      dsimp only [push] at hf
      refine tl_op hf (by decide) (notp rfl) fun a w e' hf => ?_
      replace kX := hX _ _ kX e'
      clear e'
      refine tl_nil ?_
      repeat refine seq ?_
      refine ifc hf rfl (fun _ => ?_) (fun h => by cases h)
      refine wret ?_
      simp only [Exit.then, Exit.inBlock]
      exact ret0 rfl hf ⟨rfl, .inr kX⟩
end Go.Mono

set_option linter.unusedVariables false
set_option linter.unusedSimpArgs false
namespace Go.Mono
open Go Go.Proofs Go.RowKit

/-- what a round's body must come to -/
def Rd (J : List Nat → World → Prop) (X : Exit → World → Prop) (s : List Nat) (x B : Nat) (w3 : World) : Exit → Act → World → Prop
  | .normal, _, w => J (s ++ [x]) w ∧ Kh B w3 w
  | .ret, _, w => X .ret w ∧ Kh B w3 w
  | .exit id, _, w => X (.exit id) w ∧ Kh B w3 w
  | _, _, _ => False

def codeOf : Exit → Option Code
  | .ret => some .ret
  | .exit id => some (.exit id)
  | _ => none

theorem Kp.of_ext {B : Nat} {w w' : World} (e : Ext w w') : Kp B w w' := Kp.ext e

section
variable {g : Operand} {p : Nat} {assign body : Code} {Q : Exit → Act → World → Prop} {n b : Nat} {ds : List Deferred} {a : Act} {w : World} {S : BS} {L : Env} {r : Option Nat}

theorem range_core [PureL L] {l : Nat} {mark : List Deferred} {df : Nat} {D : Option Nat} (hf : FrD n ds a w L) (hx : opd L g = some (E (seqV b))) (hb : Blk w b (setC S) 67) (hp : p < n)
    (J : List Nat → World → Prop) (X : Exit → World → Prop)
    (henter : ∀ fn, ∃ W1, (Instr.enterLoop fn a.tmps #[p] assign body r).run Tryz.prog w = .ok (l, mark) W1 ∧ W1.heap[l]? = some (.loop { state := .ready, pending := none, fn, tmps := a.tmps, params := #[p], assign, body, defers := df }) ∧ Ext w W1 ∧
      W1.heap.size ≤ w.heap.size + 2 ∧ w.heap.size ≤ l ∧ ∀ d, D = some d → W1.heap[d]? = some (.deferred (some [])) ∧ d ≠ l ∧ w.heap.size ≤ d)
    (hT : ∀ s w1, J s w1 → Tab w1) (h0 : J [] w)
    (hJ : ∀ s w1 w2, J s w1 → w.heap.size ≤ w1.heap.size → Kp w.heap.size w1 w2 → J s w2)
    (hX : ∀ e w1 w2, X e w1 → w.heap.size ≤ w1.heap.size → Kp w.heap.size w1 w2 → X e w2)
    (hbody : ∀ (l s x) (rest : List Nat) (a1 : Act) (w1 : World), elems S = s ++ x :: rest → J s w1 → w.heap.size < w1.heap.size → FrD n [] a1 w1 ((p, E (I (x : Nat))) :: L) →
      assign.wpIn (FW (some l)) 0 Tryz.prog (Exit.then (fun a2 w2 => Kh w.heap.size w1 w2 ∧ ∀ w3, Kp w.heap.size w2 w3 → w3.heap.size = w2.heap.size → body.wpIn (FW (some l)) 0 Tryz.prog (Rd J X s x w.heap.size w3) a2 w3) (fun _ _ _ => False)) a1 w1)
    (hdone : ∀ a' w', FrD n (mark ++ ds) a' w' L → J (elems S) w' → w.heap.size ≤ w'.heap.size → (∀ d, D = some d → w'.heap[d]? = some (.deferred (some []))) → Q .normal a' w')
    (hexit : ∀ e c a' w', codeOf e = some c → FrD n (mark ++ ds) a' w' L → X e w' → w.heap.size ≤ w'.heap.size → (∀ d, D = some d → w'.heap[d]? = some (.deferred (some []))) → Q e a' w') :
    (Code.rangeFunc g #[p] assign body).wpIn (FW r) 0 Tryz.prog Q a w := by
  have hxv : a.eval g = seqV b := hf.opd g _ hx
  refine wpIn_rangeFunc fun fn _ => ?_
  obtain ⟨W1, hrun, hl, he, hsz, hwl, hD⟩ := henter fn
  have hlt : l < W1.heap.size := (Array.getElem?_eq_some_iff.1 hl).1
  have hres : (resolve a.eval (rangeCall g l) 0).run Tryz.prog W1 = .ok { target := .fn (.func 123) #[.pointer (some ⟨b, 0, none⟩)], args := #[.func (.yield l) #[] #[]] } W1 := by
    have hev : a.eval (.const (.func (.yield l) #[] #[])) = .func (.yield l) #[] #[] := rfl
    simp [resolve, hxv, hev, seqV, Deferred.ofValue]
  refine ⟨l, mark, W1, _, W1, 123, #[.func (.yield l) #[] #[], .pointer (some ⟨b, 0, none⟩)], W1, hrun, hres, fun _ _ => trivial, ?_, fun hd => (by simp [FW] at hd), ?_⟩
  · exact En123 _ W1
  generalize hrec : ({ state := .ready, pending := none, fn, tmps := a.tmps, params := #[p], assign, body, defers := df } : Loop) = rec0 at hl
  have hhole : Hole w.heap.size l := ⟨hwl, by omega⟩
  have hW3 : ∀ x, x < W1.heap.size → w.heap.size ≤ x → Hole w.heap.size x := fun x h1 h2 => ⟨h2, by omega⟩
  refine callsW r ((iter_spec S l b w.heap.size W1
    (fun s w1 => J s w1 ∧ W1.heap.size ≤ w1.heap.size ∧ w1.heap[l]? = some (.loop rec0) ∧ ∀ d, D = some d → w1.heap[d]? = some (.deferred (some [])))
    (fun w1 => ∃ e c, codeOf e = some c ∧ X e w1 ∧ W1.heap.size ≤ w1.heap.size ∧ w1.heap[l]? = some (.loop { rec0 with state := .done, pending := some c }) ∧ ∀ d, D = some d → w1.heap[d]? = some (.deferred (some [])))
    ((hT [] w h0).ext he) (hb.ext he) hb.lt he.size (by omega) ⟨hJ [] w W1 h0 (Nat.le_refl _) (Kp.ext he), Nat.le_refl _, hl, fun d hd => (hD d hd).1⟩ ?_ ?_ ?_ ?_).mono ?_)
  · rintro s w1 w2 ⟨j1, j2, j3, j4⟩ k hsz1 hsame
    refine ⟨hJ s w1 w2 j1 (Nat.le_trans he.size j2) k, Nat.le_trans j2 k.size, (hsame l hlt).trans j3, fun d hd => (hsame d ?_).trans (j4 d hd)⟩
    exact (Array.getElem?_eq_some_iff.1 (hD d hd).1).1
  · rintro w1 w2 ⟨e, c, x1, x2, x3, x4, x5⟩ k
    exact ⟨e, c, x1, hX e w1 w2 x2 (Nat.le_trans he.size x3) (Kp.ext k), Nat.le_trans x3 k.size, (k.block l (by omega)).trans x4, fun d hd => (k.block d (Array.getElem?_eq_some_iff.1 (x5 d hd)).1).trans (x5 d hd)⟩
  · rintro s w1 ⟨j1, _⟩
    exact hT s w1 j1
  · rintro s x rest w1 hs ⟨j1, j2, j3, j4⟩ hltW
    have hy := run_yield (P := Tryz.prog) (args := #[I (x : Nat)]) j3 (by subst hrec; rfl)
    have htm : (rec0.params.zip #[I (x : Nat)]).foldl (fun tmps (t, a) => tmps.setIfInBounds t a) rec0.tmps = a.tmps.setIfInBounds p (I (x : Nat)) := by
      subst hrec; simp
    have hfn : rec0.assign = assign ∧ rec0.body = body ∧ rec0.fn = fn ∧ rec0.state = .ready := by subst hrec; exact ⟨rfl, rfl, rfl, rfl⟩
    rw [htm, hfn.1, hfn.2.1] at hy
    refine ⟨_, _, _, _, hy, ?_⟩
    have hf0 : FrD n [] { tmps := a.tmps, defers := [] } w1 L := ⟨hf.size, rfl, fun t A ht => PureL.pu t A ht _ _ _ (hf.val t A ht)⟩
    have hf1 : FrD n [] { tmps := a.tmps.setIfInBounds p (I (x : Nat)), defers := [] } w1 ((p, E (I (x : Nat))) :: L) :=
      hf0.put (d := some p) (v := I (x : Nat)) (A := E (I (x : Nat))) (Ext.rfl' _) (fun k hk => by cases hk; exact hp) rfl
    refine roundIn_of_wpIn (F := Fence.wide) (n := 0) trivial ?_
    refine wpIn_mono (hbody l s x rest _ w1 hs j1 (by omega) hf1) fun e2 a2 w2 hq => ?_
    cases e2 with
    | normal =>
      obtain ⟨kh, hb2⟩ := hq
      have j3' : w2.heap[l]? = some (.loop rec0) := (kh.same l (by omega) hhole).trans j3
      refine ⟨_, run_beginRound j3' hfn.2.2.2, ?_⟩
      refine wpIn_mono (hb2 (w2.putObj l (.loop { rec0 with state := .busy })) (Kp.put hhole) (by simp)) fun e3 a3 w3 hq3 => ?_
      have hl2 : l < w2.heap.size := (Array.getElem?_eq_some_iff.1 j3').1
      have rec3 : ∀ {w3 : World}, Kh w.heap.size (w2.putObj l (.loop { rec0 with state := .busy })) w3 → w3.heap[l]? = some (.loop { rec0 with state := .busy }) := fun k =>
        (k.same l (by simpa using hl2) hhole).trans (World.putObj_heap_same hl2)
      have size3 : ∀ {w3 : World}, Kh w.heap.size (w2.putObj l (.loop { rec0 with state := .busy })) w3 → w1.heap.size ≤ w3.heap.size := fun k => by
        have h1 := k.size
        have h2 := kh.size
        simp at h1
        omega
      have d3 : ∀ {w3 : World}, Kh w.heap.size (w2.putObj l (.loop { rec0 with state := .busy })) w3 → ∀ o, ∀ d, D = some d → (w3.putObj l o).heap[d]? = some (.deferred (some [])) := fun {w3} k o d hd => by
        have h1 := hD d hd
        have hdlt : d < w1.heap.size := (Array.getElem?_eq_some_iff.1 (j4 d hd)).1
        have hdh : Hole w.heap.size d := hW3 d (Array.getElem?_eq_some_iff.1 h1.1).1 h1.2.2
        have hk2 := kh.size
        rw [World.putObj_heap_other h1.2.1, k.same d (by simp; omega) hdh, World.putObj_heap_other h1.2.1, kh.same d hdlt hdh]
        exact j4 d hd
      have rb3 : ∀ {w3 : World}, Kh w.heap.size (w2.putObj l (.loop { rec0 with state := .busy })) w3 → ∀ o, (w3.putObj l o).heap[W1.heap.size]? = w1.heap[W1.heap.size]? := fun {w3} k o => by
        have hne : W1.heap.size ≠ l := by omega
        have hr : Hole w.heap.size W1.heap.size := ⟨he.size, by omega⟩
        have hk2 := kh.size
        rw [World.putObj_heap_other hne, k.same _ (by simp; omega) hr, World.putObj_heap_other hne, kh.same _ hltW hr]
      cases e3 with
      | normal =>
        obtain ⟨q1, q2⟩ := hq3
        refine ⟨_, _, run_endRound none (rec3 q2), _, rfl, .inl ⟨rfl, ⟨hJ _ _ _ q1 (Nat.le_trans (Nat.le_trans he.size j2) (size3 q2)) (Kp.put hhole), ?_, ?_, d3 q2 _⟩, by simpa using size3 q2, rb3 q2 _⟩⟩
        · have := size3 q2; simp; omega
        · rw [World.putObj_heap_same (Array.getElem?_eq_some_iff.1 (rec3 q2)).1]
          subst hrec
          rfl
      | ret =>
        obtain ⟨q1, q2⟩ := hq3
        refine ⟨_, _, run_endRound (some .ret) (rec3 q2), _, rfl, .inr ⟨rfl, .ret, .ret, rfl, hX _ _ _ q1 (Nat.le_trans (Nat.le_trans he.size j2) (size3 q2)) (Kp.put hhole), ?_, ?_, d3 q2 _⟩⟩
        · have := size3 q2; simp; omega
        · rw [World.putObj_heap_same (Array.getElem?_eq_some_iff.1 (rec3 q2)).1]
          rfl
      | exit id =>
        obtain ⟨q1, q2⟩ := hq3
        refine ⟨_, _, run_endRound (some (.exit id)) (rec3 q2), _, rfl, .inr ⟨rfl, .exit id, .exit id, rfl, hX _ _ _ q1 (Nat.le_trans (Nat.le_trans he.size j2) (size3 q2)) (Kp.put hhole), ?_, ?_, d3 q2 _⟩⟩
        · have := size3 q2; simp; omega
        · rw [World.putObj_heap_same (Array.getElem?_eq_some_iff.1 (rec3 q2)).1]
          rfl
      | goto t => exact hq3.elim
      | panic c => exact hq3.elim
      | outgrown => exact hq3.elim
    | _ => exact hq.elim
  · rintro e w2 ⟨rfl, h | h⟩
    · obtain ⟨j1, j2, j3, j4⟩ := h
      refine ⟨none, w2.putObj l (.loop { rec0 with state := .exhausted }), ?_, hdone _ _ (⟨hf.size, by simp [hf.defers], fun t A ht => PureL.pu t A ht _ _ _ (hf.val t A ht)⟩) (hJ _ _ _ j1 (Nat.le_trans he.size j2) (Kp.put hhole)) ?_ ?_⟩
      · have := run_endLoop (P := Tryz.prog) j3 (by subst hrec; simp)
        subst hrec
        exact this
      · have := he.size; simp; omega
      · intro d hd
        rw [World.putObj_heap_other (hD d hd).2.1]
        exact j4 d hd
    · obtain ⟨ex, c, x1, x2, x3, x4, x5⟩ := h
      refine ⟨some c, _, run_endLoop (P := Tryz.prog) x4 (by simp), ?_⟩
      have hQ := hexit ex c { a with defers := mark ++ a.defers } (w2.putObj l (.loop { rec0 with state := .exhausted, pending := some c })) x1 (⟨hf.size, by simp [hf.defers], fun t A ht => PureL.pu t A ht _ _ _ (hf.val t A ht)⟩)
        (hX _ _ _ x2 (Nat.le_trans he.size x3) (Kp.put hhole)) (by have := he.size; simp; omega) (fun d hd => by
          rw [World.putObj_heap_other (hD d hd).2.1]
          exact x5 d hd)
      cases ex with
      | ret => cases x1; exact wpIn_ret hQ
      | exit id => cases x1; exact wpIn_exit hQ
      | _ => cases x1

/-- at the outermost: the block for deferred calls is D -/
theorem range_all [PureL L] (hf : FrD n ds a w L) (hx : opd L g = some (E (seqV b))) (hb : Blk w b (setC S) 67) (hp : p < n)
    (J : List Nat → World → Prop) (X : Exit → World → Prop)
    (hT : ∀ s w1, J s w1 → Tab w1) (h0 : J [] w)
    (hJ : ∀ s w1 w2, J s w1 → w.heap.size ≤ w1.heap.size → Kp w.heap.size w1 w2 → J s w2)
    (hX : ∀ e w1 w2, X e w1 → w.heap.size ≤ w1.heap.size → Kp w.heap.size w1 w2 → X e w2)
    (hbody : ∀ (l s x) (rest : List Nat) (a1 : Act) (w1 : World), elems S = s ++ x :: rest → J s w1 → w.heap.size < w1.heap.size → FrD n [] a1 w1 ((p, E (I (x : Nat))) :: L) →
      assign.wpIn (FW (some l)) 0 Tryz.prog (Exit.then (fun a2 w2 => Kh w.heap.size w1 w2 ∧ ∀ w3, Kp w.heap.size w2 w3 → w3.heap.size = w2.heap.size → body.wpIn (FW (some l)) 0 Tryz.prog (Rd J X s x w.heap.size w3) a2 w3) (fun _ _ _ => False)) a1 w1)
    (hdone : ∀ a' w', FrD n ({ target := .collected w.heap.size, args := #[] } :: ds) a' w' L → J (elems S) w' → w.heap.size ≤ w'.heap.size → w'.heap[w.heap.size]? = some (.deferred (some [])) → Q .normal a' w')
    (hexit : ∀ e c a' w', codeOf e = some c → FrD n ({ target := .collected w.heap.size, args := #[] } :: ds) a' w' L → X e w' → w.heap.size ≤ w'.heap.size → w'.heap[w.heap.size]? = some (.deferred (some [])) → Q e a' w') :
    (Code.rangeFunc g #[p] assign body).wpIn (FW none) 0 Tryz.prog Q a w := by
  refine range_core (l := w.heap.size + 1) (mark := [{ target := .collected w.heap.size, args := #[] }]) (df := w.heap.size) (D := some w.heap.size) hf hx hb hp J X ?_ hT h0 hJ hX hbody
    (fun a' w' h1 h2 h3 h4 => hdone a' w' h1 h2 h3 (h4 _ rfl)) (fun e c a' w' h1 h2 h3 h4 h5 => hexit e c a' w' h1 h2 h3 h4 (h5 _ rfl))
  intro fn
  refine ⟨_, run_enterLoop_outer fn a.tmps #[p] assign body, ?_, ?_, ?_, by omega, ?_⟩
  · have := World.alloc_heap_new (w.alloc (.deferred (some []))) (.loop { state := .ready, pending := none, fn, tmps := a.tmps, params := #[p], assign, body, defers := w.heap.size })
    rwa [World.size_alloc] at this
  · exact Ext.tr (ext_alloc w _) (ext_alloc _ _)
  · simp
  · rintro d hd
    cases hd
    refine ⟨?_, by omega, Nat.le_refl _⟩
    rw [Below.heap_alloc _ _ _ (by simp)]
    exact World.alloc_heap_new w _

/-- in a round of another loop, whose record is l0 -/
theorem range_in [PureL L] {l0 : Nat} {r0 : Loop} (hl0 : w.heap[l0]? = some (.loop r0)) (hf : FrD n ds a w L) (hx : opd L g = some (E (seqV b))) (hb : Blk w b (setC S) 67) (hp : p < n)
    (J : List Nat → World → Prop) (X : Exit → World → Prop)
    (hT : ∀ s w1, J s w1 → Tab w1) (h0 : J [] w)
    (hJ : ∀ s w1 w2, J s w1 → w.heap.size ≤ w1.heap.size → Kp w.heap.size w1 w2 → J s w2)
    (hX : ∀ e w1 w2, X e w1 → w.heap.size ≤ w1.heap.size → Kp w.heap.size w1 w2 → X e w2)
    (hbody : ∀ (l s x) (rest : List Nat) (a1 : Act) (w1 : World), elems S = s ++ x :: rest → J s w1 → w.heap.size < w1.heap.size → FrD n [] a1 w1 ((p, E (I (x : Nat))) :: L) →
      assign.wpIn (FW (some l)) 0 Tryz.prog (Exit.then (fun a2 w2 => Kh w.heap.size w1 w2 ∧ ∀ w3, Kp w.heap.size w2 w3 → w3.heap.size = w2.heap.size → body.wpIn (FW (some l)) 0 Tryz.prog (Rd J X s x w.heap.size w3) a2 w3) (fun _ _ _ => False)) a1 w1)
    (hdone : ∀ a' w', FrD n ds a' w' L → J (elems S) w' → w.heap.size ≤ w'.heap.size → Q .normal a' w')
    (hexit : ∀ e c a' w', codeOf e = some c → FrD n ds a' w' L → X e w' → w.heap.size ≤ w'.heap.size → Q e a' w') :
    (Code.rangeFunc g #[p] assign body).wpIn (FW (some l0)) 0 Tryz.prog Q a w := by
  refine range_core (l := w.heap.size) (mark := []) (df := r0.defers) (D := none) hf hx hb hp J X ?_ hT h0 hJ hX hbody
    (fun a' w' h1 h2 h3 h4 => hdone a' w' h1 h2 h3) (fun e c a' w' h1 h2 h3 h4 h5 => hexit e c a' w' h1 h2 h3 h4)
  intro fn
  refine ⟨w.alloc (.loop { state := .ready, pending := none, fn, tmps := a.tmps, params := #[p], assign, body, defers := r0.defers }), ?_, World.alloc_heap_new _ _, ext_alloc _ _, by simp, Nat.le_refl _, fun d hd => by cases hd⟩
  unfold Instr.enterLoop
  simp only [Sem.run_bind, run_getLoop hl0, Result.andThen_ok, Sem.run_pure, run_newObj_alloc]

/-- a function with such loops: its arguments as told; at its end the marks are met -/
theorem enterM {f : FuncId} {fn : Func} {c : Code} {n : Nat} {args : List Value} {As : List VA} {w : World} {R : Ending → World → Prop} (hf : Tryz.prog.funcs[f]? = some fn) (hb : fn.body = some c) (hn : fn.ntmps = n) (hl : args.length ≤ n)
    (hA : ∀ (i : Nat) (A : VA), As[i]? = some A → A.p (args.getD i undef) w) (h : ∀ a, Fr n a w (params 0 As) → c.wpIn (FW none) 0 Tryz.prog (bodyPostM (FW none) 0 Tryz.prog fn R) a w) (hlen : As.length ≤ args.length) : Calls Tryz.prog f args.toArray w R := by
  refine (callsIn_wide (n := 0)).1 (callsIn_of_wp_marks (F := Fence.wide) hf hb trivial (h _ ⟨?_, rfl, fun t A ht => ?_⟩))
  · simp [hn]; omega
  · obtain ⟨_, h2⟩ := look_params As 0 t A ht
    rw [Nat.sub_zero] at h2
    have hlt : t < As.length := (List.getElem?_eq_some_iff.1 h2).1
    have := hA t A h2
    have e : (args.toArray ++ Array.replicate (fn.ntmps - args.toArray.size) undef).getD t undef = args.getD t undef := by
      have : t < args.length := by omega
      simp [Array.getElem?_append, this]
    simp only [Act.eval, e]
    exact this
/-- the marks of loops that ran: their blocks hold nothing -/
def marks (l : List Nat) : List Deferred := l.map fun D => { target := .collected D, args := #[] }
def Ds (l : List Nat) (w : World) : Prop := l.Nodup ∧ ∀ D ∈ l, w.heap[D]? = some (.deferred (some []))
/-- the world with these blocks shut -/
def shut : List Nat → World → World
  | [], w => w
  | D :: l, w => shut l (w.putObj D (.deferred none))
theorem shut_heap : ∀ (l : List Nat) (w : World) (b : Nat), b ∉ l → (shut l w).heap[b]? = w.heap[b]?
  | [], w, b, _ => rfl
  | D :: l, w, b, h => by
    rw [shut, shut_heap l _ b (fun h' => h (by simp [h'])), World.putObj_heap_other (fun e => h (by simp [e]))]
theorem shut_os : ∀ (l : List Nat) (w : World), (shut l w).os = w.os ∧ (shut l w).tape = w.tape ∧ (shut l w).output = w.output ∧ (shut l w).heap.size = w.heap.size
  | [], w => ⟨rfl, rfl, rfl, rfl⟩
  | D :: l, w => by
    obtain ⟨h1, h2, h3, h4⟩ := shut_os l (w.putObj D (.deferred none))
    exact ⟨h1, h2, h3, by rw [shut, h4]; simp⟩
theorem Ext.shut {W w : World} {l : List Nat} (e : Ext W w) (h : ∀ D ∈ l, W.heap.size ≤ D) : Ext W (Mono.shut l w) := by
  obtain ⟨h1, h2, h3, h4⟩ := shut_os l w
  exact Below.trans e ⟨h1, h2, h3, by rw [h4]; exact Nat.le_refl _, fun b hb => shut_heap l w b (fun hm => by have := h b hm; omega)⟩
theorem leaves {fn : Func} {tmps : Array Value} {R : Ending → World → Prop} {v : Value} : ∀ (l : List Nat) (w : World), Ds l w → (results fn tmps).run Tryz.prog (shut l w) = .ok v (shut l w) → R (.returned v) (shut l w) →
    LeavesInM (FW none) 0 Tryz.prog fn tmps R (marks l) .returning w
  | [], w, _, hr, hR => ⟨v, hr, hR⟩
  | D :: l, w, hD, hr, hR => by
    have h1 := hD.2 D (by simp)
    have hnd := List.nodup_cons.1 hD.1
    refine ⟨by simp, .inl ⟨D, _, rfl, run_takeDeferred h1, leaves l _ ⟨hnd.2, fun d hd => ?_⟩ hr hR⟩⟩
    rw [World.putObj_heap_other (fun e => by subst e; exact hnd.1 hd)]
    exact hD.2 d (by simp [hd])
end
end Go.Mono

set_option linter.unusedVariables false
set_option linter.unusedSimpArgs false
namespace Go.Mono
open Go Go.Proofs Go.RowKit

theorem Kp.chg {B : Nat} {w w' : World} (k : Kp B w w') : Chg (Hole B) w w' := ⟨k.os, k.tape, k.output, k.size, fun b hb hh => k.same b hb hh⟩
theorem chg_shut (l : List Nat) (w : World) : Chg (fun c => c ∈ l) w (shut l w) := by
  obtain ⟨h1, h2, h3, h4⟩ := shut_os l w
  exact ⟨h1, h2, h3, by rw [h4]; exact Nat.le_refl _, fun b hb hS => shut_heap l w b hS⟩
theorem Tab.gr {w w' : World} {b : Nat} (h : Tab w) (hg : w.grownBy w' (some b)) (hb : 0 < b) : Tab w' := fun i hi => (World.cell?_of_block (hg.block 0 h.lt (by simp; omega))).trans (h i hi)
theorem Tab.ch {w w' : World} {S : Nat → Prop} (h : Tab w) (c : Chg S w w') (hS : ¬S 0) : Tab w' := fun i hi => (World.cell?_of_block (c.block 0 h.lt hS)).trans (h i hi)
theorem Tab.gro {w w' : World} {row : Option Nat} (h : Tab w) (hg : w.grownBy w' row) (hb : ∀ b, row = some b → 0 < b) : Tab w' := fun i hi => (World.cell?_of_block (hg.block 0 h.lt (fun e => by have := hb 0 e.symm; omega))).trans (h i hi)
theorem Dv.gro {α : Type} {e : Enc α} {G : Nat → Prop} {x : α} {v : Value} {w w' : World} {row : Option Nat} (h : (Dv e G x).p v w) (hg : w.grownBy w' row) (hG : ∀ b, row = some b → G b) : (Dv e G x).p v w' := by
  obtain ⟨cs, h1, h2⟩ := h
  exact ⟨cs, Enc.gro h1 hg hG, h2⟩
theorem Kh.gro {B : Nat} {w w' : World} {row : Option Nat} (hg : w.grownBy w' row) (h : ∀ b, row = some b → ¬Hole B b) : Kh B w w' := ⟨hg.size, fun x hx hh => hg.block x hx (fun e => h x e.symm hh)⟩
theorem own_hole {v v' : Value} {n B : Nat} (h : v'.ownBlock = v.ownBlock ∨ v'.ownBlock = some n) (hv : ∀ g, v.ownBlock = some g → ¬Hole B g) (hn : B + 3 ≤ n) : ∀ g, v'.ownBlock = some g → ¬Hole B g := fun g hg => by
  rcases h with h | h
  · rw [h] at hg; exact hv g hg
  · rw [h] at hg
    cases hg
    intro hh
    have := hh.2
    omega
theorem Chg.tr2 {S T : Nat → Prop} {W w w' : World} (h : Chg S W w) (k : Chg T w w') (hT : ∀ b, T b → S b ∨ W.heap.size ≤ b) : Chg S W w' :=
  ⟨k.os.trans h.os, k.tape.trans h.tape, k.output.trans h.output, Nat.le_trans h.size k.size, fun b hb hS => (k.block b (Nat.lt_of_lt_of_le hb h.size) (fun ht => (hT b ht).elim hS (fun h => by omega))).trans (h.block b hb hS)⟩

theorem mem_elemsI {S : BS} {y : Int} : y ∈ (elems S).map (fun i : Nat => (i : Int)) ↔ has S y = true := by
  rw [has, Bool.and_eq_true, fitsB_iff, List.mem_map]
  constructor
  · rintro ⟨i, h, rfl⟩
    have := mem_elems.1 h
    exact ⟨⟨by omega, by omega⟩, by simpa using this.2⟩
  · rintro ⟨⟨h1, h2⟩, h3⟩
    exact ⟨y.toNat, mem_elems.2 ⟨by omega, h3⟩, by omega⟩
theorem elems_len (S : BS) : (elems S).length ≤ 1024 := by
  have := List.length_filter_le (fun i => S.getLsbD i) (List.range 1024)
  simpa [elems] using this

theorem neqS {P : Program} {w0 : World} {L : Env} {dst : Option Tmp} {ty : TypeId} {pos : String} {aft : Array Edge} {g : Option (Nat × Bool)} {x y : Operand} {t yt e : TypeId} {S T : BS} (ht : P.underlying t = some (.array 16 e)) (he : P.underlying e = some (.int .u64)) (hs : TI P e false 1) (hm : P.eqGuardType P.depth t = false) (hx : opd L x = some (E (setV S))) (hy : opd L y = some (E (setV T))) :
    OpC P w0 L ⟨dst, .binOp .neq t x y yt, ty, pos, aft, g⟩ (E (.bool (!(S == T)))) :=
  opc_neq hx hy (fun w => eqGuard_agg _ _ _ _ _ _ hm w) rfl fun w _ => by
    rw [← all_setC]
    exact run_equalIn_words ht he hs 9998 (word S) (word T) w
theorem cmpN_self (a : List Int) : ∀ i, cmpN a a i i = 0
  | 0 => rfl
  | i + 1 => by rw [cmpN, if_neg (Int.lt_irrefl _), if_neg (Int.lt_irrefl _)]; exact cmpN_self a i
theorem cmpL_self (a : List Int) : cmpL a a = 0 := cmpN_self a _
theorem ins_bit (S : BS) (n : Int) (k : Nat) (hk : k < 1024) : (ins S n).getLsbD k = (S.getLsbD k || decide (n = (k : Int))) := by
  unfold ins
  by_cases hf : fitsB n = true
  · have h := fitsB_iff.1 hf
    rw [if_pos hf, BitVec.getLsbD_or, sgl_bit _ _ (by omega)]
    congr 1
    rw [decide_eq_decide]; omega
  · rw [if_neg hf]
    have : ¬ n = (k : Int) := fun h => hf (fitsB_iff.2 (by omega))
    simp [this]
theorem foldl_ins_bit (k : Nat) (hk : k < 1024) : ∀ (l : List Int) (S : BS), (l.foldl ins S).getLsbD k = (S.getLsbD k || decide ((k : Int) ∈ l))
  | [], S => by simp
  | x :: l, S => by
    rw [List.foldl_cons, foldl_ins_bit k hk l, ins_bit _ _ _ hk, Bool.or_assoc]
    congr 1
    by_cases h1 : x = (k : Int)
    · simp [h1]
    · have : ¬ (k : Int) = x := Ne.symm h1
      simp [h1, this]
theorem set_ext {S T : BS} (h : ∀ k, k < 1024 → (S.getLsbD k = true ↔ T.getLsbD k = true)) : S = T :=
  BitVec.eq_of_getLsbD_eq fun k hk => Bool.eq_iff_iff.2 (h k hk)
theorem mem_insAt {x n : Int} : ∀ {r : List Int}, x ∈ insAt r n ↔ x ∈ r ∨ x = n
  | [] => by simp [insAt]
  | y :: r => by
    unfold insAt
    split
    · simp [or_comm]
    · rw [List.mem_cons, List.mem_cons, mem_insAt, or_assoc]
theorem mem_withL {x n : Int} {r : List Int} (hn : 0 ≤ n ∧ n ≤ 1023) : x ∈ withL r n ↔ x ∈ r ∨ x = n := by
  unfold withL
  by_cases h : n < 0 ∨ 1023 < n ∨ hasL r n = true
  · rw [if_pos h]
    have hm : n ∈ r := by
      rcases h with h | h | h
      · omega
      · omega
      · exact of_decide_eq_true h
    exact ⟨.inl, fun h => h.elim id fun h => by rw [h]; exact hm⟩
  · rw [if_neg h]; exact mem_insAt
theorem mem_foldl_withL {x : Int} : ∀ {l r : List Int}, (∀ n ∈ l, 0 ≤ n ∧ n ≤ 1023) → (x ∈ l.foldl withL r ↔ x ∈ r ∨ x ∈ l)
  | [], r, _ => by simp
  | n :: l, r, h => by
    rw [List.foldl_cons, mem_foldl_withL fun m hm => h m (by simp [hm]), mem_withL (h n (by simp)), List.mem_cons, or_assoc]
theorem toL_mem {S : BS} {k : Nat} (hk : k < 1024) : ((k : Int) ∈ toL S) ↔ S.getLsbD k = true := by
  rw [toL, mem_selN]
  constructor
  · rintro ⟨i, h1, h2, h3⟩
    obtain rfl : k = i := by omega
    exact h2
  · intro h; exact ⟨k, hk, h, rfl⟩
theorem toL_fit {S : BS} : ∀ n ∈ toL S, 0 ≤ n ∧ n ≤ 1023 := by
  intro n hn
  obtain ⟨i, h1, _, rfl⟩ := mem_selN.1 hn
  omega

/-- marks do not meet cells -/
theorem Ds.ne {D : List Nat} {w : World} (h : Ds D w) {b : Nat} {cs : Array Value} {t : TypeId} (hb : Blk w b cs t) : ¬ b ∈ D := fun hm => by
  have h1 := h.2 b hm
  unfold Blk at hb
  rw [hb] at h1
  cases h1
theorem Ds.lt {D : List Nat} {w : World} (h : Ds D w) {b : Nat} (hm : b ∈ D) : b < w.heap.size := (Array.getElem?_eq_some_iff.1 (h.2 b hm)).1
theorem Ds.ch {D : List Nat} {w w' : World} {S : Nat → Prop} (h : Ds D w) (c : Chg S w w') (hS : ∀ d ∈ D, ¬S d) : Ds D w' := ⟨h.1, fun d hd => (c.block d (h.lt hd) (hS d hd)).trans (h.2 d hd)⟩
theorem Ds.ext {D : List Nat} {w w' : World} (h : Ds D w) (e : Ext w w') : Ds D w' := ⟨h.1, fun d hd => (e.block d (h.lt hd)).trans (h.2 d hd)⟩
theorem Ds.gr {D : List Nat} {w w' : World} {b : Nat} (h : Ds D w) (hg : w.grownBy w' (some b)) (hb : ¬ b ∈ D) : Ds D w' := ⟨h.1, fun d hd => (hg.block d (h.lt hd) (fun he => hb (by cases he; exact hd))).trans (h.2 d hd)⟩
theorem Ds.nil (w : World) : Ds [] w := ⟨List.nodup_nil, fun d hd => by cases hd⟩
theorem Ds.cons {D : List Nat} {w : World} {d : Nat} (h : Ds D w) (hd : w.heap[d]? = some (.deferred (some []))) (hn : ¬ d ∈ D) : Ds (d :: D) w :=
  ⟨List.nodup_cons.2 ⟨hn, h.1⟩, fun x hx => by rcases List.mem_cons.1 hx with rfl | hx; exact hd; exact h.2 x hx⟩
theorem Blk.shut {w : World} {b : Nat} {cs : Array Value} {t : TypeId} {D : List Nat} (h : Blk w b cs t) (hb : ¬ b ∈ D) : Blk (shut D w) b cs t := (shut_heap D w b hb).trans h
theorem retcM {fn : Func} {t u s : Nat} {R : Ending → World → Prop} {n : Nat} {a : Act} {w : World} {b : Nat} {cs : Array Value} {bt : TypeId} {L : Env} {D : List Nat} (hr : fn.results = #[.cell t u]) (ht : TI Tryz.prog u true s) (hf : FrD n (marks D) a w L) (h : look L t = some (E (.pointer (some ⟨b, 0, none⟩))))
    (hb : Blk w b cs bt) (hs : cs.size = s) (hD : Ds D w) (hR : R (.returned (.agg cs)) (shut D w)) : bodyPostM (FW none) 0 Tryz.prog fn R .ret a w := by
  have hv : a.tmps.getD t undef = .pointer (some ⟨b, 0, none⟩) := hf.val t _ h
  obtain ⟨d, h1, h2⟩ := ht.u
  show LeavesInM _ _ _ _ _ _ _ _ _
  rw [hf.defers]
  exact leaves D w hD (results_cell_row hr a.tmps (shut D w) b bt cs (0, 0) d hv (hb.shut (hD.ne hb)) h1 (by cases d <;> simp_all) (by rw [ht.s, hs])) hR
/-- a function's end behind such loops: its result stands in a slot -/
theorem ret1M {fn : Func} {t : Nat} {R : Ending → World → Prop} {n : Nat} {a : Act} {w : World} {v : Value} {L : Env} {D : List Nat} (hr : fn.results = #[.tmp t]) (hf : FrD n (marks D) a w L) (h : look L t = some (E v))
    (hD : Ds D w) (hR : R (.returned v) (shut D w)) : bodyPostM (FW none) 0 Tryz.prog fn R .ret a w := by
  have hv : a.tmps.getD t undef = v := hf.val t _ h
  show LeavesInM _ _ _ _ _ _ _ _ _
  rw [hf.defers]
  exact leaves D w hD (by rw [← hv]; exact results_tmp hr _ _ _) hR
theorem retc1M {fn : Func} {t u : Nat} {R : Ending → World → Prop} {n : Nat} {a : Act} {w : World} {b : Nat} {v : Value} {bt : TypeId} {L : Env} {D : List Nat} (hr : fn.results = #[.cell t u]) (ht : TI Tryz.prog u false 1) (hf : FrD n (marks D) a w L) (h : look L t = some (E (.pointer (some ⟨b, 0, none⟩))))
    (hb : Blk w b #[v] bt) (hD : Ds D w) (hR : R (.returned v) (shut D w)) : bodyPostM (FW none) 0 Tryz.prog fn R .ret a w := by
  have hv : a.tmps.getD t undef = .pointer (some ⟨b, 0, none⟩) := hf.val t _ h
  have hv' : a.tmps[t]?.getD undef = .pointer (some ⟨b, 0, none⟩) := by simpa using hv
  have hc : (shut D w).cell? ⟨b, 0, none⟩ = some v := by rw [(hb.shut (hD.ne hb)).cell 0]; rfl
  show LeavesInM _ _ _ _ _ _ _ _ _
  rw [hf.defers]
  exact leaves D w hD (by simp [results, hr, hv', asAddr, loadVar1 ht hc]) hR
theorem ret0M {fn : Func} {R : Ending → World → Prop} {n : Nat} {a : Act} {w : World} {L : Env} {D : List Nat} (hr : fn.results = #[]) (hf : FrD n (marks D) a w L) (hD : Ds D w) (hR : R (.returned (.tuple #[])) (shut D w)) : bodyPostM (FW none) 0 Tryz.prog fn R .normal a w := by
  show LeavesInM _ _ _ _ _ _ _ _ _
  rw [hf.defers]
  exact leaves D w hD (results_none hr _ _ _) hR
end Go.Mono

set_option linter.unusedVariables false
set_option linter.unusedSimpArgs false
namespace Go.Mono
open Go Go.Proofs Go.RowKit

/-- what New's closures change -/
def Sn (bn bm : Nat) (c : Nat) : Prop := c = bn ∨ c = bm
theorem FB.ch {w w' : World} {bF bn bm bf n : Nat} {tv : Value} (h : FB w bF bn bm bf n tv) {S : Nat → Prop} (c : Chg S w w') (h1 : ¬S bF) (h2 : ¬S bf) : FB w' bF bn bm bf n tv := ⟨h.f.ch c h1, h.p.ch c h2⟩
theorem FB.ext {w w' : World} {bF bn bm bf n : Nat} {tv : Value} (h : FB w bF bn bm bf n tv) (e : Ext w w') : FB w' bF bn bm bf n tv := ⟨h.f.ext e, h.p.ext e⟩
/-- the map with the elements of s set to b -/
def mIn (s : List Nat) (b : Int) (m : Int → Option Int) : Int → Option Int := fun y => if y ∈ s.map (fun i : Nat => (i : Int)) then some b else m y
theorem mIn_app (s : List Nat) (x : Nat) (b : Int) (m : Int → Option Int) : (fun y => if y = (x : Int) then some b else mIn s b m y) = mIn (s ++ [x]) b m := by
  funext y
  simp only [mIn, List.map_append, List.mem_append, List.map_cons, List.map_nil, List.mem_singleton]
  by_cases h1 : y = (x : Int)
  · simp [h1]
  · by_cases h2 : y ∈ s.map (fun i : Nat => (i : Int)) <;> simp [h1, h2]
theorem mIn_nil (b : Int) (m : Int → Option Int) : mIn [] b m = m := by
  funext y; simp [mIn]
theorem mIn_elems (S : BS) (b : Int) (m : Int → Option Int) : mIn (elems S) b m = fun y => if has S y = true then some b else m y := by
  funext y
  unfold mIn
  by_cases h : has S y = true
  · rw [if_pos (mem_elemsI.2 h), if_pos h]
  · rw [if_neg (fun h' => h (mem_elemsI.1 h')), if_neg h]

/-- where the loop over a bag's new vertices stands -/
structure CJ (G : Nat → Prop) (W : World) (n : Nat) (nd : Nat → Nd) (bF bn bm bf b3 b : Nat) (tv : Value) (cells : Array Value) (cnt : Nat) (m : Int → Option Int) (s : List Nat) (w : World) : Prop where
  c : Chg (fun c => c = bn ∨ c = bm) W w
  t : Tab w
  sz : W.heap.size ≤ w.heap.size
  f : FB w bF bn bm bf n tv
  b3 : Blk w b3 #[I (b : Nat)] 3
  bn : Blk w bn cells 134
  ns : NS n (GB W G) nd cells w
  mp : MapR Tryz.prog 3 3 w bm (cnt + s.length) (mIn s b m)
theorem CJ.kp {G : Nat → Prop} {W : World} {n : Nat} {nd : Nat → Nd} {bF bn bm bf b3 b : Nat} {tv : Value} {cells : Array Value} {cnt : Nat} {m : Int → Option Int} {s : List Nat} {w w' : World} {Bz : Nat} (h : CJ G W n nd bF bn bm bf b3 b tv cells cnt m s w) (k : Kp Bz w w')
    (hW : W.heap.size ≤ Bz) (h0 : 0 < Bz) (lF : bF < Bz) (lf : bf < Bz) (l3 : b3 < Bz) (ln : bn < Bz) (lm : bm < Bz) : CJ G W n nd bF bn bm bf b3 b tv cells cnt m s w' := by
  have no : ∀ {b}, b < Bz → ¬Hole Bz b := fun h hh => by have := hh.1; omega
  exact ⟨⟨k.os.trans h.c.os, k.tape.trans h.c.tape, k.output.trans h.c.output, Nat.le_trans h.c.size k.size, fun b hb hS => (k.same b (Nat.lt_of_lt_of_le hb h.c.size) (fun hh => by have := hh.1; omega)).trans (h.c.block b hb hS)⟩,
    h.t.kp k h0, Nat.le_trans h.sz k.size, h.f.ch k.chg (no lF) (no lf), h.b3.kp k (no l3), h.bn.kp k (no ln), h.ns.ch k.chg fun b hb => .inr (by have := hb.1; omega), h.mp.pres (k.same _ h.mp.lt (no lm))⟩

/-- the depth that come writes -/
def deepN (t : List (Int × BS)) (nd : Nat → Nd) (b : Nat) : Int := if (bg t b).1 < 0 then (nd b).2.2.2.2 else (nd (bg t b).1.toNat).2.2.2.2 + 1
/-- the vertices above -/
def aheadS (t : List (Int × BS)) (b : Nat) : BS := if (bg t b).1 < 0 then 0 else (bg t (bg t b).1.toNat).2
theorem topsS_ahead {t : List (Int × BS)} (hr : Rng t) {b : Nat} (hb : b < t.length) : (bg t b).2 &&& ~~~aheadS t b = topsS t b := by
  have := hr b hb
  rw [topsS, aheadS]
  by_cases h : (bg t b).1 = -1
  · rw [if_pos h, if_pos (by omega)]
    exact BitVec.eq_of_getLsbD_eq fun k hk => by rw [BitVec.getLsbD_and, BitVec.getLsbD_not]; simp [hk]
  · rw [if_neg h, if_neg (by omega)]
theorem come_spec (t : List (Int × BS)) (hl : t.length ≤ 4096) (hr : Rng t) (G : Nat → Prop) (nd : Nat → Nd) (bF bn bm bf b1 b : Nat) (tv fv : Value) (cells : Array Value) (cnt : Nat) (m : Int → Option Int) (W : World) (hT : Tab W) (hG : ∀ c, G c → c < W.heap.size) (hGn : G bn) (hGm : G bm) (h0n : 0 < bn) (h0m : 0 < bm) (hbl : b < t.length)
    (FBx : FB W bF bn bm bf t.length fv) (B1 : Blk W b1 #[tv] 23) (HV : (Dv treeE (Sn bn bm) t).p tv W) (BN : Blk W bn cells 134) (HS : NS t.length G nd cells W) (HM : MapR Tryz.prog 3 3 W bm cnt m) (hcnt : cnt ≤ 100000000) (hdp : ∀ i, i < t.length → 0 ≤ (nd i).2.2.2.2 ∧ (nd i).2.2.2.2 ≤ 100000) :
    Calls Tryz.prog 95 #[I (b : Nat), .pointer (some ⟨b1, 0, none⟩), .pointer (some ⟨bf, 0, none⟩)] W (fun e w' => ∃ v, e = .returned v ∧ Chg (fun c => c = bn ∨ c = bm) W w' ∧ Any.p v w' ∧
      (∃ cells', Blk w' bn cells' 134 ∧ NS t.length G (un nd b ((nd b).1, (nd b).2.1, (nd b).2.2.1, (nd b).2.2.2.1, deepN t nd b)) cells' w') ∧ ∃ cnt', cnt' ≤ cnt + 1024 ∧ MapR Tryz.prog 3 3 w' bm cnt' (fun y => if has (topsS t b) y = true then some (b : Int) else m y)) := by
  obtain ⟨BF, Bf⟩ := FBx
  have hri := hr b hbl
  have nFn : bF ≠ bn := fun h => by
    have h1 := BF; have h2 := BN
    rw [h] at h1; unfold Blk at h1 h2; rw [h1] at h2; simp at h2
  have nfn : bf ≠ bn := fun h => by
    have h1 := Bf; have h2 := BN
    rw [h] at h1; unfold Blk at h1 h2; rw [h1] at h2; simp at h2
  have n1n : b1 ≠ bn := fun h => by
    have h1 := B1; have h2 := BN
    rw [h] at h1; unfold Blk at h1 h2; rw [h1] at h2; simp at h2
  have nmb : ∀ {b' : Nat} {cs : Array Value} {ty : TypeId}, Blk W b' cs ty → b' ≠ bm := fun h1 h => by
    obtain ⟨D, ⟨es, clock, h3, _⟩, _⟩ := HM
    rw [h] at h1; unfold Blk at h1; rw [h1] at h3; cases h3
  have nnm := nmb BN
  have nFm := nmb BF
  have nfm := nmb Bf
  have n1m := nmb B1
  have lF := BF.lt
  have lf := Bf.lt
  have ln := BN.lt
  have l1 := B1.lt
  have lm := HM.lt
  clear nmb
  replace HS := HS.toB
  replace HV := Dv.toB HV
  haveI hin : InR (GB W G) (some bn) := ⟨fun c hc => by cases hc; exact .inl hGn⟩
  refine enterM (args := [I (b : Nat), .pointer (some ⟨b1, 0, none⟩), .pointer (some ⟨bf, 0, none⟩)]) (As := [E (I (b : Nat)), E (.pointer (some ⟨b1, 0, none⟩)), E (.pointer (some ⟨bf, 0, none⟩))]) Tryz.func95 rfl Tryz.ntmps95 (Nat.le_of_ble_eq_true rfl) ?_ (fun a hf => ?_) (Nat.le_of_ble_eq_true rfl)
  · exact arg3 rfl rfl rfl
  dsimp only [params, Nat.reduceAdd] at hf
  have c := Chg.rfl' (fun c => c = bn ∨ c = bm) W
  have hNW := Nat.le_refl W.heap.size
  repeat refine seq ?_
  refine regn0 ?_
  refine tl_box hf rfl (by decide) fun a b3 w v3 hv3 e' hb3 hs3 B3 hf => ?_
  have lo3_hNW := Nat.le_trans hNW (Nat.le_of_eq hb3.symm)
  have lt3_BF := BF.lt
  have lt3_Bf := Bf.lt
  have lt3_B1 := B1.lt
  have lt3_BN := BN.lt
  replace hNW := Nat.le_trans hNW e'.size
  replace hT := hT.ext e'
  replace HV := Dv.ex HV e'
  replace HS := HS.ext e'
  replace c := c.ext e'
  replace BF := BF.ext e'
  replace Bf := Bf.ext e'
  replace B1 := B1.ext e'
  replace BN := BN.ext e'
  replace HM := HM.ext e'
  clear e'
  refine tl_nil ?_
  cases hv3
  have B3' : Blk w b3 #[I (b : Nat)] 3 := B3
  replace B3 := B3'
  clear B3'
  have n3 : b3 ≠ bF ∧ b3 ≠ bf ∧ b3 ≠ b1 ∧ b3 ≠ bn ∧ b3 ≠ bm ∧ W.heap.size ≤ b3 := by omega
  replace hf := hf.keep [1, 2, 3]
  dsimp only [keep, List.filterMap, look, Nat.beq, Option.map] at hf
  repeat refine seq ?_
  refine regn 5 hf (by decide +kernel) ?_
  refine st (ld1 T23 rfl B1 rfl) ?_
  refine st (ld1 T3 rfl B3 rfl) ?_
  refine st (idxD Tryz.underlying23 S69 (isE rfl HV) rfl (by omega) (bg_get hbl)) ?_
  refine st (fldD Tryz.underlying69 rfl T3 (by decide) (Fld.fst Fld.refl) (isR rfl)) ?_
  refine st (ldI T3 (isR rfl)) ?_
  refine en fun a w e' hf => ?_
  replace hNW := Nat.le_trans hNW e'.size
  replace hT := hT.ext e'
  replace HV := Dv.ex HV e'
  replace HS := HS.ext e'
  replace c := c.ext e'
  replace BF := BF.ext e'
  replace Bf := Bf.ext e'
  replace B1 := B1.ext e'
  replace BN := BN.ext e'
  replace HM := HM.ext e'
  replace B3 := B3.ext e'
  clear e'
  refine tl_as hf rfl (by decide) fun a hf => ?_
  refine tl_nil ?_
  replace hf := hf.keep [1, 2, 3, 4]
  dsimp only [keep, List.filterMap, look, Nat.beq, Option.map] at hf
  repeat refine seq ?_
  refine regn0 ?_
  refine tl_alloc I67 hf (by decide) fun a b5 w e' hb5 hs5 B5 hf => ?_
  have lo5_hNW := Nat.le_trans hNW (Nat.le_of_eq hb5.symm)
  have lt5_BF := BF.lt
  have lt5_Bf := Bf.lt
  have lt5_B1 := B1.lt
  have lt5_BN := BN.lt
  have lt5_B3 := B3.lt
  replace hNW := Nat.le_trans hNW e'.size
  replace hT := hT.ext e'
  replace HV := Dv.ex HV e'
  replace HS := HS.ext e'
  replace c := c.ext e'
  replace BF := BF.ext e'
  replace Bf := Bf.ext e'
  replace B1 := B1.ext e'
  replace BN := BN.ext e'
  replace HM := HM.ext e'
  replace B3 := B3.ext e'
  clear e'
  refine tl_nil ?_
  simp only [Value.cells, zeroC] at B5
  have n5 : b5 ≠ bF ∧ b5 ≠ bf ∧ b5 ≠ b1 ∧ b5 ≠ bn ∧ b5 ≠ bm ∧ W.heap.size ≤ b5 ∧ b5 ≠ b3 := by have := B3.lt; omega
  replace hf := hf.keep [1, 2, 3, 4, 5]
  dsimp only [keep, List.filterMap, look, Nat.beq, Option.map] at hf
  repeat refine seq ?_
  refine regn 2 hf (by decide +kernel) ?_
  refine st (mv rfl) ?_
  refine st (geq rfl rfl) ?_
  refine en fun a w e' hf => ?_
  replace hNW := Nat.le_trans hNW e'.size
  replace hT := hT.ext e'
  replace HV := Dv.ex HV e'
  replace HS := HS.ext e'
  replace c := c.ext e'
  replace BF := BF.ext e'
  replace Bf := Bf.ext e'
  replace B1 := B1.ext e'
  replace BN := BN.ext e'
  replace HM := HM.ext e'
  replace B3 := B3.ext e'
  replace B5 := B5.ext e'
  clear e'
  refine tl_nil ?_
  repeat refine seq ?_
  refine cut (J := fun a w => Fr 50 a w [(1, E (.pointer (some ⟨b1, 0, none⟩))), (2, E (.pointer (some ⟨bf, 0, none⟩))), (3, E (.pointer (some ⟨b3, 0, none⟩))), (5, E (.pointer (some ⟨b5, 0, none⟩)))] ∧ Chg (fun c => c = bn ∨ c = bm) W w ∧ Tab w ∧ W.heap.size ≤ w.heap.size ∧
    Blk w bF #[fv, .slice (some ⟨bn, 0, none⟩) t.length t.length, .map (some bm)] 99 ∧ Blk w bf #[.pointer (some ⟨bF, 0, none⟩)] 27 ∧ Blk w b1 #[tv] 23 ∧ Blk w b3 #[I (b : Nat)] 3 ∧ Blk w b5 (setC (aheadS t b)) 67 ∧ (Dv treeE (GB W (Sn bn bm)) t).p tv w ∧ MapR Tryz.prog 3 3 w bm cnt m ∧
    ∃ cells', Blk w bn cells' 134 ∧ NS t.length (GB W G) (un nd b ((nd b).1, (nd b).2.1, (nd b).2.2.1, (nd b).2.2.2.1, deepN t nd b)) cells' w) ?_ (fun a w hJ => ?_)
  · repeat refine seq ?_
    refine ifc hf rfl (fun hb => ?_) (fun hb => ?_)
    · have hup := of_decide_eq_true hb
      obtain ⟨p, hp⟩ : ∃ p : Nat, (bg t b).1 = (p : Int) := ⟨(bg t b).1.toNat, by omega⟩
      have hpl : p < t.length := by omega
      have hd := hdp p hpl
      have fd := HS.deep_at hpl
      have hb4 := HS.bd hbl (f := 4) (by decide)
      have ed : (nd p).2.2.2.2 + 1 = deepN t nd b := by rw [deepN, if_neg (by omega), hp, Int.toNat_natCast]
      have ea : (bg t p).2 = aheadS t b := by rw [aheadS, if_neg (by omega), hp, Int.toNat_natCast]
      rw [hp] at hf
      replace hf := hf.keep [1, 2, 3, 4, 5]
      dsimp only [keep, List.filterMap, look, Nat.beq, Option.map] at hf
      repeat refine seq ?_
      refine reg 16 Mix.mix hf (by decide +kernel) ?_
      refine st (ld1 T27 rfl (by assumption) rfl) ?_
      refine st (nilE rfl) ?_
      refine st (fldA Tryz.underlying99 rfl T96 (by decide) rfl) ?_
      refine st (ld1 T96 rfl BF rfl) ?_
      refine st (ld1 T3 rfl B3 rfl) ?_
      refine st (ld1 T27 rfl (by assumption) rfl) ?_
      refine st (nilE rfl) ?_
      refine st (fldA Tryz.underlying99 rfl T96 (by decide) rfl) ?_
      refine st (ld1 T96 rfl BF rfl) ?_
      refine st (mv rfl) ?_
      refine st (idxS Tryz.underlying96 S134 rfl rfl (by omega)) ?_
      refine st (fldA Tryz.underlying134 rfl T3 (by decide) rfl) ?_
      refine st (ld1 T3 rfl BN fd) ?_
      refine st ((add rfl rfl (by omega)).eq (congrArg (Value.int .i64) ed)) ?_
      refine st (idxS Tryz.underlying96 S134 rfl rfl (by omega)) ?_
      refine st (fldA Tryz.underlying134 rfl T3 (by decide) rfl) ?_
      refine en fun a w e' hf => ?_
      replace hNW := Nat.le_trans hNW e'.size
      replace hT := hT.ext e'
      replace HV := Dv.ex HV e'
      replace HS := HS.ext e'
      replace c := c.ext e'
      replace BF := BF.ext e'
      replace Bf := Bf.ext e'
      replace B1 := B1.ext e'
      replace BN := BN.ext e'
      replace HM := HM.ext e'
      replace B3 := B3.ext e'
      replace B5 := B5.ext e'
      clear e'
      refine tl_st1 T3 hf rfl rfl rfl BN (by exact hb4) fun w hg hsz BN hf => ?_
      replace hNW := Nat.le_trans hNW (Nat.le_of_eq hsz.symm)
      replace hT := hT.gr hg (by omega)
      replace HV := Dv.gr HV hg (by first | exact .inl (.inl rfl) | exact .inr (by omega))
      replace HS := HS.gr hg (by first | exact .inl hGn | exact .inr (by omega))
      replace c := c.gr hg (by first | exact .inl (.inl rfl) | exact .inr (by omega))
      replace BF := BF.gr hg (by omega)
      replace Bf := Bf.gr hg (by omega)
      replace B1 := B1.gr hg (by omega)
      replace HM := HM.gr hg (by omega)
      replace B3 := B3.gr hg (by omega)
      replace B5 := B5.gr hg (by omega)
      clear hg
      refine tl_nil ?_
      have HS1 := HS.set_deep hbl (deepN t nd b)
      obtain ⟨cells1, BN1, HS2⟩ : ∃ cells', Blk w bn cells' 134 ∧ NS t.length (GB W G) (un nd b ((nd b).1, (nd b).2.1, (nd b).2.2.1, (nd b).2.2.2.1, deepN t nd b)) cells' w := ⟨_, BN, HS1⟩
      clear BN HS HS1 fd hb4
      replace BN := BN1
      replace HS := HS2
      clear BN1 HS2
      replace hf := hf.keep [1, 2, 3, 4, 5]
      dsimp only [keep, List.filterMap, look, Nat.beq, Option.map] at hf
      repeat refine seq ?_
      refine regn 5 hf (by decide +kernel) ?_
      refine st (ld1 T23 rfl B1 rfl) ?_
      refine st (mv rfl) ?_
      refine st (idxD Tryz.underlying23 S69 (isE rfl HV) rfl (by omega) (bg_get hpl)) ?_
      refine st (fldD Tryz.underlying69 rfl T67 (by decide) (Fld.snd Fld.refl rfl) (isR rfl)) ?_
      refine st (ldS T67 (isR rfl)) ?_
      refine en fun a w e' hf => ?_
      replace hNW := Nat.le_trans hNW e'.size
      replace hT := hT.ext e'
      replace HV := Dv.ex HV e'
      replace HS := HS.ext e'
      replace c := c.ext e'
      replace BF := BF.ext e'
      replace Bf := Bf.ext e'
      replace B1 := B1.ext e'
      replace BN := BN.ext e'
      replace HM := HM.ext e'
      replace B3 := B3.ext e'
      replace B5 := B5.ext e'
      clear e'
      haveI hinr : ∀ G0, InR (GB W G0) (some b5) := fun G0 => InR.gb (by omega)
      refine tl_stW T67 hf rfl rfl (wordsC_one _) B5 rfl (rfl) fun w hg hsz B5 hf => ?_
      replace hNW := Nat.le_trans hNW (Nat.le_of_eq hsz.symm)
      replace hT := hT.gr hg (by omega)
      replace HV := Dv.gr HV hg (by first | exact .inl (.inl rfl) | exact .inr (by omega))
      replace HS := HS.gr hg (by first | exact .inl hGn | exact .inr (by omega))
      replace c := c.gr hg (by first | exact .inl (.inl rfl) | exact .inr (by omega))
      replace BF := BF.gr hg (by omega)
      replace Bf := Bf.gr hg (by omega)
      replace B1 := B1.gr hg (by omega)
      replace BN := BN.gr hg (by omega)
      replace HM := HM.gr hg (by omega)
      replace B3 := B3.gr hg (by omega)
      clear hg
      refine tl_nil ?_
      rw [ea] at B5
      replace hf := hf.keep [1, 2, 3, 5]
      dsimp only [keep, List.filterMap, look, Nat.beq, Option.map] at hf
      exact ⟨rfl, hf, c, hT, hNW, BF, Bf, B1, B3, B5, HV, HM, _, BN, HS⟩
    · have hup := of_decide_eq_false hb
      have ea : (0 : BS) = aheadS t b := by rw [aheadS, if_pos (by omega)]
      rw [ea] at B5
      refine wskip ?_
      replace hf := hf.keep [1, 2, 3, 5]
      dsimp only [keep, List.filterMap, look, Nat.beq, Option.map] at hf
      refine ⟨rfl, hf, c, hT, hNW, BF, Bf, B1, B3, B5, HV, HM, cells, BN, ?_⟩
      rw [show deepN t nd b = (nd b).2.2.2.2 from by rw [deepN, if_pos (by omega)], show ((nd b).1, (nd b).2.1, (nd b).2.2.1, (nd b).2.2.2.1, (nd b).2.2.2.2) = nd b from rfl, un_self]
      exact HS
  clear hf c hT hNW BF Bf B1 B3 B5 HV HM BN HS
  obtain ⟨hf, c, hT, hNW, BF, Bf, B1, B3, B5, HV, HM, cells1, BN, HS⟩ := hJ
  try simp only [Exit.then]
  obtain ⟨nd1, hnd1⟩ : ∃ nd1, nd1 = un nd b ((nd b).1, (nd b).2.1, (nd b).2.2.1, (nd b).2.2.2.1, deepN t nd b) := ⟨_, rfl⟩
  rw [← hnd1] at HS ⊢
  obtain ⟨Nz, hNz⟩ : ∃ Nz, Nz = w.heap.size := ⟨_, rfl⟩
  repeat refine seq ?_
  refine reg 8 Mix.mix hf (by decide +kernel) ?_
  refine st (ld1 T23 rfl B1 rfl) ?_
  refine st (ld1 T3 rfl B3 rfl) ?_
  refine st (idxD Tryz.underlying23 S69 (isE rfl HV) rfl (by omega) (bg_get hbl)) ?_
  refine st (fldD Tryz.underlying69 rfl T67 (by decide) (Fld.snd Fld.refl rfl) (isR rfl)) ?_
  refine st (ldS T67 (isR rfl)) ?_
  refine st (ldW T67 rfl B5 rfl) ?_
  refine st (call2 En96 rfl rfl (fun v u w he h h' => by cases h; cases h'; exact minus_spec _ _ w)) ?_
  refine st (call1 (A := SeqA Nz (topsS t b)) En64 rfl (fun v w' he h => by cases h; rw [topsS_ahead hr hbl]; exact Calls.mono (all_spec _ w') (fun en w2 ⟨u, h1, h2, b', h3, h4, h5⟩ => ⟨u, h1, h2, b', by have := he.size; omega, h4, h5⟩))) ?_
  refine en fun a w e' hf => ?_
  replace hNW := Nat.le_trans hNW e'.size
  replace hT := hT.ext e'
  replace HV := Dv.ex HV e'
  replace HS := HS.ext e'
  replace c := c.ext e'
  replace BF := BF.ext e'
  replace Bf := Bf.ext e'
  replace B1 := B1.ext e'
  replace BN := BN.ext e'
  replace HM := HM.ext e'
  replace B3 := B3.ext e'
  replace B5 := B5.ext e'
  clear e'
  refine tl_nil ?_
  obtain ⟨v, ⟨b42, h42, rfl, BS⟩, hf⟩ := hf.fix 42 rfl
  replace hf := hf.keep [2, 3, 42]
  dsimp only [keep, List.filterMap, look, Nat.beq, Option.map] at hf
  refine blk ?_
  have lF' := BF.lt
  have lf' := Bf.lt
  have l3' := B3.lt
  have ln' := BN.lt
  have lm' := HM.lt
  have h0w : 0 < w.heap.size := hT.lt
  refine range_all (S := topsS t b) hf rfl BS (by decide) (fun s w1 => CJ G W t.length nd1 bF bn bm bf b3 b fv cells1 cnt m s w1) (fun _ _ => False) (fun s w1 h => h.t) ⟨c, hT, hNW, ⟨BF, Bf⟩, B3, BN, HS, by rw [mIn_nil]; exact HM⟩ (fun s w1 w2 h hs k => h.kp k hNW h0w lF' lf' l3' ln' lm')
    (fun _ _ _ h => h.elim) ?_ ?_ (fun _ _ _ _ _ _ h => h.elim)
  · intro l s x rest a1 w1 hs hJ hlw hf
    have hx1024 : x < 1024 := (mem_elems.1 (by rw [hs]; simp)).1
    have hsl : s.length ≤ 1024 := by have := elems_len (topsS t b); rw [hs] at this; simp at this; omega
    generalize hBz : w.heap.size = Bz at *
    refine regn0 ?_
    refine tl_as hf rfl (by decide) fun a hf => ?_
    refine tl_nil ?_
    simp only [Exit.then]
    refine ⟨Kh.rfl' _ _, fun w3 k3 hsz3 => ?_⟩
    have hJ3 := hJ.kp k3 hNW h0w lF' lf' l3' ln' lm'
    have hWB := hNW
    clear c hT hNW BF Bf B3 BN HS HM HV B1 B5 BS hBz
    replace hf := hf.pure w3
    obtain ⟨c, hT, hNW, ⟨BF, Bf⟩, B3, BN, HS, HM⟩ := hJ3
    have kh := Kh.rfl' Bz w3
    replace hf := hf.keep [2, 3, 6]
    dsimp only [keep, List.filterMap, look, Nat.beq, Option.map] at hf
    repeat refine seq ?_
    refine blk ?_
    repeat refine seq ?_
    refine reg 6 Mix.mix hf (by decide +kernel) ?_
    refine st (ld1 T27 rfl (by assumption) rfl) ?_
    refine st (nilE rfl) ?_
    refine st (fldA Tryz.underlying99 rfl T97 (by decide) rfl) ?_
    refine st (ld1 T97 rfl BF rfl) ?_
    refine st (mv rfl) ?_
    refine st (ld1 T3 rfl B3 rfl) ?_
    refine en fun a w e' hf => ?_
    replace hNW := Nat.le_trans hNW e'.size
    replace hT := hT.ext e'
    replace HS := HS.ext e'
    replace c := c.ext e'
    replace kh := kh.tr (Kh.ext e')
    replace BF := BF.ext e'
    replace Bf := Bf.ext e'
    replace B3 := B3.ext e'
    replace BN := BN.ext e'
    replace HM := HM.ext e'
    clear e'
    refine tl_mput Tryz.underlying3 Tryz.underlying3 Tryz.underlying97 hf rfl rfl rfl HM (by simp only [maxLen]; omega) (wf_small (by omega)) (wf_small (by omega)) fun w hg HM hf => ?_
    replace c := c.gr hg (.inl (.inr rfl))
    replace hNW := Nat.le_trans hNW hg.size
    replace hT := hT.gr hg h0m
    replace HS := HS.gr hg (.inl hGm)
    replace kh := kh.tr (Kh.gr hg (fun hh => by have := hh.1; omega))
    replace BF := BF.gr hg nFm
    replace Bf := Bf.gr hg nfm
    replace B3 := B3.gr hg n3.2.2.2.2.1
    replace BN := BN.gr hg nnm
    rw [mIn_app] at HM
    refine tl_nil ?_
    simp only [Exit.inBlock]
    exact ⟨⟨c, hT, hNW, ⟨BF, Bf⟩, B3, BN, HS, by rw [List.length_append]; exact HM⟩, kh⟩
  · intro a' w' hf' hJ hsz hD
    simp only [Exit.inBlock, ↓reduceIte]
    show LeavesInM _ _ _ _ _ _ _ _ _
    rw [hf'.defers]
    have cs := chg_shut [w.heap.size] w'
    refine leaves [w.heap.size] w' ⟨by simp, by simpa using hD⟩ (results_none rfl _ _ _) ?_
    have nS : ∀ {b}, b < w.heap.size → ¬ b ∈ [w.heap.size] := fun h h' => by rw [List.mem_singleton] at h'; omega
    refine ⟨_, rfl, hJ.c.tr2 cs fun b hb => .inr (by rw [List.mem_singleton] at hb; omega), trivial, ⟨cells1, hJ.bn.ch cs (nS ln'), ?_⟩, cnt + (elems (topsS t b)).length, by have := elems_len (topsS t b); omega, ?_⟩
    · exact (hJ.ns.ch cs fun b hb => .inr (by rw [List.mem_singleton] at hb; omega)).weak fun _ _ h => .inl h
    · have := hJ.mp.ch cs (nS lm')
      rwa [mIn_elems] at this
end Go.Mono

set_option linter.unusedVariables false
set_option linter.unusedSimpArgs false
namespace Go.Mono
open Go Go.Proofs Go.RowKit

/-- node i of the finished frame -/
def nodeR (xs : List RB) (i : Nat) : Nd := (kids xs (i : Nat), lightR xs (i : Nat), sizeR xs (i : Nat), heavyR xs (i : Nat), (depthR xs i : Nat))
/-- node i while New runs: dn: who is done; cm: who has been come to -/
def ndS (xs : List RB) (dn cm : Nat → Bool) (i : Nat) : Nd :=
  (kids xs (i : Nat), if dn i = true then lightR xs (i : Nat) else [], if dn i = true then sizeR xs (i : Nat) else 0, if dn i = true then heavyR xs (i : Nat) else 0, if cm i = true then ((depthR xs i : Nat) : Int) else 0)
def mS (xs : List RB) (cm : Nat → Bool) : Int → Option Int := fun id => if (decide (0 ≤ homeR xs id) && cm (homeR xs id).toNat) = true then some (homeR xs id) else none
/-- f, and b -/
def orb (f : Nat → Bool) (b : Nat) : Nat → Bool := fun i => f i || decide (i = b)
theorem has_tops {t : List (Int × BS)} (hr : Rng t) {b : Nat} (hb : b < t.length) (y : Int) : has (topsS t b) y = topB (toT t) y b := by
  by_cases hf : fitsB y = true
  · have h := fitsB_iff.1 hf
    obtain ⟨k, rfl⟩ : ∃ k : Nat, y = (k : Int) := ⟨y.toNat, by omega⟩
    rw [← topsS_bit hr hb (by omega), has, hf, Int.toNat_natCast]; rfl
  · have hf' : fitsB y = false := by simpa using hf
    rw [has, hf', topB, toT_hs hb, hasL_toL, has, hf']; rfl
theorem ndS_come {t : List (Int × BS)} {xs : List RB} (hx : xs = toT t) (V : Vals xs) {b : Nat} (hb : b < xs.length) {dn cm : Nat → Bool} (hu : up xs b < 0 ∨ cm (up xs b).toNat = true) :
    un (ndS xs dn cm) b ((ndS xs dn cm b).1, (ndS xs dn cm b).2.1, (ndS xs dn cm b).2.2.1, (ndS xs dn cm b).2.2.2.1, deepN t (ndS xs dn cm) b) = ndS xs dn (orb cm b) := by
  have hbt : b < t.length := by rw [hx, toT_len] at hb; exact hb
  have eu : up xs b = (bg t b).1 := by rw [hx, toT_up hbt]
  funext i
  by_cases hi : i = b
  · subst hi
    rw [un_same]
    have : deepN t (ndS xs dn cm) i = ((depthR xs i : Nat) : Int) := by
      rw [deepN, ← eu]
      rcases up_cases V hb with h | ⟨p, hp, h⟩
      · rw [if_pos (by omega)]
        have h0 : depthR xs i = 0 := by rw [depthR_eq, ab_root (by omega)]; rfl
        simp only [ndS, h0]
        split <;> rfl
      · rw [if_neg (by omega), h, Int.toNat_natCast]
        have hc : cm p = true := by
          rcases hu with hu | hu
          · omega
          · rwa [h, Int.toNat_natCast] at hu
        have := depth_step V hb h
        simp only [ndS, hc, if_true]
        omega
    rw [this]
    simp [ndS, orb]
  · rw [un_ne hi]
    simp [ndS, orb, hi]
theorem mS_come {t : List (Int × BS)} {xs : List RB} (hx : xs = toT t) (V : Vals xs) (hr : Rng t) {b : Nat} (hb : b < xs.length) {cm : Nat → Bool} :
    (fun y => if has (topsS t b) y = true then some (b : Int) else mS xs cm y) = mS xs (orb cm b) := by
  have hbt : b < t.length := by rw [hx, toT_len] at hb; exact hb
  funext y
  simp only [has_tops hr hbt, ← hx]
  by_cases h : topB xs y b = true
  · have hh := homeR_top V.uni hb h
    rw [if_pos h, mS, hh, Int.toNat_natCast]
    simp [orb]
  · rw [if_neg h]
    rcases homeR_cases xs y with ⟨h1, _⟩ | ⟨k, k1, k2, k3⟩
    · simp [mS, h1]
    · have : k ≠ b := fun e => by subst e; exact h k3
      simp [mS, k2, orb, this]
theorem ndS_leave {xs : List RB} {dn cm : Nat → Bool} {b : Nat} :
    un (ndS xs dn cm) b (kids xs (b : Nat), lightR xs (b : Nat), sizeR xs (b : Nat), heavyR xs (b : Nat), (ndS xs dn cm b).2.2.2.2) = ndS xs (orb dn b) cm := by
  funext i
  by_cases hi : i = b
  · subst hi
    rw [un_same]
    simp [ndS, orb]
  · rw [un_ne hi]
    simp [ndS, orb, hi]
theorem ind_inj {a b : Bool} (h : ind a = ind b) : a = b := by cases a <;> cases b <;> simp [ind] at h ⊢
theorem ind_any {α : Type} (f : α → Bool) : ∀ l : List α, (l.map fun k => ind (f k)).sum = 0 ↔ l.any f = false
  | [] => by simp
  | x :: l => by
    have := ind_any f l
    rw [List.map_cons, List.sum_cons, List.any_cons]
    cases hx : f x
    · rw [Bool.false_or, show ind false = 0 from rfl, Nat.zero_add]; exact this
    · rw [Bool.true_or, show ind true = 1 from rfl]
      exact ⟨fun h => by omega, fun h => by cases h⟩
/-- who lies below b -/
theorem dsc_any {xs : List RB} (V : Vals xs) {b i : Nat} (hi : i < xs.length) : dsc xs b i = (decide (i = b) || (kidN xs b).any fun c => dsc xs c i) := by
  have h := dsc_split V (b := b) i hi
  have h2 := ind_any (fun c => dsc xs c i) (kidN xs b)
  cases h3 : (kidN xs b).any fun c => dsc xs c i
  · rw [h2.2 h3, Nat.add_zero] at h
    rw [ind_inj h, Bool.or_false]
  · rw [Bool.or_true]
    cases h4 : dsc xs b i
    · rw [h4] at h
      have h0 : ind false = 0 := rfl
      have : ((kidN xs b).map fun k => ind (dsc xs k i)).sum = 0 := by omega
      rw [h2.1 this] at h3; cases h3
    · rfl
/-- f, and those below the first k kids of b -/
def orK (xs : List RB) (b k : Nat) (f : Nat → Bool) : Nat → Bool := fun i => f i || ((kidN xs b).take k).any fun c => dsc xs c i
def orD (xs : List RB) (b : Nat) (f : Nat → Bool) : Nat → Bool := fun i => f i || dsc xs b i
theorem orK_zero (xs : List RB) (b : Nat) (f : Nat → Bool) : orK xs b 0 f = f := by funext i; simp [orK]
theorem orK_succ {xs : List RB} {b k j : Nat} {f : Nat → Bool} (h : (kidN xs b)[k]? = some j) : orD xs j (orK xs b k f) = orK xs b (k + 1) f := by
  funext i
  rw [orK, take_succ_get h, List.any_append]
  simp [orD, orK, Bool.or_assoc]
theorem orK_all {xs : List RB} (V : Vals xs) {b : Nat} {f : Nat → Bool} {i : Nat} (hi : i < xs.length) : orb (orK xs b (kidN xs b).length f) b i = orD xs b f i := by
  show ((f i || ((kidN xs b).take (kidN xs b).length).any fun c => dsc xs c i) || decide (i = b)) = (f i || dsc xs b i)
  rw [List.take_length, dsc_any V hi, Bool.or_assoc, Bool.or_comm (decide (i = b))]
theorem orK_all2 {xs : List RB} (V : Vals xs) {b : Nat} {f : Nat → Bool} {i : Nat} (hi : i < xs.length) : orK xs b (kidN xs b).length (orb f b) i = orD xs b f i := by
  show ((f i || decide (i = b)) || ((kidN xs b).take (kidN xs b).length).any fun c => dsc xs c i) = (f i || dsc xs b i)
  rw [List.take_length, dsc_any V hi, Bool.or_assoc]

/-- where New stands -/
structure St (xs : List RB) (G : Nat → Prop) (bn bm : Nat) (dn cm : Nat → Bool) (q : Nat) (w : World) : Prop where
  n : ∃ cells, Blk w bn cells 134 ∧ NS xs.length G (ndS xs dn cm) cells w
  m : ∃ cnt, cnt ≤ 1024 * q ∧ MapR Tryz.prog 3 3 w bm cnt (mS xs cm)
theorem St.ext {xs : List RB} {G : Nat → Prop} {bn bm : Nat} {dn cm : Nat → Bool} {q : Nat} {w w' : World} (h : St xs G bn bm dn cm q w) (e : Ext w w') : St xs G bn bm dn cm q w' := by
  obtain ⟨⟨cells, h1, h2⟩, cnt, h3, h4⟩ := h
  exact ⟨⟨cells, h1.ext e, h2.ext e⟩, cnt, h3, h4.ext e⟩
theorem St.congr {xs : List RB} {G : Nat → Prop} {bn bm : Nat} {dn cm dn' cm' : Nat → Bool} {q q' : Nat} {w : World} (h : St xs G bn bm dn cm q w) (h1 : ∀ i, i < xs.length → dn i = dn' i) (h2 : ∀ i, i < xs.length → cm i = cm' i) (hq : q ≤ q') : St xs G bn bm dn' cm' q' w := by
  obtain ⟨⟨cells, a1, a2⟩, cnt, a3, a4⟩ := h
  refine ⟨⟨cells, a1, a2.congr fun i hi => by simp only [ndS, h1 i hi, h2 i hi]⟩, cnt, Nat.le_trans a3 (Nat.mul_le_mul_left _ hq), ?_⟩
  have : mS xs cm = mS xs cm' := by
    funext y
    rcases homeR_cases xs y with ⟨h, _⟩ | ⟨k, k1, k2, _⟩
    · simp [mS, h]
    · simp [mS, k2, h2 k k1]
  rwa [← this]
/-- what stays as it is -/
structure Kc (t : List (Int × BS)) (G : Nat → Prop) (bF bn bm bf b1 : Nat) (tv fv : Value) (w : World) : Prop where
  tab : Tab w
  g : ∀ c, G c → c < w.heap.size
  f : FB w bF bn bm bf t.length fv
  b1 : Blk w b1 #[tv] 23
  v : (Dv treeE (Sn bn bm) t).p tv w
theorem Kc.ch {t : List (Int × BS)} {G : Nat → Prop} {bF bn bm bf b1 : Nat} {tv fv : Value} {w w' : World} (h : Kc t G bF bn bm bf b1 tv fv w) (c : Chg (Sn bn bm) w w') (hGn : G bn) (hGm : G bm) (h0n : 0 < bn) (h0m : 0 < bm) (ne : bF ≠ bn ∧ bF ≠ bm ∧ bf ≠ bn ∧ bf ≠ bm ∧ b1 ≠ bn ∧ b1 ≠ bm) : Kc t G bF bn bm bf b1 tv fv w' := by
  have hS : ∀ b, Sn bn bm b → G b := by rintro b (rfl | rfl) <;> assumption
  exact ⟨h.tab.ch c (by unfold Sn; omega), fun b hb => Nat.lt_of_lt_of_le (h.g b hb) c.size, h.f.ch c (by unfold Sn; omega) (by unfold Sn; omega), h.b1.ch c (by unfold Sn; omega), Dv.ch h.v c fun b hb => hb⟩
theorem Kc.ext {t : List (Int × BS)} {G : Nat → Prop} {bF bn bm bf b1 : Nat} {tv fv : Value} {w w' : World} (h : Kc t G bF bn bm bf b1 tv fv w) (e : Ext w w') : Kc t G bF bn bm bf b1 tv fv w' :=
  ⟨h.tab.ext e, fun b hb => Nat.lt_of_lt_of_le (h.g b hb) e.size, h.f.ext e, h.b1.ext e, Dv.ex h.v e⟩

/-- how many bags come is through with behind the first k kids -/
def qTo (xs : List RB) (b k : Nat) : Nat := 1 + (((kidN xs b).take k).map fun c => cnt xs c).sum
theorem qTo_succ {xs : List RB} {b k j : Nat} (h : (kidN xs b)[k]? = some j) : qTo xs b (k + 1) = qTo xs b k + cnt xs j := by
  rw [qTo, take_succ_get h, List.map_append, List.sum_append, qTo]
  simp; omega
theorem qTo_le {xs : List RB} (V : Vals xs) {b : Nat} (hb : b < xs.length) (k : Nat) : qTo xs b k ≤ cnt xs b := by
  rw [qTo, cnt_eq V hb]
  conv => rhs; rw [← List.take_append_drop k (kidN xs b), List.map_append, List.sum_append]
  omega
theorem qTo_all {xs : List RB} (V : Vals xs) {b : Nat} (hb : b < xs.length) : qTo xs b (kidN xs b).length = cnt xs b := by
  rw [qTo, cnt_eq V hb, List.take_length]

theorem fdown_spec (t : List (Int × BS)) (xs : List RB) (hx : xs = toT t) (V : Vals xs) (hl : xs.length ≤ 4096) (hr : Rng t) (G : Nat → Prop) (bF bn bm bf b1 : Nat) (tv fv : Value) (hGn : G bn) (hGm : G bm) (h0n : 0 < bn) (h0m : 0 < bm) (ne : bF ≠ bn ∧ bF ≠ bm ∧ bf ≠ bn ∧ bf ≠ bm ∧ b1 ≠ bn ∧ b1 ≠ bm) :
    ∀ b, b < xs.length → ∀ (dn cm : Nat → Bool) (q : Nat) (W : World), Kc t G bF bn bm bf b1 tv fv W → St xs G bn bm dn cm q W → (up xs b < 0 ∨ cm (up xs b).toNat = true) → q + cnt xs b ≤ 5000 →
    Calls Tryz.prog 93 #[.pointer (some ⟨bF, 0, none⟩), I (b : Nat), .func (.func 95) #[] #[.pointer (some ⟨b1, 0, none⟩), .pointer (some ⟨bf, 0, none⟩)], .func (.func 97) #[] #[.pointer (some ⟨bf, 0, none⟩)]] W
      (fun e w' => ∃ v, e = .returned v ∧ Chg (Sn bn bm) W w' ∧ Any.p v w' ∧ St xs G bn bm (orD xs b dn) (orD xs b cm) (q + cnt xs b) w') := by
  have htl : xs.length = t.length := by rw [hx, toT_len]
  refine tree_up V fun b hbl ih => ?_
  intro dn cm q W K S hu hq
  have hkl : (kids xs (b : Nat)).length = (kidN xs b).length := by rw [kids_eq, List.length_map]
  have hkl2 := kids_len xs (b : Nat)
  refine enter (args := [.pointer (some ⟨bF, 0, none⟩), I (b : Nat), .func (.func 95) #[] #[.pointer (some ⟨b1, 0, none⟩), .pointer (some ⟨bf, 0, none⟩)], .func (.func 97) #[] #[.pointer (some ⟨bf, 0, none⟩)]]) (As := [E (.pointer (some ⟨bF, 0, none⟩)), E (I (b : Nat)), E (.func (.func 95) #[] #[.pointer (some ⟨b1, 0, none⟩), .pointer (some ⟨bf, 0, none⟩)]), E (.func (.func 97) #[] #[.pointer (some ⟨bf, 0, none⟩)])]) Tryz.func93 rfl Tryz.ntmps93 (Nat.le_of_ble_eq_true rfl) ?_ (fun a hf => ?_) (Nat.le_of_ble_eq_true rfl)
  rotate_left
  dsimp only [params, Nat.reduceAdd] at hf
  rotate_right
  · exact argC rfl (argC rfl (argC rfl (argC rfl argZ)))
  have c := Chg.rfl' (Sn bn bm) W
  have hdp : ∀ (dn cm : Nat → Bool) i, i < t.length → 0 ≤ (ndS xs dn cm i).2.2.2.2 ∧ (ndS xs dn cm i).2.2.2.2 ≤ 100000 := fun dn cm i hi => by
    have := depth_le V (i := i) (by omega)
    simp only [ndS]
    split <;> omega
  have hSG : ∀ b, Sn bn bm b → G b := by rintro b (rfl | rfl) <;> assumption
  repeat refine seq ?_
  refine regn 2 hf (by decide +kernel) ?_
  refine st (mv rfl) ?_
  refine st (mv rfl) ?_
  refine en fun a w e' hf => ?_
  replace c := c.ext e'
  replace S := S.ext e'
  replace K := K.ext e'
  clear e'
  have v11 : a.eval (.tmp 11) = I (b : Nat) := hf.val 11 _ rfl
  refine tl_callV (S := Sn bn bm) (F := fun w' => St xs G bn bm dn (orb cm b) (q + 1) w') (A := Any) hf (by decide) En95 rfl ?_ fun a w hc S hf => ?_
  · obtain ⟨⟨cells, BN, HS⟩, cnt, hcq, HM⟩ := S
    have h := come_spec t (by omega) hr G (ndS xs dn cm) bF bn bm bf b1 b tv fv cells cnt (mS xs cm) w K.tab K.g hGn hGm h0n h0m (by omega) K.f K.b1 K.v BN (by rw [← htl]; exact HS) HM (by omega) (hdp dn cm)
    rw [ndS_come hx V hbl hu, mS_come hx V hr hbl] at h
    have h' := Calls.mono h (R' := fun e w' => ∃ v, e = .returned v ∧ Chg (Sn bn bm) w w' ∧ Any.p v w' ∧ St xs G bn bm dn (orb cm b) (q + 1) w') (fun e w' ⟨v, h1, h2, h3, ⟨cells', h4, h5⟩, cnt', h6, h7⟩ => ⟨v, h1, h2, h3, ⟨cells', h4, by rw [htl]; exact h5⟩, cnt', by omega, h7⟩)
    simpa [v11] using h'
  replace K := K.ch hc hGn hGm h0n h0m ne
  replace c := c.tr hc
  clear hc v11
  refine tl_nil ?_
  replace hf := hf.keep [0, 1, 2, 3]
  dsimp only [keep, List.filterMap, look, Nat.beq, Option.map] at hf
  obtain ⟨⟨cells, BN, HS⟩, HMx⟩ := S
  obtain ⟨kv, hkv, HK⟩ := HS.kids_at hbl
  have S : St xs G bn bm dn (orb cm b) (q + 1) w := ⟨⟨cells, BN, HS⟩, HMx⟩
  clear HMx
  repeat refine seq ?_
  refine regn 10 hf (by decide +kernel) ?_
  refine st (mv rfl) ?_
  refine st (nilE rfl) ?_
  refine st (fldA Tryz.underlying99 rfl T96 (by decide) rfl) ?_
  refine st (ld1 T96 rfl K.f.f (show (_ : Array Value)[0 + 1]? = some (.slice (some ⟨bn, 0, none⟩) t.length t.length) from rfl)) ?_
  refine st (mv rfl) ?_
  refine st (idxS Tryz.underlying96 S134 rfl rfl (by omega)) ?_
  refine st (fldA Tryz.underlying134 rfl T59 (by decide) rfl) ?_
  refine st ((ld1 T59 rfl BN hkv).as (A := Dv (slE intE) G (kids xs (b : Nat))) HK) ?_
  refine st (lenD Tryz.underlying59 (isR rfl)) ?_
  refine st (mv rfl) ?_
  refine en fun a w e' hf => ?_
  replace c := c.ext e'
  replace S := S.ext e'
  replace K := K.ext e'
  clear e'
  refine tl_nil ?_
  clear BN HS hkv HK
  haveI hinS : InS G (Sn bn bm) := ⟨hSG⟩
  rw [hkl] at hf
  replace hf := hf.keep [0, 1, 2, 3, 20, 21, 22]
  dsimp only [keep, List.filterMap, look, Nat.beq, Option.map] at hf
  rw [show orb cm b = orK xs b 0 (orb cm b) from (orK_zero _ _ _).symm, show dn = orK xs b 0 dn from (orK_zero _ _ _).symm, show q + 1 = q + qTo xs b 0 from rfl] at S
  repeat refine seq ?_
  refine blk (loopN (fun r0 a w => ∃ (k : Nat), r0 = (kidN xs b).length - k ∧ k ≤ (kidN xs b).length ∧ Fr 35 a w [(0, E (.pointer (some ⟨bF, 0, none⟩))), (1, E (I (b : Nat))), (2, E (.func (.func 95) #[] #[.pointer (some ⟨b1, 0, none⟩), .pointer (some ⟨bf, 0, none⟩)])), (3, E (.func (.func 97) #[] #[.pointer (some ⟨bf, 0, none⟩)])),
      (20, Dv (slE intE) G (kids xs (b : Nat))), (21, E (I ((kidN xs b).length : Nat))), (22, E (I k))] ∧ Chg (Sn bn bm) W w ∧ Kc t G bF bn bm bf b1 tv fv w ∧ St xs G bn bm (orK xs b k dn) (orK xs b k (orb cm b)) (q + qTo xs b k) w) (kidN xs b).length ⟨0, rfl, by omega, hf, c, K, S⟩ ?_)
  clear hf c K S
  rintro r0 a w ⟨k, rfl, hk, hf, c, K, S⟩
  repeat refine seq ?_
  refine regn 1 hf (by decide +kernel) ?_
  refine st (lss rfl rfl) ?_
  refine en fun a w e' hf => ?_
  replace c := c.ext e'
  replace S := S.ext e'
  replace K := K.ext e'
  clear e'
  refine tl_nil ?_
  repeat refine seq ?_
  refine ifc hf rfl (fun hc => wskip ?_) (fun hc => wexit ?_)
  · have hlt : k < (kidN xs b).length := by have := of_decide_eq_true hc; omega
    clear hc
    replace hf := hf.keep [0, 1, 2, 3, 20, 21, 22]
    dsimp only [keep, List.filterMap, look, Nat.beq, Option.map] at hf
    obtain ⟨j, hj⟩ : ∃ j, (kidN xs b)[k]? = some j := ⟨_, List.getElem?_eq_getElem hlt⟩
    obtain ⟨j1, j2⟩ := mem_kidN.1 (List.mem_of_getElem? hj)
    have hj' : (kids xs (b : Nat))[k]? = some (j : Int) := by rw [kids_eq, List.getElem?_map, hj]; rfl
    have hqs := qTo_succ hj
    have hqle := qTo_le V hbl (k + 1)
    repeat refine seq ?_
    refine blk ?_
    repeat refine seq ?_
    refine regn 2 hf (by decide +kernel) ?_
    refine st (idxD Tryz.underlying59 S3 (isR rfl) rfl (by omega) (hj')) ?_
    refine st (ldI T3 (isR rfl)) ?_
    refine en fun a w e' hf => ?_
    replace c := c.ext e'
    replace S := S.ext e'
    replace K := K.ext e'
    clear e'
    refine tl_as hf rfl (by decide) fun a hf => ?_
    refine tl_nil ?_
    replace hf := hf.keep [0, 1, 2, 3, 9, 20, 21, 22]
    dsimp only [keep, List.filterMap, look, Nat.beq, Option.map] at hf
    repeat refine seq ?_
    refine regn 4 hf (by decide +kernel) ?_
    refine st (mv rfl) ?_
    refine st (mv rfl) ?_
    refine st (mv rfl) ?_
    refine st (mv rfl) ?_
    refine en fun a w e' hf => ?_
    replace c := c.ext e'
    replace S := S.ext e'
    replace K := K.ext e'
    clear e'
    have v26 : a.eval (.tmp 26) = .pointer (some ⟨bF, 0, none⟩) := hf.val 26 _ rfl
    have v27 : a.eval (.tmp 27) = I (j : Nat) := hf.val 27 _ rfl
    have v28 : a.eval (.tmp 28) = .func (.func 95) #[] #[.pointer (some ⟨b1, 0, none⟩), .pointer (some ⟨bf, 0, none⟩)] := hf.val 28 _ rfl
    have v29 : a.eval (.tmp 29) = .func (.func 97) #[] #[.pointer (some ⟨bf, 0, none⟩)] := hf.val 29 _ rfl
    refine tl_callF (S := Sn bn bm) (F := fun w' => St xs G bn bm (orK xs b (k + 1) dn) (orK xs b (k + 1) (orb cm b)) (q + qTo xs b (k + 1)) w') (A := Any) hf (by decide) En93 ?_ fun a w hc S hf => ?_
    · have h := ih j j1 j2 (orK xs b k dn) (orK xs b k (orb cm b)) (q + qTo xs b k) w K S (.inr (by rw [j2, Int.toNat_natCast]; simp [orK, orb])) (by omega)
      rw [orK_succ hj, orK_succ hj, Nat.add_assoc, ← hqs] at h
      simpa [v26, v27, v28, v29] using h
    replace K := K.ch hc hGn hGm h0n h0m ne
    replace c := c.tr hc
    clear hc v26 v27 v28 v29
    refine tl_nil ?_
    try simp only [Exit.then, Exit.inBlock, ↓reduceIte]
    replace hf := hf.keep [0, 1, 2, 3, 20, 21, 22]
    dsimp only [keep, List.filterMap, look, Nat.beq, Option.map] at hf
    repeat refine seq ?_
    refine regn 1 hf (by decide +kernel) ?_
    refine st ((add rfl rfl (by omega)).eq (congrArg (Value.int .i64) (show (k : Int) + 1 = ((k + 1 : Nat) : Int) from rfl))) ?_
    refine en fun a w e' hf => ?_
    replace c := c.ext e'
    replace S := S.ext e'
    replace K := K.ext e'
    clear e'
    refine tl_op hf (by decide) (mv rfl) fun a w e' hf => ?_
    replace c := c.ext e'
    replace S := S.ext e'
    replace K := K.ext e'
    clear e'
    refine tl_nil ?_
    replace hf := hf.keep [0, 1, 2, 3, 20, 21, 22]
    dsimp only [keep, List.filterMap, look, Nat.beq, Option.map] at hf
    exact ⟨(kidN xs b).length - (k + 1), by omega, k + 1, rfl, by omega, hf, c, K, S⟩
  · obtain rfl : k = (kidN xs b).length := by have := of_decide_eq_false hc; omega
    simp only [Exit.then, Exit.inBlock, ↓reduceIte]
    replace hf := hf.keep [0, 1, 2, 3]
    dsimp only [keep, List.filterMap, look, Nat.beq, Option.map] at hf
    rw [qTo_all V hbl] at S
    repeat refine seq ?_
    refine regn 2 hf (by decide +kernel) ?_
    refine st (mv rfl) ?_
    refine st (mv rfl) ?_
    refine en fun a w e' hf => ?_
    replace c := c.ext e'
    replace S := S.ext e'
    replace K := K.ext e'
    clear e'
    have v33 : a.eval (.tmp 33) = I (b : Nat) := hf.val 33 _ rfl
    refine tl_callV (S := Sn bn bm) (F := fun w' => St xs G bn bm (orD xs b dn) (orD xs b cm) (q + cnt xs b) w') (A := Any) hf (by decide) En97 rfl ?_ fun a w hc S hf => ?_
    · obtain ⟨⟨cells, BN, HS⟩, cnt, hcq, HM⟩ := S
      have h := leave_spec xs V (by omega) G (ndS xs (orK xs b (kidN xs b).length dn) (orK xs b (kidN xs b).length (orb cm b))) bF bn bm bf b fv cells w K.g hGn hbl (by rw [htl]; exact K.f) BN HS rfl (fun i i1 i2 => by
        have hm : i ∈ kidN xs b := mem_kidN.2 ⟨i1, i2⟩
        have : orK xs b (kidN xs b).length dn i = true := by
          rw [orK, List.take_length]
          simp only [Bool.or_eq_true, List.any_eq_true]
          exact .inr ⟨i, hm, dsc_self _ _⟩
        simp only [ndS, this, if_true])
      rw [ndS_leave] at h
      have nnm : bn ≠ bm := fun he => by
        obtain ⟨D, ⟨es, clock, h3, _⟩, _⟩ := HM
        have h1 := BN
        rw [he] at h1; unfold Blk at h1; rw [h1] at h3; cases h3
      have h' := Calls.mono h (R' := fun e w' => ∃ v, e = .returned v ∧ Chg (Sn bn bm) w w' ∧ Any.p v w' ∧ St xs G bn bm (orD xs b dn) (orD xs b cm) (q + Go.Mono.cnt xs b) w') (fun e w' ⟨v, h1, h2, h3, cells', h4, h5⟩ =>
        ⟨v, h1, h2.to fun b _ h => .inl h, h3, St.congr (dn := orb (orK xs b (kidN xs b).length dn) b) (cm := orK xs b (kidN xs b).length (orb cm b)) ⟨⟨cells', h4, h5⟩, cnt, hcq, HM.ch h2 fun h => nnm h.symm⟩ (fun i hi => orK_all V hi) (fun i hi => orK_all2 V hi) (Nat.le_refl _)⟩)
      simpa [v33] using h'
    replace c := c.tr hc
    refine tl_nil ?_
    refine ret0n rfl hf ?_
    exact ⟨_, rfl, c, trivial, S⟩
end Go.Mono

set_option linter.unusedVariables false
namespace Go.Mono.Pop

theorem land_step (k M c z : Nat) (hc : c < 2 ^ k) : z &&& (2 ^ k * M + c) = 2 ^ k * ((z / 2 ^ k) &&& M) + ((z % 2 ^ k) &&& c) := by
  have h1 : (z % 2 ^ k) &&& c < 2 ^ k := Nat.lt_of_le_of_lt Nat.and_le_right hc
  apply Nat.eq_of_testBit_eq
  intro i
  rw [Nat.testBit_and, Nat.testBit_two_pow_mul_add _ hc, Nat.testBit_two_pow_mul_add _ h1]
  split
  · rename_i hi
    rw [Nat.testBit_and, Nat.testBit_mod_two_pow]
    simp [hi]
  · rename_i hi
    rw [Nat.testBit_and, Nat.testBit_div_two_pow]
    congr 2
    omega
theorem land256 (M c z : Nat) (hc : c < 256) : z &&& (256 * M + c) = 256 * ((z / 256) &&& M) + ((z % 256) &&& c) := land_step 8 M c z hc

def mask (c : Nat) : Nat → Nat
  | 0 => 0
  | n + 1 => 256 * mask c n + c
def pc (b : Nat) : Nat := (List.range 8).countP fun i => b.testBit i
/-- the bytes' counts, each in its byte -/
def F : Nat → Nat → Nat
  | 0, _ => 0
  | n + 1, x => pc (x % 256) + 256 * F n (x / 256)
def sA (m x : Nat) : Nat := ((x / 2) &&& m) + (x &&& m)
def sB (m x : Nat) : Nat := ((x / 4) &&& m) + (x &&& m)
def sC (m x : Nat) : Nat := (x / 16 + x) &&& m

theorem kA : ∀ b, b < 256 → ∀ e, e < 2 → (b / 2 + 128 * e) &&& 85 = (b / 2) &&& 85 := by decide +kernel
theorem kA2 : ∀ b, b < 256 → sA 85 b < 256 := by decide +kernel
theorem kB : ∀ b, b < 256 → ∀ e, e < 4 → (b / 4 + 64 * e) &&& 51 = (b / 4) &&& 51 := by decide +kernel
theorem kB2 : ∀ b, b < 256 → sB 51 (sA 85 b) < 256 ∧ sB 51 (sA 85 b) % 16 < 5 := by decide +kernel
theorem kC : ∀ b, b < 256 → ∀ e, e < 5 → e * 16 + (sB 51 (sA 85 b) / 16 + sB 51 (sA 85 b)) < 256 ∧ (e * 16 + (sB 51 (sA 85 b) / 16 + sB 51 (sA 85 b))) &&& 15 = pc b := by decide +kernel
theorem pc_le : ∀ b, b < 256 → pc b ≤ 8 := by decide +kernel

theorem stepA (n x : Nat) : sA (mask 85 (n + 1)) x = sA 85 (x % 256) + 256 * sA (mask 85 n) (x / 256) := by
  unfold sA
  rw [mask, land256 _ _ _ (by decide), land256 _ _ _ (by decide)]
  have h1 : x / 2 / 256 = x / 256 / 2 := by omega
  have h2 : x / 2 % 256 = x % 256 / 2 + 128 * (x / 256 % 2) := by omega
  rw [h1, h2, kA _ (Nat.mod_lt _ (by decide)) _ (Nat.mod_lt _ (by decide))]
  omega
theorem stepB (n y : Nat) : sB (mask 51 (n + 1)) y = sB 51 (y % 256) + 256 * sB (mask 51 n) (y / 256) := by
  unfold sB
  rw [mask, land256 _ _ _ (by decide), land256 _ _ _ (by decide)]
  have h1 : y / 4 / 256 = y / 256 / 4 := by omega
  have h2 : y / 4 % 256 = y % 256 / 4 + 64 * (y / 256 % 4) := by omega
  rw [h1, h2, kB _ (Nat.mod_lt _ (by decide)) _ (Nat.mod_lt _ (by decide))]
  omega
theorem AB (n x : Nat) : sB (mask 51 (n + 1)) (sA (mask 85 (n + 1)) x) = sB 51 (sA 85 (x % 256)) + 256 * sB (mask 51 n) (sA (mask 85 n) (x / 256)) := by
  have h := kA2 (x % 256) (Nat.mod_lt _ (by decide))
  rw [stepA, stepB]
  have h1 : (sA 85 (x % 256) + 256 * sA (mask 85 n) (x / 256)) % 256 = sA 85 (x % 256) := by omega
  have h2 : (sA 85 (x % 256) + 256 * sA (mask 85 n) (x / 256)) / 256 = sA (mask 85 n) (x / 256) := by omega
  rw [h1, h2]
theorem AB_low : ∀ (n x : Nat), sB (mask 51 n) (sA (mask 85 n) x) % 16 < 5
  | 0, x => by simp [sB, sA, mask]
  | n + 1, x => by
    rw [AB]
    have := (kB2 (x % 256) (Nat.mod_lt _ (by decide))).2
    omega
theorem ABC : ∀ (n x : Nat), sC (mask 15 n) (sB (mask 51 n) (sA (mask 85 n) x)) = F n x
  | 0, x => by simp [sC, mask, F]
  | n + 1, x => by
    have hb := Nat.mod_lt x (show 256 > 0 by decide)
    have hq := AB_low n (x / 256)
    have ih := ABC n (x / 256)
    obtain ⟨k1, k2⟩ := kC _ hb _ hq
    have k3 := (kB2 _ hb).1
    rw [AB, F, ← ih]
    generalize sB (mask 51 n) (sA (mask 85 n) (x / 256)) = q at *
    generalize sB 51 (sA 85 (x % 256)) = b at *
    unfold sC
    rw [mask, land256 _ _ _ (by decide)]
    have h1 : (b + 256 * q) / 16 + (b + 256 * q) = 256 * (q / 16 + q) + (q % 16 * 16 + (b / 16 + b)) := by omega
    rw [h1]
    have h2 : (256 * (q / 16 + q) + (q % 16 * 16 + (b / 16 + b))) / 256 = q / 16 + q := by omega
    have h3 : (256 * (q / 16 + q) + (q % 16 * 16 + (b / 16 + b))) % 256 = q % 16 * 16 + (b / 16 + b) := by omega
    rw [h2, h3, k2]
    omega
theorem masks : mask 85 8 = 6148914691236517205 ∧ mask 51 8 = 3689348814741910323 ∧ mask 15 8 = 1085102592571150095 := by decide

/-- the bytes' sum -/
def G : Nat → Nat → Nat
  | 0, _ => 0
  | n + 1, x => pc (x % 256) + G n (x / 256)
def V : List Nat → Nat
  | [] => 0
  | a :: l => a + 256 * V l
def addL : List Nat → List Nat → List Nat
  | [], m => m
  | l, [] => l
  | a :: l, b :: m => (a + b) :: addL l m
theorem V_add : ∀ l m, V (addL l m) = V l + V m
  | [], m => by simp [addL, V]
  | a :: l, [] => by simp [addL, V]
  | a :: l, b :: m => by simp only [addL, V, V_add l m]; omega
theorem V_div : ∀ (k : Nat) (l : List Nat), (∀ a ∈ l, a < 256) → V l / 256 ^ k = V (l.drop k)
  | 0, l, _ => by simp
  | k + 1, [], _ => by simp [V]
  | k + 1, a :: l, h => by
    have h1 : V (a :: l) / 256 = V l := by
      have := h a (by simp)
      simp only [V]
      omega
    rw [Nat.pow_succ, Nat.mul_comm, ← Nat.div_div_eq_div_mul, h1, V_div k l (fun x hx => h x (by simp [hx]))]
    simp
theorem V_lt : ∀ (l : List Nat), (∀ a ∈ l, a < 256) → V l < 256 ^ l.length
  | [], _ => by simp [V]
  | a :: l, h => by
    have h1 := h a (by simp)
    have h2 := V_lt l (fun x hx => h x (by simp [hx]))
    simp only [V, List.length_cons, Nat.pow_succ]
    omega
theorem addL_le (x y : Nat) : ∀ (l m : List Nat), (∀ a ∈ l, a ≤ x) → (∀ a ∈ m, a ≤ y) → ∀ a ∈ addL l m, a ≤ x + y
  | [], m, _, h2 => fun a ha => by have := h2 a (by simpa [addL] using ha); omega
  | a :: l, [], h1, _ => fun b hb => by have := h1 b (by simpa [addL] using hb); omega
  | a :: l, b :: m, h1, h2 => fun c hc => by
    simp only [addL, List.mem_cons] at hc
    rcases hc with rfl | hc
    · have := h1 a (by simp); have := h2 b (by simp); omega
    · exact addL_le x y l m (fun x hx => h1 x (by simp [hx])) (fun x hx => h2 x (by simp [hx])) c hc
theorem addL_len : ∀ (l m : List Nat), m.length ≤ l.length → (addL l m).length = l.length
  | [], [], _ => rfl
  | a :: l, [], _ => rfl
  | a :: l, b :: m, h => by simp only [addL, List.length_cons] at h ⊢; rw [addL_len l m (by omega)]
/-- one step: a number of eight bytes, no more than b each, and itself shifted down by k bytes -/
theorem stepV (k b : Nat) (l : List Nat) (hl : l.length = 8) (hb : ∀ a ∈ l, a ≤ b) (h : b + b < 256) :
    (V l + V l / 256 ^ k) % 18446744073709551616 = V (addL l (l.drop k)) ∧ (addL l (l.drop k)).length = 8 ∧ ∀ a ∈ addL l (l.drop k), a ≤ b + b := by
  have hd : ∀ a ∈ l.drop k, a ≤ b := fun a ha => hb a (List.mem_of_mem_drop ha)
  have h3 := addL_le b b l (l.drop k) hb hd
  have h2 := addL_len l (l.drop k) (by simp)
  refine ⟨?_, by omega, h3⟩
  rw [V_div k l (fun a ha => by have := hb a ha; omega), ← V_add]
  refine Nat.mod_eq_of_lt ?_
  have := V_lt (addL l (l.drop k)) (fun a ha => by have := h3 a ha; omega)
  rw [h2, hl] at this
  exact this
def bytes (x : Nat) : List Nat := [pc (x % 256), pc (x / 256 % 256), pc (x / 256 / 256 % 256), pc (x / 256 / 256 / 256 % 256), pc (x / 256 / 256 / 256 / 256 % 256), pc (x / 256 / 256 / 256 / 256 / 256 % 256),
  pc (x / 256 / 256 / 256 / 256 / 256 / 256 % 256), pc (x / 256 / 256 / 256 / 256 / 256 / 256 / 256 % 256)]
theorem F_V (x : Nat) : F 8 x = V (bytes x) := rfl
theorem bytes_le (x : Nat) : ∀ a ∈ bytes x, a ≤ 8 := by
  intro a ha
  simp only [bytes, List.mem_cons, List.not_mem_nil, or_false] at ha
  rcases ha with rfl | rfl | rfl | rfl | rfl | rfl | rfl | rfl <;> exact pc_le _ (Nat.mod_lt _ (by decide))
theorem head_sum : ∀ p0 p1 p2 p3 p4 p5 p6 p7 : Nat, ∃ t, addL (addL (addL [p0, p1, p2, p3, p4, p5, p6, p7] [p1, p2, p3, p4, p5, p6, p7]) ((addL [p0, p1, p2, p3, p4, p5, p6, p7] [p1, p2, p3, p4, p5, p6, p7]).drop 2)) ((addL (addL [p0, p1, p2, p3, p4, p5, p6, p7] [p1, p2, p3, p4, p5, p6, p7]) ((addL [p0, p1, p2, p3, p4, p5, p6, p7] [p1, p2, p3, p4, p5, p6, p7]).drop 2)).drop 4) = (p0 + p1 + (p2 + p3) + (p4 + p5 + (p6 + p7))) :: t := by
  intros
  exact ⟨_, rfl⟩
theorem fold8 (x y4 y5 y6 : Nat) (h4 : y4 = (F 8 x + F 8 x / 256) % 18446744073709551616) (h5 : y5 = (y4 + y4 / 65536) % 18446744073709551616) (h6 : y6 = (y5 + y5 / 4294967296) % 18446744073709551616) :
    y6 % 128 = G 8 x := by
  rw [F_V] at h4
  obtain ⟨a1, a2, a3⟩ := stepV 1 8 (bytes x) rfl (bytes_le x) (by decide)
  rw [Nat.pow_one] at a1
  rw [a1] at h4
  obtain ⟨b1, b2, b3⟩ := stepV 2 16 _ a2 a3 (by decide)
  rw [h4, show (65536 : Nat) = 256 ^ 2 from rfl, b1] at h5
  obtain ⟨c1, c2, c3⟩ := stepV 4 32 _ b2 b3 (by decide)
  rw [h5, show (4294967296 : Nat) = 256 ^ 4 from rfl, c1] at h6
  obtain ⟨t, ht⟩ := head_sum (pc (x % 256)) (pc (x / 256 % 256)) (pc (x / 256 / 256 % 256)) (pc (x / 256 / 256 / 256 % 256)) (pc (x / 256 / 256 / 256 / 256 % 256)) (pc (x / 256 / 256 / 256 / 256 / 256 % 256))
    (pc (x / 256 / 256 / 256 / 256 / 256 / 256 % 256)) (pc (x / 256 / 256 / 256 / 256 / 256 / 256 / 256 % 256))
  have hb := bytes_le x
  simp only [bytes, List.mem_cons, List.not_mem_nil, or_false, forall_eq_or_imp, forall_eq] at hb
  have h7 : y6 = V ((pc (x % 256) + pc (x / 256 % 256) + (pc (x / 256 / 256 % 256) + pc (x / 256 / 256 / 256 % 256)) + (pc (x / 256 / 256 / 256 / 256 % 256) + pc (x / 256 / 256 / 256 / 256 / 256 % 256) +
    (pc (x / 256 / 256 / 256 / 256 / 256 / 256 % 256) + pc (x / 256 / 256 / 256 / 256 / 256 / 256 / 256 % 256)))) :: t) := by
    rw [h6, ← ht]
    rfl
  rw [h7]
  simp only [V, G]
  obtain ⟨g0, g1, g2, g3, g4, g5, g6, g7⟩ := hb
  generalize pc (x % 256) = p0 at *
  generalize pc (x / 256 % 256) = p1 at *
  generalize pc (x / 256 / 256 % 256) = p2 at *
  generalize pc (x / 256 / 256 / 256 % 256) = p3 at *
  generalize pc (x / 256 / 256 / 256 / 256 % 256) = p4 at *
  generalize pc (x / 256 / 256 / 256 / 256 / 256 % 256) = p5 at *
  generalize pc (x / 256 / 256 / 256 / 256 / 256 / 256 % 256) = p6 at *
  generalize pc (x / 256 / 256 / 256 / 256 / 256 / 256 / 256 % 256) = p7 at *
  clear a1 a2 a3 b1 b2 b3 c1 c2 c3 h4 h5 h6 h7 ht
  generalize V t = z
  omega
theorem F_lt (x : Nat) : F 8 x < 18446744073709551616 := by
  have h : V (bytes x) < 256 ^ 8 := V_lt (bytes x) (fun a ha => by have := bytes_le x a ha; omega)
  rw [F_V]
  exact Nat.lt_of_lt_of_eq h (by decide)

theorem range_split (n : Nat) (f : Nat → Bool) : (List.range (8 * (n + 1))).countP f = (List.range 8).countP f + (List.range (8 * n)).countP (fun i => f (i + 8)) := by
  rw [show 8 * (n + 1) = 8 + 8 * n by omega, List.range_add, List.countP_append, List.countP_map]
  congr 1
  refine List.countP_congr fun i _ => ?_
  simp [Function.comp, Nat.add_comm]
theorem count_G : ∀ (n x : Nat), (List.range (8 * n)).countP (fun i => x.testBit i) = G n x
  | 0, x => rfl
  | n + 1, x => by
    rw [range_split, G, ← count_G n (x / 256)]
    congr 1
    · unfold pc
      refine List.countP_congr fun i hi => ?_
      have := List.mem_range.1 hi
      rw [show (256 : Nat) = 2 ^ 8 from rfl, Nat.testBit_mod_two_pow]
      simp [this]
    · refine List.countP_congr fun i _ => ?_
      rw [show (256 : Nat) = 2 ^ 8 from rfl, Nat.testBit_div_two_pow]
end Go.Mono.Pop

set_option linter.unusedVariables false
set_option linter.unusedSimpArgs false
namespace Go.Mono
open Go Go.Proofs Go.RowKit

def popw (x : BitVec 64) : Nat := (List.range 64).countP fun i => x.getLsbD i
theorem popw_le (x : BitVec 64) : popw x ≤ 64 := by
  have := List.countP_le_length (p := fun i => x.getLsbD i) (l := List.range 64)
  simpa [popw] using this
theorem popw_G (x : BitVec 64) : popw x = Pop.G 8 x.toNat := by
  rw [← Pop.count_G 8 x.toNat]
  rfl
theorem pop_calc (x x1 x2 x3 x4 x5 x6 : BitVec 64) (h1 : x1 = ((x >>> 1) &&& 6148914691236517205#64) + (x &&& 6148914691236517205#64)) (h2 : x2 = ((x1 >>> 2) &&& 3689348814741910323#64) + (x1 &&& 3689348814741910323#64))
    (h3 : x3 = ((x2 >>> 4) + x2) &&& 1085102592571150095#64) (h4 : x4 = x3 + (x3 >>> 8)) (h5 : x5 = x4 + (x4 >>> 16)) (h6 : x6 = x5 + (x5 >>> 32)) : (x6 &&& 127#64).toNat = popw x := by
  have e1 : x1.toNat = Pop.sA (Pop.mask 85 8) x.toNat := by
    rw [h1, Pop.masks.1, BitVec.toNat_add, BitVec.toNat_and, BitVec.toNat_and, BitVec.toNat_ushiftRight, Nat.shiftRight_eq_div_pow]
    show ((x.toNat / 2 &&& 6148914691236517205) + (x.toNat &&& 6148914691236517205)) % 2 ^ 64 = _
    have a1 := @Nat.and_le_right (x.toNat / 2) 6148914691236517205
    have a2 := @Nat.and_le_right x.toNat 6148914691236517205
    rw [Nat.mod_eq_of_lt (by omega)]
    rfl
  have e2 : x2.toNat = Pop.sB (Pop.mask 51 8) x1.toNat ∧ x2.toNat ≤ 7378697629483820646 := by
    rw [h2, Pop.masks.2.1, BitVec.toNat_add, BitVec.toNat_and, BitVec.toNat_and, BitVec.toNat_ushiftRight, Nat.shiftRight_eq_div_pow]
    show ((x1.toNat / 4 &&& 3689348814741910323) + (x1.toNat &&& 3689348814741910323)) % 2 ^ 64 = _ ∧ ((x1.toNat / 4 &&& 3689348814741910323) + (x1.toNat &&& 3689348814741910323)) % 2 ^ 64 ≤ _
    have a1 := @Nat.and_le_right (x1.toNat / 4) 3689348814741910323
    have a2 := @Nat.and_le_right x1.toNat 3689348814741910323
    rw [Nat.mod_eq_of_lt (by omega)]
    exact ⟨rfl, by omega⟩
  have e3 : x3.toNat = Pop.sC (Pop.mask 15 8) x2.toNat := by
    rw [h3, Pop.masks.2.2, BitVec.toNat_and, BitVec.toNat_add, BitVec.toNat_ushiftRight, Nat.shiftRight_eq_div_pow]
    show (x2.toNat / 16 + x2.toNat) % 2 ^ 64 &&& 1085102592571150095 = _
    rw [Nat.mod_eq_of_lt (by omega)]
    rfl
  have e3' : x3.toNat = Pop.F 8 x.toNat := by rw [e3, e2.1, e1, Pop.ABC]
  have e4 : x4.toNat = (Pop.F 8 x.toNat + Pop.F 8 x.toNat / 256) % 18446744073709551616 := by
    rw [h4, BitVec.toNat_add, BitVec.toNat_ushiftRight, Nat.shiftRight_eq_div_pow, e3']
  have e5 : x5.toNat = (x4.toNat + x4.toNat / 65536) % 18446744073709551616 := by
    rw [h5, BitVec.toNat_add, BitVec.toNat_ushiftRight, Nat.shiftRight_eq_div_pow]
  have e6 : x6.toNat = (x5.toNat + x5.toNat / 4294967296) % 18446744073709551616 := by
    rw [h6, BitVec.toNat_add, BitVec.toNat_ushiftRight, Nat.shiftRight_eq_div_pow]
  have := Pop.fold8 _ _ _ _ e4 e5 e6
  rw [popw_G, ← this, BitVec.toNat_and]
  exact Nat.and_two_pow_sub_one_eq_mod x6.toNat 7

theorem andI {P : Program} {w0 : World} {L : Env} {dst : Option Tmp} {ty : TypeId} {pos : String} {aft : Array Edge} {g : Option (Nat × Bool)} {x y : Operand} {t yt : TypeId} {a b : Int}
    (hx : opd L x = some (E (.int .i64 a))) (hy : opd L y = some (E (.int .i64 b))) :
    OpC P w0 L ⟨dst, .binOp .and t x y yt, ty, pos, aft, g⟩ (E (.int .i64 (IntKind.i64.wrap ((BitVec.ofInt 64 a &&& BitVec.ofInt 64 b).toNat : Int)))) :=
  binInt rfl hx hy
theorem ofInt_wrap (x : BitVec 64) : BitVec.ofInt 64 (IntKind.i64.wrap (x.toNat : Int)) = x := by
  apply BitVec.eq_of_toInt_eq
  rw [BitVec.toInt_ofInt]
  have := x.isLt
  rw [BitVec.toInt_eq_toNat_bmod]
  rw [IntKind.wrap_i64]
  simp only [Int.bmod]
  split <;> split <;> omega
theorem and127 {x : BitVec 64} {n : Nat} (h : (x &&& 127#64).toNat = n) (hn : n ≤ 64) : IntKind.i64.wrap ((BitVec.ofInt 64 (IntKind.i64.wrap (x.toNat : Int)) &&& BitVec.ofInt 64 127).toNat : Int) = n := by
  rw [ofInt_wrap]
  have e : BitVec.ofInt 64 127 = 127#64 := by decide
  rw [e, h]
  exact IntWalk.i64_in _ (by omega)

theorem ones_spec (x : BitVec 64) (W : World) : Calls Tryz.prog 134 #[Mono.W x] W (Post (E (I (popw x))) W) := by
  obtain ⟨x1, h1⟩ : ∃ x1, x1 = ((x >>> 1) &&& 6148914691236517205#64) + (x &&& 6148914691236517205#64) := ⟨_, rfl⟩
  obtain ⟨x2, h2⟩ : ∃ x2, x2 = ((x1 >>> 2) &&& 3689348814741910323#64) + (x1 &&& 3689348814741910323#64) := ⟨_, rfl⟩
  obtain ⟨x3, h3⟩ : ∃ x3, x3 = ((x2 >>> 4) + x2) &&& 1085102592571150095#64 := ⟨_, rfl⟩
  obtain ⟨x4, h4⟩ : ∃ x4, x4 = x3 + (x3 >>> 8) := ⟨_, rfl⟩
  obtain ⟨x5, h5⟩ : ∃ x5, x5 = x4 + (x4 >>> 16) := ⟨_, rfl⟩
  obtain ⟨x6, h6⟩ : ∃ x6, x6 = x5 + (x5 >>> 32) := ⟨_, rfl⟩
  have hc := and127 (pop_calc x x1 x2 x3 x4 x5 x6 h1 h2 h3 h4 h5 h6) (popw_le x)
  refine enter (args := [Mono.W x]) (As := [E (Mono.W x)]) Tryz.func134 rfl Tryz.ntmps134 (Nat.le_of_ble_eq_true rfl) ?_ (fun a hf => ?_) (Nat.le_of_ble_eq_true rfl)
  rotate_left
  dsimp only [params, Nat.reduceAdd] at hf
  rotate_right
  · exact arg1 rfl
  have e := Ext.rfl' W
  repeat refine seq ?_
  refine regn0 ?_
  refine tl_as hf rfl (by decide) fun a hf => ?_
  refine tl_nil ?_
  replace hf := hf.keep [0]
  dsimp only [keep, List.filterMap, look, Nat.beq, Option.map] at hf
  repeat refine seq ?_
  refine regn 6 hf (by decide +kernel) ?_
  refine st (mv rfl) ?_
  refine st (shrW rfl rfl (by omega)) ?_
  refine st (andW (v := 6148914691236517205#64) rfl rfl) ?_
  refine st (mv rfl) ?_
  refine st (andW (v := 6148914691236517205#64) rfl rfl) ?_
  refine st ((addW rfl rfl).eq (show Mono.W _ = Mono.W x1 from by rw [h1]; rfl)) ?_
  refine en fun a w e' hf => ?_
  replace e := Ext.tr e e'
  clear e'
  refine tl_as hf rfl (by decide) fun a hf => ?_
  refine tl_nil ?_
  replace hf := hf.keep [0]
  dsimp only [keep, List.filterMap, look, Nat.beq, Option.map] at hf
  repeat refine seq ?_
  refine regn 6 hf (by decide +kernel) ?_
  refine st (mv rfl) ?_
  refine st (shrW rfl rfl (by omega)) ?_
  refine st (andW (v := 3689348814741910323#64) rfl rfl) ?_
  refine st (mv rfl) ?_
  refine st (andW (v := 3689348814741910323#64) rfl rfl) ?_
  refine st ((addW rfl rfl).eq (show Mono.W _ = Mono.W x2 from by rw [h2]; rfl)) ?_
  refine en fun a w e' hf => ?_
  replace e := Ext.tr e e'
  clear e'
  refine tl_as hf rfl (by decide) fun a hf => ?_
  refine tl_nil ?_
  replace hf := hf.keep [0]
  dsimp only [keep, List.filterMap, look, Nat.beq, Option.map] at hf
  repeat refine seq ?_
  refine regn 5 hf (by decide +kernel) ?_
  refine st (mv rfl) ?_
  refine st (shrW rfl rfl (by omega)) ?_
  refine st (mv rfl) ?_
  refine st (addW rfl rfl) ?_
  refine st ((andW (v := 1085102592571150095#64) rfl rfl).eq (show Mono.W _ = Mono.W x3 from by rw [h3]; rfl)) ?_
  refine en fun a w e' hf => ?_
  replace e := Ext.tr e e'
  clear e'
  refine tl_as hf rfl (by decide) fun a hf => ?_
  refine tl_nil ?_
  replace hf := hf.keep [0]
  dsimp only [keep, List.filterMap, look, Nat.beq, Option.map] at hf
  repeat refine seq ?_
  refine regn 4 hf (by decide +kernel) ?_
  refine st (mv rfl) ?_
  refine st (mv rfl) ?_
  refine st (shrW rfl rfl (by omega)) ?_
  refine st ((addW rfl rfl).eq (show Mono.W _ = Mono.W x4 from by rw [h4]; rfl)) ?_
  refine en fun a w e' hf => ?_
  replace e := Ext.tr e e'
  clear e'
  refine tl_as hf rfl (by decide) fun a hf => ?_
  refine tl_nil ?_
  replace hf := hf.keep [0]
  dsimp only [keep, List.filterMap, look, Nat.beq, Option.map] at hf
  repeat refine seq ?_
  refine regn 4 hf (by decide +kernel) ?_
  refine st (mv rfl) ?_
  refine st (mv rfl) ?_
  refine st (shrW rfl rfl (by omega)) ?_
  refine st ((addW rfl rfl).eq (show Mono.W _ = Mono.W x5 from by rw [h5]; rfl)) ?_
  refine en fun a w e' hf => ?_
  replace e := Ext.tr e e'
  clear e'
  refine tl_as hf rfl (by decide) fun a hf => ?_
  refine tl_nil ?_
  replace hf := hf.keep [0]
  dsimp only [keep, List.filterMap, look, Nat.beq, Option.map] at hf
  repeat refine seq ?_
  refine regn 4 hf (by decide +kernel) ?_
  refine st (mv rfl) ?_
  refine st (mv rfl) ?_
  refine st (shrW rfl rfl (by omega)) ?_
  refine st ((addW rfl rfl).eq (show Mono.W _ = Mono.W x6 from by rw [h6]; rfl)) ?_
  refine en fun a w e' hf => ?_
  replace e := Ext.tr e e'
  clear e'
  refine tl_as hf rfl (by decide) fun a hf => ?_
  refine tl_nil ?_
  replace hf := hf.keep [0]
  dsimp only [keep, List.filterMap, look, Nat.beq, Option.map] at hf
  repeat refine seq ?_
  refine regn 3 hf (by decide +kernel) ?_
  refine st (mv rfl) ?_
  refine st (convI Tryz.underlying65 Tryz.underlying3 rfl) ?_
  refine st ((andI rfl rfl).eq (congrArg (Value.int .i64) hc)) ?_
  refine en fun a w e' hf => ?_
  replace e := Ext.tr e e'
  clear e'
  refine tl_as hf rfl (by decide) fun a hf => ?_
  refine tl_nil ?_
  refine wret (ret1 rfl hf rfl ?_)
  rintro v rfl
  exact ⟨_, rfl, e, rfl⟩

/-- the number of elements -/
def card (S : BS) : Nat := (List.range 1024).countP fun i => S.getLsbD i
def cardTo (S : BS) (k : Nat) : Nat := (List.range (64 * k)).countP fun i => S.getLsbD i
theorem cardTo_succ (S : BS) (k : Nat) : cardTo S (k + 1) = cardTo S k + popw (word S k) := by
  unfold cardTo popw
  rw [show 64 * (k + 1) = 64 * k + 64 by omega, List.range_add, List.countP_append, List.countP_map]
  refine congrArg (fun n => (List.range (64 * k)).countP (fun i => S.getLsbD i) + n) (List.countP_congr fun i hi => ?_)
  have := List.mem_range.1 hi
  simp [word_bit _ _ _ this]
theorem cardTo_16 (S : BS) : cardTo S 16 = card S := by simp only [cardTo, card, Nat.reduceMul]
theorem cardTo_le (S : BS) (k : Nat) : cardTo S k ≤ 64 * k := by
  have := List.countP_le_length (p := fun i => S.getLsbD i) (l := List.range (64 * k))
  simpa [cardTo] using this

theorem len_spec (S : BS) (W : World) : Calls Tryz.prog 89 #[setV S] W (Post (E (I (card S))) W) := by
  refine enter (args := [setV S]) (As := [E (setV S)]) Tryz.func89 rfl Tryz.ntmps89 (Nat.le_of_ble_eq_true rfl) ?_ (fun a hf => ?_) (Nat.le_of_ble_eq_true rfl)
  rotate_left
  dsimp only [params, Nat.reduceAdd] at hf
  rotate_right
  · exact arg1 rfl
  have e := Ext.rfl' W
  repeat refine seq ?_
  refine regn0 ?_
  refine tl_box hf rfl (by decide) fun a b1 w v1 hv1 e' hb1 hs1 B1 hf => ?_
  have hle1 := Nat.le_trans e.size (Nat.le_of_eq hb1.symm)
  replace e := Ext.tr e e'
  clear e'
  refine tl_as hf rfl (by decide) fun a hf => ?_
  refine tl_nil ?_
  subst hv1
  rw [setV_cells] at B1
  repeat refine seq ?_
  refine regn0 ?_
  refine tl_as hf rfl (by decide) fun a hf => ?_
  refine tl_nil ?_
  repeat refine seq ?_
  refine regn 2 hf (by decide +kernel) ?_
  refine st (ldW T67 rfl (by assumption) rfl) ?_
  refine st (mv rfl) ?_
  refine en fun a w e' hf => ?_
  replace e := Ext.tr e e'
  replace B1 := B1.ext e'
  clear e'
  refine tl_nil ?_
  replace hf := hf.keep [3, 6, 7]
  dsimp only [keep, List.filterMap, look, Nat.beq, Option.map] at hf
  repeat refine seq ?_
  refine blk (loopN (fun r a w => ∃ k : Nat, r = 16 - k ∧ k ≤ 16 ∧ Fr 16 a w [(3, E (I (cardTo S k))), (6, E (setV S)), (7, E (I k))] ∧ Ext W w) 16 ⟨0, rfl, by omega, hf, e⟩ ?_)
  clear hf e B1
  rintro r a w ⟨k, rfl, hk, hf, e⟩
  by_cases hlt : k < 16
  · repeat refine seq ?_
    refine regn 1 hf (by decide +kernel) ?_
    refine st ((lss rfl rfl).eq (congrArg Value.bool (show decide ((k : Int) < 16) = true from decide_eq_true (by omega)))) ?_
    refine en fun a w e' hf => ?_
    replace e := Ext.tr e e'
    clear e'
    refine tl_nil ?_
    repeat refine seq ?_
    refine ifc hf rfl (fun _ => wskip ?_) (fun h => by cases h)
    repeat refine seq ?_
    refine blk ?_
    repeat refine seq ?_
    refine regn 1 hf (by decide +kernel) ?_
    refine st (idxV Tryz.underlying67 T65 rfl rfl (by omega) (by simpa [setC] using wordsC_get (word S) k hlt)) ?_
    refine en fun a w e' hf => ?_
    replace e := Ext.tr e e'
    clear e'
    refine tl_as hf rfl (by decide) fun a hf => ?_
    refine tl_nil ?_
    have hp := popw_le (word S k)
    have hq := cardTo_le S k
    repeat refine seq ?_
    refine regn 4 hf (by decide +kernel) ?_
    refine st (mv rfl) ?_
    refine st (mv rfl) ?_
    refine st (call1 En134 rfl (fun v w' e' h => by cases h; exact ones_spec _ w')) ?_
    refine st ((add rfl rfl (by omega)).eq (congrArg (Value.int .i64) (show ((cardTo S k : Nat) : Int) + (popw (word S k) : Nat) = (cardTo S (k + 1) : Nat) from by rw [cardTo_succ]; omega))) ?_
    refine en fun a w e' hf => ?_
    replace e := Ext.tr e e'
    clear e'
    refine tl_as hf rfl (by decide) fun a hf => ?_
    refine tl_nil ?_
    repeat refine seq ?_
    refine regn 1 hf (by decide +kernel) ?_
    refine st (add rfl rfl (by omega)) ?_
    refine en fun a w e' hf => ?_
    replace e := Ext.tr e e'
    clear e'
    refine tl_op hf (by decide) (mv rfl) fun a w e' hf => ?_
    replace e := Ext.tr e e'
    clear e'
    refine tl_nil ?_
    replace hf := hf.keep [3, 6, 7]
    dsimp only [keep, List.filterMap, look, Nat.beq, Option.map] at hf
    exact ⟨16 - (k + 1), by omega, k + 1, rfl, by omega, by simpa using hf, e⟩
  · obtain rfl : k = 16 := by omega
    repeat refine seq ?_
    refine regn 1 hf (by decide +kernel) ?_
    refine st ((lss rfl rfl).eq (congrArg Value.bool (show decide (((16 : Nat) : Int) < 16) = false from rfl))) ?_
    refine en fun a w e' hf => ?_
    replace e := Ext.tr e e'
    clear e'
    refine tl_nil ?_
    repeat refine seq ?_
    refine ifc hf rfl (fun h => by cases h) (fun _ => wexit ?_)
    simp only [Exit.then, Exit.inBlock, ↓reduceIte]
    repeat refine seq ?_
    refine regn 1 hf (by decide +kernel) ?_
    refine st (mv rfl) ?_
    refine en fun a w e' hf => ?_
    replace e := Ext.tr e e'
    clear e'
    refine tl_as hf rfl (by decide) fun a hf => ?_
    refine tl_nil ?_
    refine wret (ret1 rfl hf rfl ?_)
    rintro v rfl
    exact ⟨_, rfl, e, by rw [cardTo_16]; rfl⟩
end Go.Mono

set_option linter.unusedVariables false
set_option linter.unusedSimpArgs false
namespace Go.Mono
open Go Go.Proofs Go.RowKit

theorem new1_spec (b : Int × BS) (W : World) : Calls Tryz.prog 91 #[bagV b] W (Post (E (B (decide (4 < card b.2)))) W) := by
  refine enter (args := [bagV b]) (As := [E (bagV b)]) Tryz.func91 rfl Tryz.ntmps91 (Nat.le_of_ble_eq_true rfl) ?_ (fun a hf => ?_) (Nat.le_of_ble_eq_true rfl)
  rotate_left
  dsimp only [params, Nat.reduceAdd] at hf
  rotate_right
  · exact arg1 rfl
  have e := Ext.rfl' W
  repeat refine seq ?_
  refine regn0 ?_
  refine tl_box hf rfl (by decide) fun a b1 w v1 hv1 e' hb1 hs1 B1 hf => ?_
  have hle1 := Nat.le_trans e.size (Nat.le_of_eq hb1.symm)
  replace e := Ext.tr e e'
  clear e'
  refine tl_as hf rfl (by decide) fun a hf => ?_
  refine tl_nil ?_
  cases hv1
  repeat refine seq ?_
  refine regn 4 hf (by decide +kernel) ?_
  refine st (fldA Tryz.underlying69 rfl T67 (by decide) rfl) ?_
  refine st ((ldP T67 rfl B1 (bagC_le _)).eq (bagC_1 _)) ?_
  refine st (call1 En89 rfl (fun v w he h => by cases h; exact len_spec _ w)) ?_
  refine st (gtr rfl rfl) ?_
  refine en fun a w e' hf => ?_
  replace e := Ext.tr e e'
  replace B1 := B1.ext e'
  clear e'
  refine tl_as hf rfl (by decide) fun a hf => ?_
  refine tl_nil ?_
  refine wret ?_
  try simp only [Exit.then, Exit.inBlock]
  refine ret1 rfl hf rfl ?_
  rintro _ rfl
  exact ⟨_, rfl, e, congrArg B (by rw [decide_eq_decide]; omega)⟩

/-- the frame of a tree -/
def frM (t : List (Int × BS)) : Fm := (t, (List.range t.length).map (nodeR (toT t)), mS (toT t) (fun _ => true))
theorem frM_len (t : List (Int × BS)) : (frM t).2.1.length = (frM t).1.length := by simp [frM]
theorem toL_card (S : BS) : (toL S).length = card S := by
  rw [toL, selN, List.length_map, card, List.countP_eq_length_filter]
theorem node_r {G : Nat → Prop} {w : World} {x : Nd} {kv lv : Value} (h1 : (Dv (slE intE) G x.1).p kv w) (h2 : (Dv (slE intE) G x.2.1).p lv w) : nodeE.r G w x [kv, lv, I x.2.2.1, I x.2.2.2.1, I x.2.2.2.2] :=
  ⟨[kv], [lv, I x.2.2.1, I x.2.2.2.1, I x.2.2.2.2], rfl, Dv.r1 rfl h1, [lv], [I x.2.2.1, I x.2.2.2.1, I x.2.2.2.2], rfl, Dv.r1 rfl h2, [I x.2.2.1], [I x.2.2.2.1, I x.2.2.2.2], rfl, rfl, [I x.2.2.2.1], [I x.2.2.2.2], rfl, rfl, rfl⟩
theorem drop5 {l : List Value} {s : Nat} {a b c d e : Value} (h0 : l[s]? = some a) (h1 : l[s + 1]? = some b) (h2 : l[s + 2]? = some c) (h3 : l[s + 3]? = some d) (h4 : l[s + 4]? = some e) : l.drop s = [a, b, c, d, e] ++ l.drop (s + 5) := by
  have g : ∀ {k : Nat} {x : Value}, l[k]? = some x → l.drop k = x :: l.drop (k + 1) := fun {k x} h => by
    obtain ⟨hk, hx⟩ := List.getElem?_eq_some_iff.1 h
    rw [List.drop_eq_getElem_cons hk, hx]
  rw [g h0, g h1, g h2, g h3, g h4]; rfl
theorem NS.cells {n : Nat} {G : Nat → Prop} {nd : Nat → Nd} {cells : Array Value} {w : World} (h : NS n G nd cells w) : ∀ m s, s + m = n → Cells nodeE G w ((List.range' s m).map nd) (cells.toList.drop (s * 5))
  | 0, s, hs => by
    have : cells.toList.drop (s * 5) = [] := List.drop_eq_nil_of_le (by rw [Array.length_toList, h.size]; omega)
    rw [this]; rfl
  | m + 1, s, hs => by
    obtain ⟨kv, lv, h1, h2, h3, h4, h5, h6, h7⟩ := h.nd s (by omega)
    rw [List.range'_succ, List.map_cons]
    have e : ∀ f (v : Value), cells[0 + s * 5 + f]? = some v → cells.toList[s * 5 + f]? = some v := fun f v hv => by rw [Array.getElem?_toList]; rwa [Nat.zero_add] at hv
    refine ⟨_, _, drop5 (e 0 _ h1) (e 1 _ h2) (e 2 _ h3) (e 3 _ h4) (e 4 _ h5), node_r h6 h7, ?_⟩
    have := h.cells m (s + 1) (by omega)
    rwa [Nat.add_mul, Nat.one_mul] at this
theorem NS.dv {n : Nat} {G : Nat → Prop} {nd : Nat → Nd} {cells : Array Value} {w : World} {bn : Nat} (h : NS n G nd cells w) (hb : Blk w bn cells 134) (hG : ¬G bn) : (Dv (slE nodeE) G ((List.range n).map nd)).p (.slice (some ⟨bn, 0, none⟩) n n) w := by
  have hc := h.cells n 0 (Nat.zero_add n)
  rw [Nat.zero_mul, List.drop_zero, ← List.range_eq_range'] at hc
  refine Dv.sl.2 (.inr ⟨⟨bn, 0, none⟩, n, cells.toList, ?_, by simp, hG, hb.lt, hc, fun i u hu => ?_⟩)
  · simp
  · rw [Addr.add_lit, Nat.zero_add, hb.cell i]
    simpa using hu
theorem fr_built (ao : Option Addr) (n c : Nat) (ao' : Option Addr) (n' c' : Nat) (m : Option Nat) : Tryz.prog.built 99 [(0, .slice ao n c), (1, .slice ao' n' c'), (2, .map m)] = some #[.slice ao n c, .slice ao' n' c', .map m] := by kernel_rfl
/-- where the loop over the children stands -/
def nK (xs : List RB) (k i : Nat) : Nd := (if i < k then kids xs (i : Nat) else [], [], 0, 0, 0)
theorem nK_succ (xs : List RB) (k : Nat) : un (nK xs k) k (kids xs (k : Nat), (nK xs k k).2) = nK xs (k + 1) := by
  funext i
  by_cases hi : i = k
  · subst hi; rw [un_same]; simp [nK]
  · rw [un_ne hi]
    have : (i < k + 1) = (i < k) := by apply propext; omega
    simp only [nK, this]
theorem root_all {xs : List RB} (V : Vals xs) {r : Nat} (h1 : ∀ j, j < xs.length → up xs j < 0 → j = r) : ∀ i, i < xs.length → dsc xs r i = true := by
  refine tree_ind V (fun i hi hu => ?_) (fun i j hi hj hu ih => ?_)
  · rw [h1 i hi (by omega)]; exact dsc_self _ _
  · rw [dsc_step V hi hu, ih, Bool.or_true]
theorem kidT_kids {t : List (Int × BS)} (p : Nat) : kidT t t.length p = kids (toT t) (p : Nat) := by
  rw [kidT, kids, toT_len, selN, selN]
  congr 1
  refine List.filter_congr fun i hi => ?_
  rw [toT_up (List.mem_range.1 hi)]
theorem chkR_root {xs : List RB} (V : Vals xs) : ∃ r, r < xs.length ∧ up xs r = -1 ∧ ∀ j, j < xs.length → up xs j < 0 → j = r := by
  have h := V.root
  have hs := selN_two (p := fun i => decide (up xs i < 0)) (n := xs.length)
  have h2 := hs.1 (Nat.le_of_eq h)
  cases hl : selN (fun i => decide (up xs i < 0)) xs.length with
  | nil => rw [hl] at h; cases h
  | cons x l =>
    have : x ∈ selN (fun i => decide (up xs i < 0)) xs.length := by rw [hl]; simp
    obtain ⟨r, r1, r2, r3⟩ := mem_selN.1 this
    have r2' := of_decide_eq_true r2
    have := V.range r r1
    refine ⟨r, r1, by omega, fun j hj hu => ?_⟩
    rcases Nat.lt_trichotomy j r with h | h | h
    · exact absurd ⟨r2, decide_eq_true hu⟩ (h2 j r h r1)
    · exact h
    · exact absurd ⟨decide_eq_true hu, r2⟩ (h2 r j h hj)
/-- what New answers -/
def NewA (t : List (Int × BS)) (G : Nat → Prop) : VA := ⟨fun v w => (newR (toT t) = 0 ∧ (Dv (ptE frE) G (some (frM t))).p v w) ∨ (newR (toT t) ≠ 0 ∧ v = .pointer none), fun v w w' e h => h.imp (fun h => ⟨h.1, Dv.ex h.2 e⟩) id⟩

theorem fnew_spec {G : Nat → Prop} (t : List (Int × BS)) (v : Value) (W : World) (hT : Tab W) (h : (Dv treeE G t).p v W) (hl : t.length ≤ 1000) :
    Calls Tryz.prog 43 #[v] W (Post (Tup [NewA t (fun b => b < W.heap.size), E (I (newR (toT t)))]) W) := by
  have hd : Rng t → (rootN t).length = 1 → Dp t t.length := fun h1 h2 => Dp.mk' (by omega) h1 h2
  have hck : chkT t t.length = chkR (toT t) := chkT_eq
  have HV : (Dv treeE (GB W Go.Mono.G0) t).p v W := Dv.toB (Dv.weak h fun b _ hb => hb.elim)
  refine enter (args := [v]) (As := [E v]) Tryz.func43 rfl Tryz.ntmps43 (Nat.le_of_ble_eq_true rfl) ?_ (fun a hf => ?_) (Nat.le_of_ble_eq_true rfl)
  rotate_left
  dsimp only [params, Nat.reduceAdd] at hf
  rotate_right
  · exact arg1 rfl
  have e := Ext.rfl' W
  have hT0 := hT.lt
  repeat refine seq ?_
  refine regn0 ?_
  refine tl_box hf rfl (by decide) fun a b1 w v1 hv1 e' hb1 hs1 B1 hf => ?_
  have hle1 := Nat.le_trans e.size (Nat.le_of_eq hb1.symm)
  replace HV := Dv.ex HV e'
  replace hT := hT.ext e'
  replace e := Ext.tr e e'
  clear e'
  refine tl_as hf rfl (by decide) fun a hf => ?_
  refine tl_as hf rfl (by decide) fun a hf => ?_
  refine tl_nil ?_
  cases hv1
  rw [one_cells (Dv.slOne HV)] at B1
  repeat refine seq ?_
  refine regn 2 hf (by decide +kernel) ?_
  refine st (ld1 T23 rfl B1 rfl) ?_
  refine st (call1 En26 rfl (fun v w he h => by cases h; exact chkT_spec t t.length _ w (Dv.ex HV he) (by omega) hd)) ?_
  refine en fun a w e' hf => ?_
  replace HV := Dv.ex HV e'
  replace hT := hT.ext e'
  replace e := Ext.tr e e'
  replace B1 := B1.ext e'
  clear e'
  refine tl_as hf rfl (by decide) fun a hf => ?_
  refine tl_nil ?_
  repeat refine seq ?_
  refine regn 2 hf (by decide +kernel) ?_
  refine st (mv rfl) ?_
  refine st (neq rfl rfl) ?_
  refine en fun a w e' hf => ?_
  replace HV := Dv.ex HV e'
  replace hT := hT.ext e'
  replace e := Ext.tr e e'
  replace B1 := B1.ext e'
  clear e'
  refine tl_nil ?_
  repeat refine seq ?_
  refine ifc hf rfl (fun hb => ?_) (fun hb => ?_)
  · have hb' : chkR (toT t) ≠ 0 := by rw [← hck]; simpa using hb
    have hn : newR (toT t) = chkR (toT t) := by rw [newR, if_pos hb']
    repeat refine seq ?_
    refine regn 1 hf (by decide +kernel) ?_
    refine st (mv rfl) ?_
    refine en fun a w e' hf => ?_
    replace HV := Dv.ex HV e'
    replace hT := hT.ext e'
    replace e := Ext.tr e e'
    replace B1 := B1.ext e'
    clear e'
    refine tl_as hf rfl (by decide) fun a hf => ?_
    refine tl_as hf rfl (by decide) fun a hf => ?_
    refine tl_nil ?_
    refine wret (ret2 rfl hf rfl rfl ?_)
    rintro _ _ rfl rfl
    exact ⟨_, rfl, e, by rw [hn, ← hck]; exact Tup.two (.inr ⟨by rw [hn]; exact hb', rfl⟩) rfl⟩
  have hb' : chkR (toT t) = 0 := by rw [← hck]; simpa using hb
  have hc0 : chkT t t.length = 0 := hck.trans hb'
  obtain ⟨h0, V⟩ := chkR_ok.1 hb'
  rw [toT_len] at h0
  have hr : Rng t := fun i hi => by have := V.range i (by rw [toT_len]; exact hi); rwa [toT_up hi, toT_len] at this
  clear hb
  refine wskip ?_
  try simp only [Exit.then, Exit.inBlock, ↓reduceIte]
  repeat refine seq ?_
  refine blk ?_
  repeat refine seq ?_
  refine regn 3 hf (by decide +kernel) ?_
  refine st (ld1 T23 rfl B1 rfl) ?_
  refine st (lenD Tryz.underlying23 (isE rfl HV)) ?_
  refine st ((gtr rfl rfl).eq (congrArg Value.bool (show decide ((1024 : Int) < (t.length : Nat)) = false from decide_eq_false (by omega)))) ?_
  refine en fun a w e' hf => ?_
  replace HV := Dv.ex HV e'
  replace hT := hT.ext e'
  replace e := Ext.tr e e'
  replace B1 := B1.ext e'
  clear e'
  refine tl_as hf rfl (by decide) fun a hf => ?_
  refine tl_nil ?_
  repeat refine seq ?_
  refine ifc hf rfl (fun h => by cases h) (fun _ => ?_)
  have hbig : newR (toT t) = if ∀ i, i < (toT t).length → (hs (toT t) i).length ≤ 4 then 0 else 14 := by rw [newR, if_neg (Classical.not_not.2 hb')]
  have hcard : (∀ i, i < (toT t).length → (hs (toT t) i).length ≤ 4) ↔ ∀ i, i < t.length → decide (4 < card (bg t i).2) = false := by
    rw [toT_len]
    constructor
    · intro h i hi
      have := h i hi
      rw [toT_hs hi, toL_card] at this
      exact decide_eq_false (by omega)
    · intro h i hi
      have := of_decide_eq_false (h i hi)
      rw [toT_hs hi, toL_card]; omega
  have hfs := fstB_neg (p := fun b => decide (4 < card b.2)) (t := t)
  repeat refine seq ?_
  refine regn 2 hf (by decide +kernel) ?_
  refine st (ld1 T23 rfl B1 rfl) ?_
  refine st (call2 En71 rfl rfl (fun v u w he h h' => by cases h; cases h'; exact containsFunc_spec t _ _ _ (fun b => decide (4 < card b.2)) w En91 (Dv.ex HV he) (fun w' b _ => new1_spec b w') (by omega))) ?_
  refine en fun a w e' hf => ?_
  replace HV := Dv.ex HV e'
  replace hT := hT.ext e'
  replace e := Ext.tr e e'
  replace B1 := B1.ext e'
  clear e'
  refine tl_as hf rfl (by decide) fun a hf => ?_
  refine tl_nil ?_
  repeat refine seq ?_
  refine ifc hf rfl (fun hb => ?_) (fun hb => ?_)
  · have hn : newR (toT t) = 14 := by
      rw [hbig, if_neg]
      intro h
      rw [hfs.2 (hcard.1 h)] at hb; cases hb
    repeat refine seq ?_
    refine regn0 ?_
    refine tl_as hf rfl (by decide) fun a hf => ?_
    refine tl_as hf rfl (by decide) fun a hf => ?_
    refine tl_nil ?_
    refine wret (ret2 rfl hf rfl rfl ?_)
    rintro _ _ rfl rfl
    exact ⟨_, rfl, e, by rw [hn]; exact Tup.two (.inr ⟨by rw [hn]; decide, rfl⟩) rfl⟩
  have hn0 : newR (toT t) = 0 := by rw [hbig, if_pos (hcard.2 (hfs.1 hb))]
  clear hbig hcard hfs hb
  refine wskip ?_
  try simp only [Exit.then, Exit.inBlock, ↓reduceIte]
  replace hf := hf.keep [1]
  dsimp only [keep, List.filterMap, look, Nat.beq, Option.map] at hf
  obtain ⟨Nw, hNw⟩ : ∃ Nw, Nw = w.heap.size := ⟨_, rfl⟩
  have hNW := e.size
  have l1 := B1.lt
  repeat refine seq ?_
  refine reg 9 Mix.mix hf (by decide +kernel) ?_
  refine st (ld1 T23 rfl B1 rfl) ?_
  refine st (call1 (A := OwA bagE 69 W.heap.size Go.Mono.G0 t) En59 rfl (fun v w he h => by cases h; exact treeCloneO_spec W.heap.size t _ w (Dv.ex HV he) (by omega) (Nat.le_trans hNW he.size))) ?_
  refine st (ld1 T23 rfl B1 rfl) ?_
  refine st (lenD Tryz.underlying23 (isE rfl HV)) ?_
  refine st (mkS (t := 96) (te := 134) Tryz.underlying96 I134 rfl (by omega) (by decide)) ?_
  refine st (mkM (k := 3) (e := 3)) ?_
  refine st (bld3 rfl rfl rfl (fun u0 u1 u2 w h0 h1 h2 => by obtain ⟨ao, n, c, rfl⟩ := Dv.slF (OwR.sl h0); obtain ⟨b', _, rfl, _⟩ := h1; obtain ⟨b'', _, rfl, _⟩ := h2; exact fr_built _ _ _ _ _ _ _)) ?_
  refine st (bxD rfl) ?_
  refine st (alD I27) ?_
  refine en fun a w e' hf => ?_
  replace HV := Dv.ex HV e'
  replace hT := hT.ext e'
  replace e := Ext.tr e e'
  replace B1 := B1.ext e'
  clear e'
  obtain ⟨_, ⟨bF, _, hbF, rfl, ⟨u0, _, _, rfl, H0, ⟨bn, hbn, rfl, BN⟩, ⟨bm, hbm, rfl, HM⟩⟩, BF⟩, hf⟩ := hf.fix 27 rfl
  obtain ⟨_, ⟨b5, hb5, rfl, B5⟩, hf⟩ := hf.fix 5 rfl
  rw [← hNw] at hbF hbn hbm hb5
  replace BF : Blk w bF #[u0, .slice (some ⟨bn, 0, none⟩) t.length t.length, .map (some bm)] 99 := BF
  replace B5 : Blk w b5 #[.pointer none] 27 := B5
  have n1 := BF.ne BN (by decide)
  have n2 := BF.neM HM
  have n3 := B5.ne BN (by decide)
  have n4 := B5.neM HM
  have n5 := B5.ne BF (by decide)
  have n6 := BN.neM HM
  have H0 : OwR bagE 69 W.heap.size Go.Mono.G0 w t u0 := H0
  have o5 := H0.neB B5 (by decide)
  have oN := H0.neB BN (by decide)
  have oM := H0.neM HM
  replace hf := hf.keep [1, 5, 27]
  dsimp only [keep, List.filterMap, look, Nat.beq, Option.map] at hf
  refine tl_st1 T27 hf rfl rfl rfl B5 (by decide) fun w hg hsz B5 hf => ?_
  replace HV := Dv.gr HV hg (.inr (by omega))
  replace hT := hT.gr hg (by omega)
  replace H0 := H0.grE hg o5
  replace e := e.gr hg (by omega)
  replace B1 := B1.gr hg (by omega)
  replace BF := BF.gr hg (by omega)
  replace BN := BN.gr hg (by omega)
  replace HM := HM.gr hg (by omega)
  clear hg
  refine tl_nil ?_
  replace B5 : Blk w b5 #[.pointer (some ⟨bF, 0, none⟩)] 27 := B5
  have hW1 := e.size
  have HS : NS t.length (fun c => Sn bn bm c ∨ c < W.heap.size) (nK (toT t) 0) (madeCells (Value.agg #[.slice none 0 0, .slice none 0 0, I 0, I 0, I 0]).cells (t.length * 5)) w := by
    refine ⟨size_madeCells _ _, fun i hi => ⟨.slice none 0 0, .slice none 0 0, ?_, ?_, ?_, ?_, ?_, ?_, Dv.nil⟩⟩
    all_goals first
      | exact madeCells_get (k := 5) rfl (by decide) hi
      | (rw [nK, if_neg (by omega)]; exact Dv.nil)
  obtain ⟨cells, hcells⟩ : ∃ cells, cells = madeCells (Value.agg #[.slice none 0 0, .slice none 0 0, I 0, I 0, I 0]).cells (t.length * 5) := ⟨_, rfl⟩
  rw [← hcells] at HS BN
  clear hcells
  have hGlt : ∀ {w' : World}, bn < w'.heap.size → bm < w'.heap.size → W.heap.size ≤ w'.heap.size → ∀ b, (Sn bn bm b ∨ b < W.heap.size) → b < w'.heap.size := fun h1 h2 h3 b hb => by
    rcases hb with (rfl | rfl) | hb <;> omega
  have hGn : (fun c => Sn bn bm c ∨ c < W.heap.size) bn := .inl (.inl rfl)
  have hGm : (fun c => Sn bn bm c ∨ c < W.heap.size) bm := .inl (.inr rfl)
  haveI hInN : InR (fun c => Sn bn bm c ∨ c < W.heap.size) (some bn) := ⟨fun c hc => by cases hc; exact hGn⟩
  have lN := BN.lt
  have lM := HM.lt
  repeat refine seq ?_
  refine regn 4 hf (by decide +kernel) ?_
  refine st (ld1 T23 rfl B1 rfl) ?_
  refine st (call1 (A := Dv (slE (slE intE)) (fun c => Sn bn bm c ∨ c < W.heap.size) (belowT t)) En92 rfl (fun v w he h => by cases h; exact children2_spec t t.length _ w (Dv.ex HV he) (hGlt (by have := he.size; omega) (by have := he.size; omega) (by have := he.size; omega)) (by omega) hd hr hc0)) ?_
  refine st (lenD Tryz.underlying141 (isR rfl)) ?_
  refine st (mv rfl) ?_
  refine en fun a w e' hf => ?_
  replace HV := Dv.ex HV e'
  replace hT := hT.ext e'
  replace H0 := H0.ext e'
  replace HS := HS.ext e'
  replace e := Ext.tr e e'
  replace B1 := B1.ext e'
  replace BF := BF.ext e'
  replace B5 := B5.ext e'
  replace BN := BN.ext e'
  replace HM := HM.ext e'
  clear e'
  refine tl_nil ?_
  rw [show (belowT t).length = t.length from belowTo_len t _] at hf
  replace hf := hf.keep [1, 5, 29, 30, 31]
  dsimp only [keep, List.filterMap, look, Nat.beq, Option.map] at hf
  repeat refine seq ?_
  refine blk (loopN (fun r0 a w => ∃ (k : Nat) (cells : Array Value), r0 = t.length - k ∧ k ≤ t.length ∧ Fr 52 a w [(1, E (.pointer (some ⟨b1, 0, none⟩))), (5, E (.pointer (some ⟨b5, 0, none⟩))), (29, Dv (slE (slE intE)) (fun c => Sn bn bm c ∨ c < W.heap.size) (belowT t)), (30, E (I (t.length : Nat))), (31, E (I k))] ∧
    Ext W w ∧ Blk w b1 #[v] 23 ∧ Blk w bF #[u0, .slice (some ⟨bn, 0, none⟩) t.length t.length, .map (some bm)] 99 ∧ Blk w b5 #[.pointer (some ⟨bF, 0, none⟩)] 27 ∧ Blk w bn cells 134 ∧ MapR Tryz.prog 3 3 w bm 0 (fun _ => none) ∧
    OwR bagE 69 W.heap.size Go.Mono.G0 w t u0 ∧ (Dv treeE (GB W Go.Mono.G0) t).p v w ∧ Tab w ∧ NS t.length (fun c => Sn bn bm c ∨ c < W.heap.size) (nK (toT t) k) cells w) t.length ⟨0, cells, rfl, by omega, hf, e, B1, BF, B5, BN, HM, H0, HV, hT, HS⟩ ?_)
  clear hf e B1 BF B5 BN HM H0 HV hT HS
  rintro r0 a w ⟨k, cells, rfl, hk, hf, e, B1, BF, B5, BN, HM, H0, HV, hT, HS⟩
  repeat refine seq ?_
  refine regn 1 hf (by decide +kernel) ?_
  refine st (lss rfl rfl) ?_
  refine en fun a w e' hf => ?_
  replace HV := Dv.ex HV e'
  replace hT := hT.ext e'
  replace H0 := H0.ext e'
  replace HS := HS.ext e'
  replace e := Ext.tr e e'
  replace B1 := B1.ext e'
  replace BF := BF.ext e'
  replace B5 := B5.ext e'
  replace BN := BN.ext e'
  replace HM := HM.ext e'
  clear e'
  refine tl_nil ?_
  repeat refine seq ?_
  refine ifc hf rfl (fun hc => wskip ?_) (fun hc => wexit ?_)
  · have hlt : k < t.length := by have := of_decide_eq_true hc; omega
    clear hc
    have hkb : (belowT t)[k]? = some (kids (toT t) (k : Nat)) := by rw [← kidT_kids]; exact belowTo_get hlt
    repeat refine seq ?_
    refine blk ?_
    replace hf := hf.keep [1, 5, 29, 30, 31]
    dsimp only [keep, List.filterMap, look, Nat.beq, Option.map] at hf
    repeat refine seq ?_
    refine regn 3 hf (by decide +kernel) ?_
    refine st (mv rfl) ?_
    refine st (idxD Tryz.underlying141 S59 (isR rfl) rfl (by omega) (hkb)) ?_
    refine st (ldD T59 (isR rfl)) ?_
    refine en fun a w e' hf => ?_
    replace HV := Dv.ex HV e'
    replace hT := hT.ext e'
    replace H0 := H0.ext e'
    replace HS := HS.ext e'
    replace e := Ext.tr e e'
    replace B1 := B1.ext e'
    replace BF := BF.ext e'
    replace B5 := B5.ext e'
    replace BN := BN.ext e'
    replace HM := HM.ext e'
    clear e'
    refine tl_as hf rfl (by decide) fun a hf => ?_
    refine tl_as hf rfl (by decide) fun a hf => ?_
    refine tl_nil ?_
    replace hf := hf.keep [1, 5, 6, 7, 29, 30, 31]
    dsimp only [keep, List.filterMap, look, Nat.beq, Option.map] at hf
    repeat refine seq ?_
    refine regn 8 hf (by decide +kernel) ?_
    refine st (ld1 T27 rfl B5 rfl) ?_
    refine st (nilE rfl) ?_
    refine st (fldA Tryz.underlying99 rfl T96 (by decide) rfl) ?_
    refine st (ld1 T96 rfl BF rfl) ?_
    refine st (mv rfl) ?_
    refine st (mv rfl) ?_
    refine st (idxS Tryz.underlying96 S134 rfl rfl (by omega)) ?_
    refine st (fldA Tryz.underlying134 rfl T59 (by decide) rfl) ?_
    refine en fun a w e' hf => ?_
    replace HV := Dv.ex HV e'
    replace hT := hT.ext e'
    replace H0 := H0.ext e'
    replace HS := HS.ext e'
    replace e := Ext.tr e e'
    replace B1 := B1.ext e'
    replace BF := BF.ext e'
    replace B5 := B5.ext e'
    replace BN := BN.ext e'
    replace HM := HM.ext e'
    clear e'
    obtain ⟨kv, HK, hf⟩ := hf.fix 41 rfl
    replace hf := hf.keep [1, 5, 29, 30, 31, 41, 43]
    dsimp only [keep, List.filterMap, look, Nat.beq, Option.map] at hf
    refine tl_st1 T59 hf rfl rfl (Dv.slOne HK) BN (HS.bd hlt (f := 0) (by decide)) fun w hg hsz BN hf => ?_
    replace HK := Dv.gr HK hg hGn
    replace e := e.gr hg (by omega)
    replace B1 := B1.gr hg (by omega)
    replace BF := BF.gr hg (by omega)
    replace B5 := B5.gr hg (by omega)
    replace HM := HM.gr hg (by omega)
    replace HV := Dv.gr HV hg (.inr (by omega))
    replace hT := hT.gr hg (by omega)
    replace H0 := H0.grE hg oN
    replace HS := (HS.gr hg hGn).set_kids hlt HK
    rw [nK_succ] at HS
    clear hg HK
    obtain ⟨cells1, BN1, HS1⟩ : ∃ cells1, Blk w bn cells1 134 ∧ NS t.length (fun c => Sn bn bm c ∨ c < W.heap.size) (nK (toT t) (k + 1)) cells1 w := ⟨_, BN, HS⟩
    clear BN HS
    have BN := BN1
    have HS := HS1
    clear BN1 HS1
    refine tl_nil ?_
    try simp only [Exit.then, Exit.inBlock, ↓reduceIte]
    replace hf := hf.keep [1, 5, 29, 30, 31]
    dsimp only [keep, List.filterMap, look, Nat.beq, Option.map] at hf
    repeat refine seq ?_
    refine regn 1 hf (by decide +kernel) ?_
    refine st ((add rfl rfl (by omega)).eq (congrArg (Value.int .i64) (show (k : Int) + 1 = ((k + 1 : Nat) : Int) from rfl))) ?_
    refine en fun a w e' hf => ?_
    replace HV := Dv.ex HV e'
    replace hT := hT.ext e'
    replace H0 := H0.ext e'
    replace HS := HS.ext e'
    replace e := Ext.tr e e'
    replace B1 := B1.ext e'
    replace BF := BF.ext e'
    replace B5 := B5.ext e'
    replace BN := BN.ext e'
    replace HM := HM.ext e'
    clear e'
    refine tl_op hf (by decide) (mv rfl) fun a w e' hf => ?_
    replace HV := Dv.ex HV e'
    replace hT := hT.ext e'
    replace H0 := H0.ext e'
    replace HS := HS.ext e'
    replace e := Ext.tr e e'
    replace B1 := B1.ext e'
    replace BF := BF.ext e'
    replace B5 := B5.ext e'
    replace BN := BN.ext e'
    replace HM := HM.ext e'
    clear e'
    refine tl_nil ?_
    replace hf := hf.keep [1, 5, 29, 30, 31]
    dsimp only [keep, List.filterMap, look, Nat.beq, Option.map] at hf
    exact ⟨t.length - (k + 1), by omega, k + 1, cells1, rfl, by omega, hf, e, B1, BF, B5, BN, HM, H0, HV, hT, HS⟩
  · obtain rfl : k = t.length := by have := of_decide_eq_false hc; omega
    simp only [Exit.then, Exit.inBlock, ↓reduceIte]
    replace hf := hf.keep [1, 5]
    dsimp only [keep, List.filterMap, look, Nat.beq, Option.map] at hf
    have hr1 : (rootN t).length = 1 := by
      apply Classical.byContradiction
      intro h
      rw [chkT, if_neg (by omega), if_neg (Classical.not_not.2 hr), if_pos h] at hc0
      cases hc0
    obtain ⟨r, r1, r2, r3, r4⟩ := root_one hr1
    have hr0 : (rootsT t)[0]? = some (r : Int) := by rw [rootsT_eq, r1]; rfl
    have hlen : (toT t).length = t.length := toT_len t
    have hur : up (toT t) r = -1 := by rw [toT_up r2, r3]
    have hone : ∀ j, j < (toT t).length → up (toT t) j < 0 → j = r := fun j hj hu => by
      rw [hlen] at hj
      rw [toT_up hj] at hu
      have := hr j hj
      exact r4 j hj (by omega)
    have Kw : Kc t (fun c => Sn bn bm c ∨ c < W.heap.size) bF bn bm b5 b1 v u0 w := ⟨hT, hGlt BN.lt HM.lt e.size, ⟨BF, B5⟩, B1, Dv.weak HV fun b _ hb => .inr (by rcases hb with rfl | rfl <;> omega)⟩
    have Sw : St (toT t) (fun c => Sn bn bm c ∨ c < W.heap.size) bn bm (fun _ => false) (fun _ => false) 0 w := by
      refine ⟨⟨cells, BN, ?_⟩, 0, Nat.zero_le _, ?_⟩
      · rw [hlen]
        exact HS.congr fun i hi => by simp [nK, ndS, hi]
      · have : mS (toT t) (fun _ => false) = fun _ => none := by funext y; simp [mS]
        rw [this]; exact HM
    have hcl := cnt_le (toT t) r
    have oS : ∀ b, u0.ownBlock = some b → ¬Sn bn bm b := by
      rintro b hb (rfl | rfl)
      · exact oN hb
      · exact oM hb
    have ne6 : bF ≠ bn ∧ bF ≠ bm ∧ b5 ≠ bn ∧ b5 ≠ bm ∧ b1 ≠ bn ∧ b1 ≠ bm := by omega
    repeat refine seq ?_
    refine regZ 6 [false, false, false, false, false] (Sn bn bm) (fun w => St (toT t) (fun c => Sn bn bm c ∨ c < W.heap.size) bn bm (orD (toT t) r fun _ => false) (orD (toT t) r fun _ => false) (0 + cnt (toT t) r) w) (fun w w1 k h => h.ext k) Mix.mix hf (by decide +kernel) (by decide +kernel) ?_
    refine za (ld1 T27 rfl B5 rfl) ?_
    refine za (ld1 T23 rfl B1 rfl) ?_
    refine za (call1 En94 rfl (fun v w he h => by cases h; exact root_spec t t.length _ w (Dv.ex HV he) (by omega) hd hc0 r hr0)) ?_
    refine za (makeF2 rfl rfl) ?_
    refine za (makeF1 rfl) ?_
    refine zx (xcall4Z (A := Any) En93 rfl rfl rfl rfl (fun v1 v2 v3 v4 w' he h1 h2 h3 h4 => by cases h1; cases h2; cases h3; cases h4; exact fdown_spec t (toT t) rfl V (by omega) hr _ bF bn bm b5 b1 v u0 hGn hGm (by omega) (by omega) ne6 r (by omega) _ _ 0 w' (Kw.ext he) (Sw.ext he) (.inl (by omega)) (by omega))) ?_
    refine fun a w hc HF hf => ?_
    try dsimp only [push] at hf
    clear Kw Sw HV hT HM HS BN
    replace e := e.ch hc fun b hb => by rcases hb with rfl | rfl <;> omega
    replace BF := BF.ch hc (by unfold Sn; omega)
    replace B5 := B5.ch hc (by unfold Sn; omega)
    replace H0 := H0.chE hc oS
    have HF2 := HF.congr (dn' := fun _ => true) (cm' := fun _ => true) (fun i hi => by simp [orD, root_all V hone i hi]) (fun i hi => by simp [orD, root_all V hone i hi]) (Nat.le_refl _)
    clear HF hc
    refine tl_nil ?_
    replace hf := hf.keep [5]
    dsimp only [keep, List.filterMap, look, Nat.beq, Option.map] at hf
    repeat refine seq ?_
    refine regn 1 hf (by decide +kernel) ?_
    refine st (ld1 T27 rfl B5 rfl) ?_
    refine en fun a w e' hf => ?_
    replace H0 := H0.ext e'
    replace e := Ext.tr e e'
    replace BF := BF.ext e'
    replace B5 := B5.ext e'
    replace HF2 := HF2.ext e'
    clear e'
    refine tl_as hf rfl (by decide) fun a hf => ?_
    refine tl_as hf rfl (by decide) fun a hf => ?_
    refine tl_nil ?_
    refine wret (ret2 rfl hf rfl rfl ?_)
    rintro _ _ rfl rfl
    obtain ⟨⟨cells2, BN, HS⟩, cn, _, HM⟩ := HF2
    rw [hlen] at HS
    have hGW : ∀ b, W.heap.size ≤ b → ¬ b < W.heap.size := fun b h => Nat.not_lt.2 h
    have hN := (HS.weak (G' := fun b => b < W.heap.size) fun _ _ h => .inr h).dv BN (hGW bn (by omega))
    have hN2 : (Dv (slE nodeE) (fun b => b < W.heap.size) ((List.range t.length).map (nodeR (toT t)))).p (.slice (some ⟨bn, 0, none⟩) t.length t.length) w := by
      have : ndS (toT t) (fun _ => true) (fun _ => true) = nodeR (toT t) := by funext i; simp [ndS, nodeR]
      rw [← this]; exact hN
    have hfin : (Dv (ptE frE) (fun b => b < W.heap.size) (some (frM t))).p (.pointer (some ⟨bF, 0, none⟩)) w := by
      refine Dv.pt.2 ⟨⟨bF, 0, none⟩, rfl, hGW bF (by omega), BF.lt, [u0, .slice (some ⟨bn, 0, none⟩) t.length t.length, .map (some bm)], ?_, ?_⟩
      · exact ⟨[u0], [.slice (some ⟨bn, 0, none⟩) t.length t.length, .map (some bm)], rfl, Dv.r1 rfl (OwR.reG H0 fun b hb => hb).sl, [.slice (some ⟨bn, 0, none⟩) t.length t.length], [.map (some bm)], rfl, Dv.r1 rfl hN2, ⟨bm, cn, rfl, hGW bm (by omega), HM⟩⟩
      · intro i u hu
        rw [Addr.add_lit, Nat.zero_add, BF.cell i, List.getElem?_toArray]
        exact hu
    exact ⟨_, rfl, e, by rw [hn0]; exact Tup.two (.inl ⟨hn0, hfin⟩) rfl⟩
end Go.Mono
