/-
  Walks and plain facts, in this order: MonoV, Law45a, Known, Arg, Plain4, Fmodel, Cons, MonoU, MonoT, Equal, Remove, MonoN, Nil.
  No condition.
-/
import Derived.Test.YtnhbkdliljcedaaGreatDoorWD
import Derived.Test.YtnhbkdliljcedaaGreatDoorWC
import Derived.Test.YtnhbkdliljcedaaGreatDoorWB
import Derived.OpenShut
import Derived.Deep.Slices
import Derived.ChangeSame
set_option linter.unusedVariables false
set_option linter.unusedSimpArgs false
set_option linter.unusedVariables false
set_option linter.unusedSimpArgs false
namespace Go.Mono
open Go Go.RowKit

theorem foldl_set : ∀ (c : List Value) (n off : Nat) (cells : Array Value), off + n + c.length ≤ cells.size →
    (c.zipIdx n).foldl (fun cs (p : Value × Nat) => cs.setIfInBounds (off + p.2) p.1) cells = (cells.toList.take (off + n) ++ c ++ cells.toList.drop (off + n + c.length)).toArray := by
  intro c
  induction c with
  | nil => intro n off cells h; simp
  | cons u c ih =>
    intro n off cells h
    simp only [List.length_cons] at h
    rw [List.zipIdx_cons, List.foldl_cons, ih (n + 1) off _ (by simp; omega)]
    simp only [Array.toList_setIfInBounds, List.length_cons]
    congr 1
    have hlt : off + n < cells.toList.length := by simp; omega
    rw [← Nat.add_assoc, List.take_succ_eq_append_getElem (by simpa using hlt), List.getElem_set_self, List.take_set_of_le (Nat.le_refl _), List.drop_set_of_lt (by omega)]
    rw [show off + n + 1 + c.length = off + n + (c.length + 1) by omega]
    simp
def pl {α : Type} : Nat → List α → List (Nat × α)
  | _, [] => []
  | n, v :: vs => (n, v) :: pl (n + 1) vs
theorem pl_map {α β : Type} (f : α → β) : ∀ (n : Nat) (vs : List α), (pl n vs).map (fun p => (p.1, f p.2)) = pl n (vs.map f)
  | _, [] => rfl
  | n, v :: vs => by rw [pl, List.map_cons, pl_map f (n + 1) vs]; rfl
theorem fill_seq {k : Nat} : ∀ (vs : List Value) (cs : List (List Value)) (n : Nat) (done : List Value) (cells : Array Value), vs.map Value.cells = cs.map List.toArray → (∀ c ∈ cs, c.length = k) → done.length = n * k → cells.toList.take (n * k) = done → cells.size = (n + vs.length) * k →
    Instr.fill (fun i => some (i * k, k)) cells (pl n vs) = some (done ++ cs.flatten).toArray
  | [], cs, n, done, cells, hv, hc, hd, ht, hs => by
    have : cs = [] := by cases cs <;> simp at hv ⊢
    subst this
    have : cells.toList = done := by rw [← ht, List.take_of_length_le]; rw [Array.length_toList, hs]; simp
    simp [pl, Instr.fill, ← this]
  | v :: vs, [], n, done, cells, hv, hc, hd, ht, hs => by simp at hv
  | v :: vs, c :: cs, n, done, cells, hv, hc, hd, ht, hs => by
    simp only [List.map_cons, List.cons.injEq] at hv
    have hcl := hc c (by simp)
    have hsz : v.cells.size = k := by rw [hv.1, List.size_toArray, hcl]
    rw [List.length_cons] at hs
    have hb : n * k + k ≤ cells.size := by rw [hs, Nat.add_mul, Nat.add_mul]; omega
    rw [pl, Instr.fill]
    have n1 : ¬ (n * k + k > cells.size) := by omega
    simp only [hsz, ne_eq, not_true_eq_false, decide_false, Bool.false_or, decide_eq_true_eq, n1, if_false, Bool.false_eq_true]
    rw [hv.1]
    have e1 : c.toArray.zipIdx.foldl (fun cs (p : Value × Nat) => cs.setIfInBounds (n * k + p.2) p.1) cells = (cells.toList.take (n * k) ++ c ++ cells.toList.drop (n * k + c.length)).toArray := by
      rw [foldl_zip]
      have := foldl_set c 0 (n * k) cells (by omega)
      simpa using this
    have e2 := fill_seq vs cs (n + 1) (done ++ c) (cells.toList.take (n * k) ++ c ++ cells.toList.drop (n * k + c.length)).toArray hv.2 (fun x hx => hc x (by simp [hx])) (by rw [List.length_append, hd, hcl, Nat.add_mul, Nat.one_mul]) (by
      rw [ht]
      simp only [List.append_assoc]
      rw [← List.append_assoc, List.take_left' (by rw [List.length_append, hd, hcl, Nat.add_mul, Nat.one_mul])]) (by
      simp only [List.size_toArray, List.length_append, List.length_take, List.length_drop, Array.length_toList, hcl]
      rw [Nat.min_eq_left (by omega), hs]
      have : (n + (vs.length + 1)) * k = (n + 1 + vs.length) * k := by congr 1; omega
      rw [this] at hs ⊢
      have : n * k + k ≤ (n + 1 + vs.length) * k := by omega
      omega)
    rw [List.flatten_cons, ← List.append_assoc, ← e2]
    exact congrArg (fun x => Instr.fill (fun i => some (i * k, k)) x (pl (n + 1) vs)) e1
section
variable {P : Program} {w0 : World} {L : Env} {dst : Option Tmp} {ty : TypeId} {pos : String} {aft : Array Edge} {g : Option (Nat × Bool)} {t te : TypeId}
variable {α : Type} {e : Enc α} {G : Nat → Prop}
def IsL (L : Env) (w0 : World) (e : Enc α) (G : Nat → Prop) : List Operand → List α → Prop
  | [], [] => True
  | x :: xs, z :: zs => Is L w0 x (Dv e G z) ∧ IsL L w0 e G xs zs
  | _, _ => False
theorem isL_vals {ρ : Operand → Value} {w : World} {xs0 : List Operand} (he : Ext w0 w) (hv : ∀ x ∈ xs0, ∀ B, opd L x = some B → B.p (ρ x) w) : ∀ (xs : List Operand) (zs : List α), (∀ x ∈ xs, x ∈ xs0) → IsL L w0 e G xs zs →
    ∃ cs : List (List Value), (xs.map ρ).map Value.cells = cs.map List.toArray ∧ (∀ c ∈ cs, c.length = e.k) ∧ Cells e G w zs cs.flatten ∧ xs.length = zs.length
  | [], [], _, _ => ⟨[], rfl, (fun c hc => by cases hc), rfl, rfl⟩
  | [], _ :: _, _, h => h.elim
  | _ :: _, [], _, h => h.elim
  | x :: xs, z :: zs, hm, h => by
    obtain ⟨⟨B, hB, hB2⟩, h2⟩ := h
    obtain ⟨c, h3, h4⟩ := hB2 _ _ he (hv x (hm x (by simp)) B hB)
    obtain ⟨cs, a1, a2, a3, a4⟩ := isL_vals he hv xs zs (fun y hy => hm y (by simp [hy])) h2
    refine ⟨c :: cs, ?_, ?_, ⟨c, cs.flatten, rfl, h3, a3⟩, by simp [a4]⟩
    · simp only [List.map_cons, a1]
      rw [h4, e.pack_cells h3]
    · intro d hd
      rcases List.mem_cons.1 hd with rfl | hd
      · exact e.len h3
      · exact a2 d hd
theorem bslN {z0 : Value} {sz bz n : Nat} {xs : List Operand} {zs : List α} (ht : P.underlying t = some (.slice te)) (hi : (P.info? te).map (fun i => (i.zero, i.size, i.bytes)) = some (some z0, sz, bz)) (hk : sz = e.k) (hn : zs.length = n) (hn0 : 0 < n) (hk2 : n * e.k ≤ 16777216) (hz0 : z0.cells.size = e.k) (hG : ∀ b, G b → b < w0.heap.size)
    (hx : IsL L w0 e G xs zs) : OpC P w0 L ⟨dst, .buildSlice t n (pl 0 xs).toArray, ty, pos, aft, g⟩ (Dv (slE e) G zs) := by
  refine ⟨fun ρ w he hv => ?_⟩
  obtain ⟨it, hit, hiz, hsz, _⟩ := info_parts hi
  subst hk
  have hops : (Op.buildSlice t n (pl 0 xs).toArray).operands = xs.toArray := by
    have : ∀ (k : Nat) (xs : List Operand), (pl k xs).map (·.2) = xs := by
      intro k xs
      induction xs generalizing k with
      | nil => rfl
      | cons x xs ih => rw [pl, List.map_cons, ih]
    simp [Op.operands, this]
  have hv' : ∀ x ∈ xs, ∀ B, opd L x = some B → B.p (ρ x) w := fun x hx B hB => hv x (by
    show x ∈ (Op.buildSlice t n (pl 0 xs).toArray).operands
    rw [hops]; simpa using hx) B hB
  obtain ⟨cs, a1, a2, a3, a4⟩ := isL_vals he hv' xs zs (fun x h => h) hx
  have hxl : xs.length = n := by rw [a4, hn]
  have hpos := e.pos
  have hnk : 0 < n * e.k := Nat.mul_pos hn0 hpos
  have hfl := fill_seq (k := e.k) (xs.map ρ) cs 0 [] ((Array.range (n * it.size)).map (z0.cells[· % z0.cells.size]!)) a1 a2 (by simp) (by simp) (by simp [hsz, hxl])
  have hr := run_buildSlice (P := P) w t te n (pl 0 (xs.map ρ)).toArray cs.flatten.toArray it z0 ht hit hiz (by rw [hsz]; omega) (by rw [hsz]; omega) (by rw [hsz] at hfl ⊢; simpa using hfl)
  have hm : ((pl 0 xs).toArray.map fun p => (p.1, ρ p.2)) = (pl 0 (xs.map ρ)).toArray := by
    rw [List.map_toArray, pl_map]
  have hrun : (execOp ρ ⟨dst, .buildSlice t n (pl 0 xs).toArray, ty, pos, aft, g⟩).run P w = .ok (.value (.slice (some ⟨w.heap.size, 0, none⟩) n n)) (w.alloc (.cells cs.flatten.toArray te)) := by
    simp only [execOp, Sem.run_bind]
    rw [show ((pl 0 xs).toArray.map fun (x : Nat × Operand) => match x with | (i, x) => (i, ρ x)) = (pl 0 (xs.map ρ)).toArray from hm, hr]
    simp only [Result.andThen_ok, Sem.run_pure]
  simp only [OpR, hrun]
  have hx := ext_alloc w (.cells cs.flatten.toArray te)
  refine ⟨hx, Dv.sl.2 (.inr ⟨_, n, cs.flatten, by rw [hn], by omega, fun hg => ?_, by simp, a3.pres (fun b hb hn => hx.block b hb) hx.size, fun i u hu => ?_⟩)⟩
  · exact absurd (hG _ hg) (Nat.not_lt.2 he.size)
  · rw [Addr.add_lit, Nat.zero_add, (blk_alloc w cs.flatten.toArray te).cell i, List.getElem?_toArray]
    exact hu
theorem bsl2 {z0 : Value} {sz bz : Nat} {x y : Operand} {a b : α} (ht : P.underlying t = some (.slice te)) (hi : (P.info? te).map (fun i => (i.zero, i.size, i.bytes)) = some (some z0, sz, bz)) (hk : sz = e.k) (hk2 : 2 * e.k ≤ 16777216) (hz0 : z0.cells.size = e.k) (hG : ∀ b, G b → b < w0.heap.size)
    (hx : Is L w0 x (Dv e G a)) (hy : Is L w0 y (Dv e G b)) : OpC P w0 L ⟨dst, .buildSlice t 2 #[(0, x), (1, y)], ty, pos, aft, g⟩ (Dv (slE e) G [a, b]) :=
  bslN (n := 2) (xs := [x, y]) ht hi hk rfl (by decide) hk2 hz0 hG ⟨hx, hy, trivial⟩
theorem bsl3 {z0 : Value} {sz bz : Nat} {x y z : Operand} {a b c : α} (ht : P.underlying t = some (.slice te)) (hi : (P.info? te).map (fun i => (i.zero, i.size, i.bytes)) = some (some z0, sz, bz)) (hk : sz = e.k) (hk2 : 3 * e.k ≤ 16777216) (hz0 : z0.cells.size = e.k) (hG : ∀ b, G b → b < w0.heap.size)
    (hx : Is L w0 x (Dv e G a)) (hy : Is L w0 y (Dv e G b)) (hz : Is L w0 z (Dv e G c)) : OpC P w0 L ⟨dst, .buildSlice t 3 #[(0, x), (1, y), (2, z)], ty, pos, aft, g⟩ (Dv (slE e) G [a, b, c]) :=
  bslN (n := 3) (xs := [x, y, z]) ht hi hk rfl (by decide) hk2 hz0 hG ⟨hx, hy, hz, trivial⟩

/-- s[:i] of a datum -/
theorem slcD {x y : Operand} {xs : List α} {i : Nat} (ht : P.underlying t = some (.slice te)) (hs : (P.info? te).map (·.size) = some e.k) (hx : Is L w0 x (Dv (slE e) G xs)) (hy : opd L y = some (E (.int .i64 (i : Nat)))) (hi : i ≤ xs.length) :
    OpC P w0 L ⟨dst, .slice t x none (some y) none, ty, pos, aft, g⟩ (Dv (slE e) G (xs.take i)) :=
  opc_pure fun ρ w he hv => by
    have h := Dv.sl.1 (hx.v he hv (by simp [Op.operands]))
    have h2 := opE hv (x := y) (by simp [Op.operands]) hy
    rcases h with ⟨h, rfl⟩ | ⟨ad, cap, cs, h, hc, h3, h4, h5, h6⟩
    · have hi0 : i = 0 := by simpa using hi
      subst hi0
      refine ⟨.slice none 0 0, ?_, Dv.nil⟩
      simp [execOp, h, h2, Instr.sliceAt, Instr.slice, Instr.sliceBounds, Instr.sliceBound, asIntOf, run_underlying ht, sz_of hs]
    · have h8 := h5.take i
      have hic : (i : Nat) ≤ cap := Nat.le_trans hi hc
      refine ⟨.slice (some ad) i cap, ?_, Dv.sl.2 (.inr ⟨ad, cap, cs.take (i * e.k), by rw [List.length_take, Nat.min_eq_left hi], by rw [List.length_take, Nat.min_eq_left hi]; exact hic, h3, h4, h8, fun j u hu => h6 j u (by rw [List.getElem?_take] at hu; split at hu; exact hu; cases hu)⟩)⟩
      simp [execOp, h, h2, Instr.sliceAt, Instr.slice, Instr.sliceBounds, Instr.sliceBound, asIntOf, run_underlying ht, sz_of hs, hic, Addr.add]
end
/-- the end of a function: three results -/
theorem ret3 {P : Program} {fn : Func} {t u s : Nat} {R : Ending → World → Prop} {n : Nat} {a : Act} {w : World} {L : Env} {A B C : VA} (hr : fn.results = #[.tmp t, .tmp u, .tmp s]) (hf : Fr n a w L) (h : look L t = some A) (h' : look L u = some B) (h'' : look L s = some C)
    (hR : ∀ v x y, A.p v w → B.p x w → C.p y w → R (.returned (.tuple #[v, x, y])) w) : bodyPost P fn R .ret a w :=
  ⟨hf.defers, .tuple #[a.eval (.tmp t), a.eval (.tmp u), a.eval (.tmp s)], by simp [results, hr, Act.eval], hR _ _ _ (hf.val t A h) (hf.val u B h') (hf.val s C h'')⟩
end Go.Mono

set_option linter.unusedVariables false
set_option linter.unusedSimpArgs false
namespace Go.Mono
open Go Go.Proofs Go.RowKit

def cutT (t : List (Int × BS)) : List (Int × BS) := t.take (min t.length 60)
theorem cutT_len (t : List (Int × BS)) : (cutT t).length ≤ 60 := by
  rw [cutT, List.length_take]; omega

theorem cut45_spec {G : Nat → Prop} (t : List (Int × BS)) (v : Value) (W : World) (h : (Dv treeE G t).p v W) :
    Calls Tryz.prog 42 #[v] W (Post (Dv treeE G (cutT t)) W) := by
  refine enter (args := [v]) (As := [Dv treeE G t]) Tryz.func42 rfl Tryz.ntmps42 (Nat.le_of_ble_eq_true rfl) ?_ (fun a hf => ?_) (Nat.le_of_ble_eq_true rfl)
  rotate_left
  dsimp only [params, Nat.reduceAdd] at hf
  rotate_right
  · exact arg1 h
  have e := Ext.rfl' W
  repeat refine seq ?_
  refine regn0 ?_
  refine tl_as hf rfl (by decide) fun a hf => ?_
  refine tl_nil ?_
  repeat refine seq ?_
  refine regn 5 hf (by decide +kernel) ?_
  refine st (mv rfl) ?_
  refine st (mv rfl) ?_
  refine st (lenD Tryz.underlying23 (isR rfl)) ?_
  refine st ((min2 rfl rfl).eq (congrArg (Value.int .i64) (show min (t.length : Int) 60 = ((min t.length 60 : Nat) : Int) from by omega))) ?_
  refine st (slcD Tryz.underlying23 S69 (isR rfl) rfl (Nat.min_le_left _ _)) ?_
  refine en fun a w e' hf => ?_
  replace e := Ext.tr e e'
  clear e'
  refine tl_as hf rfl (by decide) fun a hf => ?_
  refine tl_nil ?_
  refine wret ?_
  try simp only [Exit.then, Exit.inBlock]
  refine ret1 rfl hf rfl ?_
  intro v hv
  exact ⟨_, rfl, e, hv⟩

theorem Tup.map2 {A A' B : VA} {v : Value} {w : World} (h : (Tup [A, B]).p v w) (hA : ∀ u, A.p u w → A'.p u w) : (Tup [A', B]).p v w := by
  obtain ⟨vs, h1, h2, h3⟩ := h
  refine ⟨vs, h1, h2, fun i C hC => ?_⟩
  match i, hC with
  | 0, hC => simp at hC; subst hC; exact hA _ (h3 0 A rfl)
  | i + 1, hC => exact h3 (i + 1) C (by simpa using hC)
theorem fnew0_spec {G : Nat → Prop} (t : List (Int × BS)) (v : Value) (W : World) (hT : Tab W) (h : (Dv treeE G t).p v W) (hl : t.length ≤ 1000) :
    Calls Tryz.prog 43 #[v] W (Post (Tup [NewA t Go.Mono.G0, E (I (newR (toT t)))]) W) :=
  Calls.mono (fnew_spec t v W hT h hl) fun en w' ⟨u, h1, h2, h3⟩ => ⟨u, h1, h2, Tup.map2 h3 fun x hx => hx.imp (fun hx => ⟨hx.1, Dv.weak hx.2 fun b _ hb => hb.elim⟩) id⟩

theorem framed_spec {G : Nat → Prop} (t : List (Int × BS)) (v : Value) (W : World) (hT : Tab W) (h : (Dv treeE G t).p v W) :
    Calls Tryz.prog 7 #[v] W (Post (Tup [NewA (cutT t) Go.Mono.G0, Dv rtE Go.Mono.G0 (toT (cutT t)), E (B (decide (newR (toT (cutT t)) = 0)))]) W) := by
  have hl := cutT_len t
  have htl := toT_len (cutT t)
  refine enter (args := [v]) (As := [Dv treeE Go.Mono.G0 t]) Tryz.func7 rfl Tryz.ntmps7 (Nat.le_of_ble_eq_true rfl) ?_ (fun a hf => ?_) (Nat.le_of_ble_eq_true rfl)
  rotate_left
  dsimp only [params, Nat.reduceAdd] at hf
  rotate_right
  · exact arg1 (Dv.weak h fun b _ hb => hb.elim)
  have e := Ext.rfl' W
  repeat refine seq ?_
  refine regn0 ?_
  refine tl_as hf rfl (by decide) fun a hf => ?_
  refine tl_as hf rfl (by decide) fun a hf => ?_
  refine tl_as hf rfl (by decide) fun a hf => ?_
  refine tl_nil ?_
  repeat refine seq ?_
  refine regn 2 hf (by decide +kernel) ?_
  refine st (mv rfl) ?_
  refine st (call1 En42 rfl (fun v w he h => cut45_spec t v w h)) ?_
  refine en fun a w e' hf => ?_
  replace hT := hT.ext e'
  replace e := Ext.tr e e'
  clear e'
  refine tl_as hf rfl (by decide) fun a hf => ?_
  refine tl_nil ?_
  repeat refine seq ?_
  refine regn 2 hf (by decide +kernel) ?_
  refine st (mv rfl) ?_
  refine st (call1 En20 rfl (fun v w he h => toT_spec (cutT t) v w h (fun b hb => hb.elim) (by omega))) ?_
  refine en fun a w e' hf => ?_
  replace hT := hT.ext e'
  replace e := Ext.tr e e'
  clear e'
  refine tl_as hf rfl (by decide) fun a hf => ?_
  refine tl_nil ?_
  repeat refine seq ?_
  refine regn 3 hf (by decide +kernel) ?_
  refine st (mv rfl) ?_
  refine st (call1 En22 rfl (fun v w he h => newR_spec (toT (cutT t)) v w h (by omega) (fun i _ => Nat.le_trans (hs_le _ i) (by decide)))) ?_
  refine st (neq rfl rfl) ?_
  refine en fun a w e' hf => ?_
  replace hT := hT.ext e'
  replace e := Ext.tr e e'
  clear e'
  refine tl_nil ?_
  replace hf := hf.keep [0, 5, 14]
  dsimp only [keep, List.filterMap, look, Nat.beq, Option.map] at hf
  repeat refine seq ?_
  refine ifc hf rfl (fun hb => ?_) (fun hb => ?_)
  · have hb' : newR (toT (cutT t)) ≠ 0 := by simpa using hb
    repeat refine seq ?_
    refine regn 1 hf (by decide +kernel) ?_
    refine st (mv rfl) ?_
    refine en fun a w e' hf => ?_
    replace hT := hT.ext e'
    replace e := Ext.tr e e'
    clear e'
    refine tl_as hf rfl (by decide) fun a hf => ?_
    refine tl_as hf rfl (by decide) fun a hf => ?_
    refine tl_as hf rfl (by decide) fun a hf => ?_
    refine tl_nil ?_
    refine wret (ret3 rfl hf rfl rfl rfl ?_)
    rintro _ x _ rfl hx rfl
    exact ⟨_, rfl, e, by rw [decide_eq_false hb']; exact Tup.three (.inr ⟨hb', rfl⟩) hx rfl⟩
  · have hb' : newR (toT (cutT t)) = 0 := by simpa using hb
    refine wskip ?_
    try simp only [Exit.then, Exit.inBlock, ↓reduceIte]
    repeat refine seq ?_
    refine regn 5 hf (by decide +kernel) ?_
    refine st (mv rfl) ?_
    refine st (call1 En43 rfl (fun v w he h => fnew0_spec (cutT t) v w (hT.ext he) h (by omega))) ?_
    refine st (mv rfl) ?_
    refine st (ext_ rfl rfl) ?_
    refine st (ext_ rfl rfl) ?_
    refine en fun a w e' hf => ?_
    replace hT := hT.ext e'
    replace e := Ext.tr e e'
    clear e'
    refine tl_as hf rfl (by decide) fun a hf => ?_
    refine tl_as hf rfl (by decide) fun a hf => ?_
    refine tl_nil ?_
    repeat refine seq ?_
    refine regn 2 hf (by decide +kernel) ?_
    refine st (mv rfl) ?_
    refine st ((neq rfl rfl).eq (congrArg Value.bool (show (newR (toT (cutT t)) != 0) = false from by rw [hb']; rfl))) ?_
    refine en fun a w e' hf => ?_
    replace hT := hT.ext e'
    replace e := Ext.tr e e'
    clear e'
    refine tl_nil ?_
    repeat refine seq ?_
    refine ifc hf rfl (fun h => by cases h) (fun _ => ?_)
    refine wskip ?_
    try simp only [Exit.then, Exit.inBlock, ↓reduceIte]
    repeat refine seq ?_
    refine regn 2 hf (by decide +kernel) ?_
    refine st (mv rfl) ?_
    refine st (mv rfl) ?_
    refine en fun a w e' hf => ?_
    replace hT := hT.ext e'
    replace e := Ext.tr e e'
    clear e'
    refine tl_as hf rfl (by decide) fun a hf => ?_
    refine tl_as hf rfl (by decide) fun a hf => ?_
    refine tl_as hf rfl (by decide) fun a hf => ?_
    refine tl_nil ?_
    refine wret (ret3 rfl hf rfl rfl rfl ?_)
    rintro _ x _ hv hx rfl
    exact ⟨_, rfl, e, by rw [decide_eq_true hb']; exact Tup.three hv hx rfl⟩

theorem ints_spec {G : Nat → Prop} (p q : List Int) (v u : Value) (W : World) (h : (Dv (slE intE) G p).p v W) (h' : (Dv (slE intE) G q).p u W) (hl : p.length ≤ 4096) :
    Calls Tryz.prog 40 #[v, u] W (Post (E (B (decide (p = q)))) W) := by
  refine enter (args := [v, u]) (As := [Dv (slE intE) G p, Dv (slE intE) G q]) Tryz.func40 rfl Tryz.ntmps40 (Nat.le_of_ble_eq_true rfl) ?_ (fun a hf => ?_) (Nat.le_of_ble_eq_true rfl)
  rotate_left
  dsimp only [params, Nat.reduceAdd] at hf
  rotate_right
  · exact arg2 h h'
  have e := Ext.rfl' W
  repeat refine seq ?_
  refine regn0 ?_
  refine tl_as hf rfl (by decide) fun a hf => ?_
  refine tl_nil ?_
  repeat refine seq ?_
  refine regn 5 hf (by decide +kernel) ?_
  refine st (mv rfl) ?_
  refine st (lenD Tryz.underlying59 (isR rfl)) ?_
  refine st (mv rfl) ?_
  refine st (lenD Tryz.underlying59 (isR rfl)) ?_
  refine st (neq rfl rfl) ?_
  refine en fun a w e' hf => ?_
  replace e := Ext.tr e e'
  clear e'
  refine tl_nil ?_
  repeat refine seq ?_
  refine ifc hf rfl (fun hb => ?_) (fun hb => ?_)
  · have hb' : ¬ p.length = q.length := by
      have : ((p.length : Nat) : Int) ≠ (q.length : Nat) := by simpa using hb
      omega
    repeat refine seq ?_
    refine regn0 ?_
    refine tl_as hf rfl (by decide) fun a hf => ?_
    refine tl_nil ?_
    refine wret ?_
    try simp only [Exit.then, Exit.inBlock]
    refine ret1 rfl hf rfl ?_
    rintro _ rfl
    exact ⟨_, rfl, e, congrArg B (decide_eq_false fun h => hb' (by rw [h])).symm⟩
  · have hb' : p.length = q.length := by
      have : ((p.length : Nat) : Int) = (q.length : Nat) := by simpa using hb
      omega
    refine wskip ?_
    try simp only [Exit.then, Exit.inBlock, ↓reduceIte]
    repeat refine seq ?_
    refine regn0 ?_
    refine tl_as hf rfl (by decide) fun a hf => ?_
    refine tl_nil ?_
    replace hf := hf.keep [0, 1, 5]
    dsimp only [keep, List.filterMap, look, Nat.beq, Option.map] at hf
    repeat refine seq ?_
    refine blk (loopN (fun r0 a w => ∃ (k : Nat) , r0 = p.length - k ∧ k ≤ p.length ∧ Fr 26 a w [(0, Dv (slE intE) G p), (1, Dv (slE intE) G q), (5, E (I k))] ∧ Ext W w ∧ p.take k = q.take k) p.length ⟨0, rfl, by omega, hf, e, rfl⟩ ?_)
    clear hf e; try clear Ho
    rintro r0 a w ⟨k, rfl, hk, hf, e, Ho⟩
    repeat refine seq ?_
    refine regn 4 hf (by decide +kernel) ?_
    refine st (mv rfl) ?_
    refine st (mv rfl) ?_
    refine st (lenD Tryz.underlying59 (isR rfl)) ?_
    refine st (lss rfl rfl) ?_
    refine en fun a w e' hf => ?_
    replace e := Ext.tr e e'
    clear e'
    refine tl_nil ?_
    repeat refine seq ?_
    refine ifc hf rfl (fun hc => wskip ?_) (fun hc => wexit ?_)
    rotate_left
    rotate_left
    · have hlt : k < p.length := by have := of_decide_eq_true hc; (try dsimp only at this); omega
      clear hc
      replace hf := hf.keep [0, 1, 5]
      dsimp only [keep, List.filterMap, look, Nat.beq, Option.map] at hf
      repeat refine seq ?_
      refine blk ?_
      have g1 := gi_get hlt
      have g2 := gi_get (r := q) (k := k) (by omega)
      repeat refine seq ?_
      refine reg 9 Mix.mix hf (by decide +kernel) ?_
      refine st (mv rfl) ?_
      refine st (mv rfl) ?_
      refine st (idxD Tryz.underlying59 S3 (isR rfl) rfl (by omega) (g1)) ?_
      refine st (ldI T3 (isR rfl)) ?_
      refine st (mv rfl) ?_
      refine st (mv rfl) ?_
      refine st (idxD Tryz.underlying59 S3 (isR rfl) rfl (by omega) (g2)) ?_
      refine st (ldI T3 (isR rfl)) ?_
      refine st (neq rfl rfl) ?_
      refine en fun a w e' hf => ?_
      replace e := Ext.tr e e'
      clear e'
      refine tl_nil ?_
      repeat refine seq ?_
      refine ifc hf rfl (fun hb => ?_) (fun hb => ?_)
      · have hb2 : ¬ gi p k = gi q k := by simpa using hb
        repeat refine seq ?_
        refine regn0 ?_
        refine tl_as hf rfl (by decide) fun a hf => ?_
        refine tl_nil ?_
        refine wret ?_
        try simp only [Exit.then, Exit.inBlock]
        refine ret1 rfl hf rfl ?_
        rintro _ rfl
        exact ⟨_, rfl, e, congrArg B (decide_eq_false fun h => hb2 (by rw [h])).symm⟩
      · have hb2 : gi p k = gi q k := by simpa using hb
        refine wskip ?_
        try simp only [Exit.then, Exit.inBlock, ↓reduceIte]
        try simp only [Exit.then, Exit.inBlock, ↓reduceIte]
        repeat refine seq ?_
        refine regn 2 hf (by decide +kernel) ?_
        refine st (mv rfl) ?_
        refine st ((add rfl rfl (by omega)).eq (congrArg (Value.int .i64) (show (k : Int) + 1 = ((k + 1 : Nat) : Int) from rfl))) ?_
        refine en fun a w e' hf => ?_
        replace e := Ext.tr e e'
        clear e'
        refine tl_as hf rfl (by decide) fun a hf => ?_
        refine tl_nil ?_
        replace hf := hf.keep [0, 1, 5]
        dsimp only [keep, List.filterMap, look, Nat.beq, Option.map] at hf
        refine ⟨_, ?_, k + 1, rfl, by omega, hf, e, ?_⟩
        · omega
        rw [gi_take hlt, gi_take (r := q) (k := k) (by omega), Ho, hb2]
    · obtain rfl : k = p.length := by have := of_decide_eq_false hc; (try dsimp only at this); omega
      clear hc
      simp only [Exit.then, Exit.inBlock, ↓reduceIte]
      have heq : p = q := by rw [List.take_length, hb', List.take_length] at Ho; exact Ho
      repeat refine seq ?_
      refine regn0 ?_
      refine tl_as hf rfl (by decide) fun a hf => ?_
      refine tl_nil ?_
      refine wret ?_
      try simp only [Exit.then, Exit.inBlock]
      refine ret1 rfl hf rfl ?_
      rintro _ rfl
      exact ⟨_, rfl, e, congrArg B (decide_eq_true heq).symm⟩
end Go.Mono

set_option linter.unusedVariables false
set_option linter.unusedSimpArgs false
namespace Go.Mono
open Go Go.Proofs Go.RowKit

def s12 : BS := [(1 : Int), 2].foldl ins 0
def s23 : BS := [(2 : Int), 3].foldl ins 0
def s24 : BS := [(2 : Int), 4].foldl ins 0
/-- the example's tree -/
def kt : List (Int × BS) := [(1, s12), (-1, s23), (1, s24)]
def kx : List RB := [(1, [1, 2]), (-1, [2, 3]), (1, [2, 4])]
theorem l12 : toL s12 = [1, 2] := by decide +kernel
theorem l23 : toL s23 = [2, 3] := by decide +kernel
theorem l24 : toL s24 = [2, 4] := by decide +kernel
theorem kt_kx : toT kt = kx := by
  show [toB (1, s12), toB (-1, s23), toB (1, s24)] = _
  simp only [toB, l12, l23, l24]; rfl
theorem kx_vals : Vals kx :=
  ⟨by decide +kernel, by decide +kernel, by decide +kernel, by decide +kernel⟩
theorem kt_new : newR (toT kt) = 0 := by
  have h1 : chkR kx = 0 := chkR_ok.2 ⟨by decide, kx_vals⟩
  have h2 : ∀ i, i < kx.length → (hs kx i).length ≤ 4 := by decide +kernel
  rw [kt_kx, newR, if_neg (by rw [h1]; decide), if_pos h2]
theorem k_home (y : Int) : (frM kt).2.2 y = mS kx (fun _ => true) y := by rw [frM, kt_kx]
theorem k_node {i : Nat} (h : i < 3) : ndG (frM kt) i = nodeR kx i := by
  have : (frM kt).2.1 = (List.range 3).map (nodeR kx) := by rw [frM, kt_kx]; rfl
  rw [ndG, this, List.getElem?_map, List.getElem?_range h]; rfl
theorem k_of {i : Nat} (h : i < 3) : ofF (frM kt) (i : Int) = nodeR kx i := by
  rw [ofF, if_pos, Int.toNat_natCast, k_node h]
  have : (frM kt).1.length = 3 := rfl
  simp [inT, this]; omega
theorem k_h2 : mS kx (fun _ => true) 2 = some 1 := by decide +kernel
theorem k_h3 : mS kx (fun _ => true) 3 = some 1 := by decide +kernel
theorem k_h4 : mS kx (fun _ => true) 4 = some 2 := by decide +kernel
theorem k_d1 : depthR kx 1 = 0 := by decide +kernel
theorem k_d2 : depthR kx 2 = 1 := by decide +kernel
theorem k_b24 : bothF kt 2 4 = true := by decide +kernel
theorem k_b32 : bothF kt 3 2 = true := by decide +kernel
theorem k_e24 : ehF (frM kt) 2 4 = (2, true) := by
  have d1 : (ofF (frM kt) (1 : Int)).2.2.2.2 = 0 := by rw [show (1 : Int) = ((1 : Nat) : Int) from rfl, k_of (by decide)]; show ((depthR kx 1 : Nat) : Int) = 0; rw [k_d1]; rfl
  have d2 : (ofF (frM kt) (2 : Int)).2.2.2.2 = 1 := by rw [show (2 : Int) = ((2 : Nat) : Int) from rfl, k_of (by decide)]; show ((depthR kx 2 : Nat) : Int) = 1; rw [k_d2]; rfl
  rw [ehF, k_home, k_home, k_h2, k_h4]
  simp only [Option.isSome_some, Option.getD_some, Bool.true_and]
  rw [show bothF (frM kt).1 2 4 = true from k_b24, d1, d2]
  rfl
theorem k_e32 : ehF (frM kt) 3 2 = (1, true) := by
  have d1 : (ofF (frM kt) (1 : Int)).2.2.2.2 = 0 := by rw [show (1 : Int) = ((1 : Nat) : Int) from rfl, k_of (by decide)]; show ((depthR kx 1 : Nat) : Int) = 0; rw [k_d1]; rfl
  rw [ehF, k_home, k_home, k_h2, k_h3]
  simp only [Option.isSome_some, Option.getD_some, Bool.true_and]
  rw [show bothF (frM kt).1 3 2 = true from k_b32, d1]
  rfl
theorem k_light : (ofF (frM kt) 1).2.1 = [2] := by
  rw [show (1 : Int) = ((1 : Nat) : Int) from rfl, k_of (by decide)]
  show lightR kx ((1 : Nat) : Int) = [2]
  decide +kernel
theorem k_size : (ofF (frM kt) 1).2.2.1 = 3 := by
  rw [show (1 : Int) = ((1 : Nat) : Int) from rfl, k_of (by decide)]
  show sizeR kx ((1 : Nat) : Int) = 3
  decide +kernel
theorem k_heavy : (ofF (frM kt) 1).2.2.2.1 = 0 := by
  rw [show (1 : Int) = ((1 : Nat) : Int) from rfl, k_of (by decide)]
  show heavyR kx ((1 : Nat) : Int) = 0
  decide +kernel
theorem k_root : fstB (fun b => decide (b.1 < 0)) (frM kt).1 = 1 := by
  show fstB (fun b => decide (b.1 < 0)) kt = 1
  decide +kernel

theorem k_wf : (Lit.int .i64 2).wf = true ∧ (Lit.int .i64 3).wf = true ∧ (Lit.int .i64 4).wf = true := by decide
theorem known_spec (W : World) (hT : Tab W) : Calls Tryz.prog 8 #[] W (Post (E (B true)) W) := by
  refine enter (args := []) (As := []) Tryz.func8 rfl Tryz.ntmps8 (Nat.le_of_ble_eq_true rfl) ?_ (fun a hf => ?_) (Nat.le_of_ble_eq_true rfl)
  · exact argZ
  dsimp only [params, Nat.reduceAdd] at hf
  have e := Ext.rfl' W
  have hg0 : ∀ {w : World}, ∀ b, Go.Mono.G0 b → b < w.heap.size := fun b hb => hb.elim
  have hkl : (frM kt).1.length ≤ 4096 := by decide
  have hkn := frM_len kt
  have hl1 : (ofF (frM kt) 1).2.1.length ≤ 4096 := by rw [k_light]; decide
  repeat refine seq ?_
  refine regn0 ?_
  refine tl_as hf rfl (by decide) fun a hf => ?_
  refine tl_nil ?_
  repeat refine seq ?_
  refine regn 14 hf (by decide +kernel) ?_
  refine st (bsl2 (e := intE) (G := Go.Mono.G0) Tryz.underlying59 I3 rfl (by decide) rfl hg0 (isI rfl) (isI rfl)) ?_
  refine st (call1 (A := E (setV s12)) En44 rfl (fun v w he h => of_spec [1, 2] v w h (by decide))) ?_
  refine st (bld2 (e1 := intE) (e2 := setE) (a := 1) (b := s12) (G := Go.Mono.G0) Tryz.underlying69 rfl rfl rfl S3 S67 I69 rfl (isI rfl) (isS rfl)) ?_
  refine st (bsl2 (e := intE) (G := Go.Mono.G0) Tryz.underlying59 I3 rfl (by decide) rfl hg0 (isI rfl) (isI rfl)) ?_
  refine st (call1 (A := E (setV s23)) En44 rfl (fun v w he h => of_spec [2, 3] v w h (by decide))) ?_
  refine st (bld2 (e1 := intE) (e2 := setE) (a := -1) (b := s23) (G := Go.Mono.G0) Tryz.underlying69 rfl rfl rfl S3 S67 I69 rfl (isI rfl) (isS rfl)) ?_
  refine st (bsl2 (e := intE) (G := Go.Mono.G0) Tryz.underlying59 I3 rfl (by decide) rfl hg0 (isI rfl) (isI rfl)) ?_
  refine st (call1 (A := E (setV s24)) En44 rfl (fun v w he h => of_spec [2, 4] v w h (by decide))) ?_
  refine st (bld2 (e1 := intE) (e2 := setE) (a := 1) (b := s24) (G := Go.Mono.G0) Tryz.underlying69 rfl rfl rfl S3 S67 I69 rfl (isI rfl) (isS rfl)) ?_
  refine st (bsl3 (e := bagE) (G := Go.Mono.G0) Tryz.underlying23 I69 rfl (by decide) rfl hg0 (isR rfl) (isR rfl) (isR rfl)) ?_
  refine st (call1 En43 rfl (fun v w he h => fnew0_spec kt v w (hT.ext he) h (by decide))) ?_
  refine st (mv rfl) ?_
  refine st (ext_ rfl rfl) ?_
  refine st ((ext_ rfl rfl).eq (congrArg (Value.int .i64) kt_new)) ?_
  refine en fun a w e' hf => ?_
  replace hT := hT.ext e'
  replace e := Ext.tr e e'
  clear e'
  refine tl_as hf rfl (by decide) fun a hf => ?_
  refine tl_as hf rfl (by decide) fun a hf => ?_
  refine tl_nil ?_
  replace hf := hf.upd 1 rfl (B := Dv (ptE frE) Go.Mono.G0 (some (frM kt))) (fun v h => h.elim (·.2) (fun h => absurd kt_new h.1))
  replace hf := hf.keep [1, 2]
  dsimp only [keep, List.filterMap, look, Nat.beq, Option.map] at hf
  repeat refine seq ?_
  refine regn 5 hf (by decide +kernel) ?_
  refine st (mv rfl) ?_
  refine st ((call3 En32 rfl rfl rfl (fun v u s w he h h' h'' => by cases h'; cases h''; exact fehome_spec (frM kt) 2 4 _ w h k_wf.1 k_wf.2.2 hkl hkn)).eq (show Value.tuple _ = .tuple #[I 2, B true] from by rw [k_e24])) ?_
  refine st (mv rfl) ?_
  refine st (exE rfl rfl) ?_
  refine st (exE rfl rfl) ?_
  refine en fun a w e' hf => ?_
  replace hT := hT.ext e'
  replace e := Ext.tr e e'
  clear e'
  refine tl_as hf rfl (by decide) fun a hf => ?_
  refine tl_as hf rfl (by decide) fun a hf => ?_
  refine tl_nil ?_
  replace hf := hf.keep [1, 2, 3, 4]
  dsimp only [keep, List.filterMap, look, Nat.beq, Option.map] at hf
  repeat refine seq ?_
  refine regn 5 hf (by decide +kernel) ?_
  refine st (mv rfl) ?_
  refine st ((call3 En32 rfl rfl rfl (fun v u s w he h h' h'' => by cases h'; cases h''; exact fehome_spec (frM kt) 3 2 _ w h k_wf.2.1 k_wf.1 hkl hkn)).eq (show Value.tuple _ = .tuple #[I 1, B true] from by rw [k_e32])) ?_
  refine st (mv rfl) ?_
  refine st (exE rfl rfl) ?_
  refine st (exE rfl rfl) ?_
  refine en fun a w e' hf => ?_
  replace hT := hT.ext e'
  replace e := Ext.tr e e'
  clear e'
  refine tl_as hf rfl (by decide) fun a hf => ?_
  refine tl_as hf rfl (by decide) fun a hf => ?_
  refine tl_nil ?_
  replace hf := hf.keep [1, 2, 3, 4, 5, 6]
  dsimp only [keep, List.filterMap, look, Nat.beq, Option.map] at hf
  repeat refine seq ?_
  refine regn 5 hf (by decide +kernel) ?_
  refine st (mv rfl) ?_
  refine st ((call2 En31 rfl rfl (fun v u w he h h' => by cases h'; exact fvhome_spec (frM kt) 2 _ w h k_wf.1)).eq (show Value.tuple _ = .tuple #[I 1, B true] from by rw [k_home, k_h2]; rfl)) ?_
  refine st (mv rfl) ?_
  refine st (exE rfl rfl) ?_
  refine st (exE rfl rfl) ?_
  refine en fun a w e' hf => ?_
  replace hT := hT.ext e'
  replace e := Ext.tr e e'
  clear e'
  refine tl_as hf rfl (by decide) fun a hf => ?_
  refine tl_as hf rfl (by decide) fun a hf => ?_
  refine tl_nil ?_
  replace hf := hf.keep [1, 2, 3, 4, 5, 6, 7, 8]
  dsimp only [keep, List.filterMap, look, Nat.beq, Option.map] at hf
  repeat refine seq ?_
  refine regn 2 hf (by decide +kernel) ?_
  refine st (mv rfl) ?_
  refine st ((call2 En45 rfl rfl (fun v u w he h h' => by cases h'; exact postG (G := Go.Mono.G0) (flight_spec (frM kt) 1 _ w h hkn hl1) (fun b hb => hb.elim))).dv (k_light)) ?_
  refine en fun a w e' hf => ?_
  replace hT := hT.ext e'
  replace e := Ext.tr e e'
  clear e'
  refine tl_as hf rfl (by decide) fun a hf => ?_
  refine tl_nil ?_
  replace hf := hf.keep [1, 2, 3, 4, 5, 6, 7, 8, 9]
  dsimp only [keep, List.filterMap, look, Nat.beq, Option.map] at hf
  repeat refine seq ?_
  refine regn 54 hf (by decide +kernel) ?_
  refine st (mv rfl) ?_
  refine st ((eql rfl rfl).eq (congrArg Value.bool (show ((0 : Int) == 0) = true from rfl))) ?_
  refine st (mv rfl) ?_
  first | refine sn rfl rfl rfl ?_ | refine su rfl rfl ?_ | refine sy rfl rfl (mv rfl) ?_
  first | refine sn rfl rfl rfl ?_ | refine su rfl rfl ?_ | refine sy rfl rfl (call1 En35 rfl (fun v w he h => flen_spec (frM kt) v w h hkl)) ?_
  first | refine sn rfl rfl rfl ?_ | refine su rfl rfl ?_ | refine sy rfl rfl ((eql rfl rfl).eq (congrArg Value.bool (show ((((frM kt).1.length : Nat) : Int) == 3) = true from by decide))) ?_
  first | refine st (pkT rfl rfl) ?_ | refine st (pkF rfl rfl) ?_ | refine st (pk rfl rfl rfl) ?_
  refine st (mv rfl) ?_
  first | refine sn rfl rfl rfl ?_ | refine su rfl rfl ?_ | refine sy rfl rfl (mv rfl) ?_
  first | refine sn rfl rfl rfl ?_ | refine su rfl rfl ?_ | refine sy rfl rfl ((call1 En30 rfl (fun v w he h => froot_spec (frM kt) v w h hkl)).eq (congrArg (Value.int .i64) k_root)) ?_
  first | refine sn rfl rfl rfl ?_ | refine su rfl rfl ?_ | refine sy rfl rfl ((eql rfl rfl).eq (congrArg Value.bool (show ((1 : Int) == 1) = true from rfl))) ?_
  first | refine st (pkT rfl rfl) ?_ | refine st (pkF rfl rfl) ?_ | refine st (pk rfl rfl rfl) ?_
  refine st (mv rfl) ?_
  first | refine sn rfl rfl rfl ?_ | refine su rfl rfl ?_ | refine sy rfl rfl (mv rfl) ?_
  first | refine sn rfl rfl rfl ?_ | refine su rfl rfl ?_ | refine sy rfl rfl ((call2 En38 rfl rfl (fun v u w he h h' => by cases h'; exact fsize_spec (frM kt) 1 _ w h hkn)).eq (congrArg (Value.int .i64) k_size)) ?_
  first | refine sn rfl rfl rfl ?_ | refine su rfl rfl ?_ | refine sy rfl rfl ((eql rfl rfl).eq (congrArg Value.bool (show ((3 : Int) == 3) = true from rfl))) ?_
  first | refine st (pkT rfl rfl) ?_ | refine st (pkF rfl rfl) ?_ | refine st (pk rfl rfl rfl) ?_
  refine st (mv rfl) ?_
  first | refine sn rfl rfl rfl ?_ | refine su rfl rfl ?_ | refine sy rfl rfl (mv rfl) ?_
  first | refine sn rfl rfl rfl ?_ | refine su rfl rfl ?_ | refine sy rfl rfl ((call2 En37 rfl rfl (fun v u w he h h' => by cases h'; exact fheavy_spec (frM kt) 1 _ w h hkn)).eq (congrArg (Value.int .i64) k_heavy)) ?_
  first | refine sn rfl rfl rfl ?_ | refine su rfl rfl ?_ | refine sy rfl rfl ((eql rfl rfl).eq (congrArg Value.bool (show ((0 : Int) == 0) = true from rfl))) ?_
  first | refine st (pkT rfl rfl) ?_ | refine st (pkF rfl rfl) ?_ | refine st (pk rfl rfl rfl) ?_
  refine st (mv rfl) ?_
  first | refine sn rfl rfl rfl ?_ | refine su rfl rfl ?_ | refine sy rfl rfl (mv rfl) ?_
  first | refine sn rfl rfl rfl ?_ | refine su rfl rfl ?_ | refine sy rfl rfl (lenD Tryz.underlying59 (isR rfl)) ?_
  first | refine sn rfl rfl rfl ?_ | refine su rfl rfl ?_ | refine sy rfl rfl ((eql rfl rfl).eq (congrArg Value.bool (show ((([(2 : Int)].length : Nat) : Int) == 1) = true from rfl))) ?_
  first | refine st (pkT rfl rfl) ?_ | refine st (pkF rfl rfl) ?_ | refine st (pk rfl rfl rfl) ?_
  refine st (mv rfl) ?_
  first | refine sn rfl rfl rfl ?_ | refine su rfl rfl ?_ | refine sy rfl rfl (mv rfl) ?_
  first | refine sn rfl rfl rfl ?_ | refine su rfl rfl ?_ | refine sy rfl rfl (idxD (j := 0) Tryz.underlying59 S3 (isR rfl) rfl rfl rfl) ?_
  first | refine sn rfl rfl rfl ?_ | refine su rfl rfl ?_ | refine sy rfl rfl (ldI T3 (isR rfl)) ?_
  first | refine sn rfl rfl rfl ?_ | refine su rfl rfl ?_ | refine sy rfl rfl ((eql rfl rfl).eq (congrArg Value.bool (show ((2 : Int) == 2) = true from rfl))) ?_
  first | refine st (pkT rfl rfl) ?_ | refine st (pkF rfl rfl) ?_ | refine st (pk rfl rfl rfl) ?_
  refine st (mv rfl) ?_
  first | refine sn rfl rfl rfl ?_ | refine su rfl rfl ?_ | refine sy rfl rfl (mv rfl) ?_
  first | refine st (pkT rfl rfl) ?_ | refine st (pkF rfl rfl) ?_ | refine st (pk rfl rfl rfl) ?_
  refine st (mv rfl) ?_
  first | refine sn rfl rfl rfl ?_ | refine su rfl rfl ?_ | refine sy rfl rfl (mv rfl) ?_
  first | refine st (pkT rfl rfl) ?_ | refine st (pkF rfl rfl) ?_ | refine st (pk rfl rfl rfl) ?_
  refine st (mv rfl) ?_
  first | refine sn rfl rfl rfl ?_ | refine su rfl rfl ?_ | refine sy rfl rfl (mv rfl) ?_
  first | refine st (pkT rfl rfl) ?_ | refine st (pkF rfl rfl) ?_ | refine st (pk rfl rfl rfl) ?_
  refine st (mv rfl) ?_
  first | refine sn rfl rfl rfl ?_ | refine su rfl rfl ?_ | refine sy rfl rfl (mv rfl) ?_
  first | refine sn rfl rfl rfl ?_ | refine su rfl rfl ?_ | refine sy rfl rfl ((eql rfl rfl).eq (congrArg Value.bool (show ((2 : Int) == 2) = true from rfl))) ?_
  first | refine st (pkT rfl rfl) ?_ | refine st (pkF rfl rfl) ?_ | refine st (pk rfl rfl rfl) ?_
  refine st (mv rfl) ?_
  first | refine sn rfl rfl rfl ?_ | refine su rfl rfl ?_ | refine sy rfl rfl (mv rfl) ?_
  first | refine sn rfl rfl rfl ?_ | refine su rfl rfl ?_ | refine sy rfl rfl ((eql rfl rfl).eq (congrArg Value.bool (show ((1 : Int) == 1) = true from rfl))) ?_
  first | refine st (pkT rfl rfl) ?_ | refine st (pkF rfl rfl) ?_ | refine st (pk rfl rfl rfl) ?_
  refine st (mv rfl) ?_
  first | refine sn rfl rfl rfl ?_ | refine su rfl rfl ?_ | refine sy rfl rfl (mv rfl) ?_
  first | refine sn rfl rfl rfl ?_ | refine su rfl rfl ?_ | refine sy rfl rfl ((eql rfl rfl).eq (congrArg Value.bool (show ((1 : Int) == 1) = true from rfl))) ?_
  first | refine st (pkT rfl rfl) ?_ | refine st (pkF rfl rfl) ?_ | refine st (pk rfl rfl rfl) ?_
  refine en fun a w e' hf => ?_
  replace hT := hT.ext e'
  replace e := Ext.tr e e'
  clear e'
  refine tl_as hf rfl (by decide) fun a hf => ?_
  refine tl_nil ?_
  refine wret ?_
  try simp only [Exit.then, Exit.inBlock]
  refine ret1 rfl hf rfl ?_
  rintro _ rfl
  exact ⟨_, rfl, e, rfl⟩
end Go.Mono

set_option linter.unusedVariables false
set_option linter.unusedSimpArgs false
namespace Go.Mono
open Go Go.Proofs Go.RowKit Go.ChangeShapes Go.WideShapes

theorem cellsBag : Tryz.prog.cellsOf 69 = 17 := by kernel_rfl
theorem cellsInt : Tryz.prog.cellsOf 3 = 1 := by kernel_rfl
theorem cellsSet : Tryz.prog.cellsOf 67 = 16 := by kernel_rfl
theorem cellsU64 : Tryz.prog.cellsOf 65 = 1 := by kernel_rfl
/-- sixteen words make a set -/
def ofW (f : Nat → BitVec 64) : Nat → BS
  | 0 => 0
  | n + 1 => ofW f n ||| ((f n).setWidth 1024 <<< (64 * n))
theorem word_shl (x : BitVec 64) (n i : Nat) (hi : i < 16) (hn : n < 16) : word (x.setWidth 1024 <<< (64 * n)) i = if i = n then x else 0 := by
  refine BitVec.eq_of_getLsbD_eq fun j hj => ?_
  rw [word_bit _ _ _ hj]
  have e : (x.setWidth 1024 <<< (64 * n)).getLsbD (64 * i + j) = (decide (64 * i + j < 1024) && !decide (64 * i + j < 64 * n) && (x.setWidth 1024).getLsbD (64 * i + j - 64 * n)) := BitVec.getLsbD_shiftLeft _ _
  rw [e, BitVec.getLsbD_setWidth]
  by_cases h : i = n
  · subst h
    have h1 : 64 * i + j - 64 * i = j := by omega
    have h2 : 64 * i + j < 1024 := by omega
    have h3 : ¬ 64 * i + j < 64 * i := by omega
    have h4 : j < 1024 := by omega
    simp only [h1, h2, h3, h4, decide_true, decide_false, Bool.not_false, Bool.true_and, if_true]
  · rw [if_neg h]
    by_cases h3 : i < n
    · have : 64 * i + j < 64 * n := by omega
      simp [this]
    · have h5 : 64 ≤ 64 * i + j - 64 * n := by omega
      have : x.getLsbD (64 * i + j - 64 * n) = false := BitVec.getLsbD_of_ge _ _ h5
      simp [this]
theorem ofW_word (f : Nat → BitVec 64) : ∀ n, n ≤ 16 → ∀ i, i < 16 → word (ofW f n) i = if i < n then f i else 0
  | 0, _, i, hi => by rw [ofW, word_zero]; simp
  | n + 1, hn, i, hi => by
    rw [ofW, word_or, ofW_word f n (by omega) i hi, word_shl _ _ _ hi (by omega)]
    by_cases h1 : i = n
    · subst h1; simp
    · by_cases h2 : i < n
      · rw [if_pos h2, if_neg h1, if_pos (by omega)]; simp
      · rw [if_neg h2, if_neg h1, if_neg (by omega)]; simp
theorem wordsC_ofW (f : Nat → BitVec 64) : setC (ofW f 16) = wordsC f := wordsC_congr fun i hi => by rw [ofW_word f 16 (Nat.le_refl _) i hi, if_pos hi]

section
variable {H : Type} {enc : TypeId × Value → H} {w : World} {base : Nat} {spare : Nat → Bool} {held : Bool}
theorem u64_of {z : Int} (h : (Lit.int .u64 z).wf = true) : Value.int .u64 z = Mono.W (BitVec.ofNat 64 z.toNat) := by
  have h1 : IntKind.u64.min = 0 := by decide
  have h2 : IntKind.u64.max = 18446744073709551615 := by decide
  simp only [Lit.wf, h1, h2, Bool.and_eq_true, decide_eq_true_eq] at h
  rw [Mono.W, BitVec.toNat_ofNat, Nat.mod_eq_of_lt (by omega), Int.toNat_of_nonneg h.1]
/-- the cells of one bag -/
theorem bag_cells {n : Nat} {cs : List Value} {x : DataW H × List MemPlace} (h : DataW.trod enc Tryz.prog w base spare held n 69 cs = some x) : ∃ b : Int × BS, cs = (bagC b).toList := by
  obtain ⟨y0, y1, m, _, hl, h0, h1⟩ := trod_struct2 Tryz.underlying69 h
  rw [cellsBag] at hl
  change DataW.trod enc Tryz.prog w base spare held m 3 ((cs.drop 0).take (Tryz.prog.cellsOf 3)) = some y0 at h0
  change DataW.trod enc Tryz.prog w base spare held m 67 ((cs.drop 1).take (Tryz.prog.cellsOf 67)) = some y1 at h1
  rw [cellsInt] at h0
  rw [cellsSet] at h1
  obtain ⟨z, hz, _, _⟩ := DataW.trod_int Tryz.underlying3 h0
  obtain ⟨xs, m2, _, _, hl2, hxl, hall⟩ := DataW.trod_array Tryz.underlying67 h1
  have hw : ∀ i, i < 16 → ∃ y : BitVec 64, cs[1 + i]? = some (Mono.W y) := by
    intro i hi
    have := hall i hi
    rw [cellsU64, Nat.mul_one] at this
    obtain ⟨b, hb⟩ : ∃ b, xs[i]? = some b := ⟨_, List.getElem?_eq_getElem (by omega)⟩
    rw [hb] at this
    obtain ⟨u, hu, _, hwf⟩ := DataW.trod_int Tryz.underlying65 this
    refine ⟨BitVec.ofNat 64 u.toNat, ?_⟩
    rw [← u64_of hwf]
    have h3 := congrArg (fun l : List Value => l[0]?) hu
    simp only [List.getElem?_cons_zero] at h3
    rw [List.getElem?_take, if_pos (by decide), List.getElem?_drop, Nat.add_zero, List.getElem?_take, if_pos hi, List.getElem?_drop] at h3
    exact h3
  obtain ⟨f, hf⟩ := Deep.choose_lt (n := 16) (p := fun i (y : BitVec 64) => cs[1 + i]? = some (Mono.W y)) hw
  refine ⟨(z, ofW f 16), ?_⟩
  apply List.ext_getElem?
  intro j
  simp only [bagC, wordsC_ofW]
  cases j with
  | zero =>
    have h3 := congrArg (fun l : List Value => l[0]?) hz
    simp only [List.getElem?_cons_zero] at h3
    rw [List.getElem?_take, if_pos (by decide), List.getElem?_drop] at h3
    simpa using h3
  | succ j =>
    simp only [List.getElem?_cons_succ, Array.getElem?_toList]
    by_cases hj : j < 16
    · rw [wordsC_get _ _ hj, Nat.add_comm]; exact hf j hj
    · rw [List.getElem?_eq_none (by omega), Array.getElem?_eq_none (by rw [wordsC_size]; omega)]
theorem bagC_len (b : Int × BS) : (bagC b).toList.length = 17 := by rw [Array.length_toList, bagC_size]
theorem bags_at {a : Addr} {f : Nat → Int × BS} : ∀ (n s : Nat), (∀ i, s ≤ i → i < s + n → ∀ j u, (bagC (f i)).toList[j]? = some u → w.cell? (a.add (i * 17 + j)) = some u) → ∀ j u, (((List.range' s n).map f).flatMap fun b => (bagC b).toList)[j]? = some u → w.cell? (a.add (s * 17 + j)) = some u
  | 0, s, h, j, u, hu => by simp at hu
  | n + 1, s, h, j, u, hu => by
    rw [List.range'_succ, List.map_cons, List.flatMap_cons] at hu
    by_cases hj : j < 17
    · rw [List.getElem?_append_left (by rw [bagC_len]; exact hj)] at hu
      exact h s (Nat.le_refl _) (by omega) j u hu
    · rw [List.getElem?_append_right (by rw [bagC_len]; omega), bagC_len] at hu
      have := bags_at n (s + 1) (fun i h1 h2 => h i (by omega) (by omega)) (j - 17) u hu
      rwa [show (s + 1) * 17 + (j - 17) = s * 17 + j by omega] at this
theorem bags_cells {G : Nat → Prop} : ∀ t : List (Int × BS), Cells bagE G w t (t.flatMap fun b => (bagC b).toList)
  | [] => rfl
  | b :: t => ⟨(bagC b).toList, _, rfl, ⟨[I b.1], (setC b.2).toList, rfl, rfl, rfl⟩, bags_cells t⟩
set_option maxRecDepth 100000 in
/-- THE ARGUMENT, OPENED -/
theorem open_tree {v : Value} {d : DataW H} {ps : List MemPlace} {b0 : Nat} (hok : Value.okWide Tryz.prog w .any b0 23 v) (h : DataW.Trod enc Tryz.prog w 0 spare held 23 v d ps) : ∃ t, (Dv treeE Go.Mono.G0 t).p v w := by
  obtain ⟨fuel, hf⟩ := h
  obtain ⟨a0, n0, c0, rfl⟩ := okWide_slice Tryz.underlying23 hok
  rcases Deep.open_slice Tryz.underlying23 hf with ⟨hcs, _⟩ | ⟨a, len, cap, m, n, D, Pl, hcs, _, hlc, _, hm, _, hall⟩
  · simp [Value.cells] at hcs
    obtain ⟨rfl, rfl, rfl⟩ := hcs
    exact ⟨[], Dv.nil⟩
  · simp [Value.cells] at hcs
    obtain ⟨rfl, rfl, rfl⟩ := hcs
    have hlm : n0 ≤ m := by rw [hm]; split <;> omega
    have each : ∀ i, i < n0 → ∃ b : Int × BS, ∀ j u, (bagC b).toList[j]? = some u → w.cell? (a.add (i * 17 + j)) = some u := by
      intro i hi
      obtain ⟨cs', h1, h2⟩ := hall i (by omega)
      rw [cellsBag] at h1
      obtain ⟨_, hlen, hcell⟩ := World.cells?_some h1
      obtain ⟨b, rfl⟩ := bag_cells h2
      refine ⟨b, fun j u hu => ?_⟩
      have hj : j < 17 := by have := (List.getElem?_eq_some_iff.1 hu).1; rw [bagC_len] at this; exact this
      have := hcell j hj
      rw [Deep.add_add] at this
      rw [this]; exact hu
    obtain ⟨f, hf'⟩ := Deep.choose_lt each
    by_cases h0 : n0 = 0
    · subst h0
      have hb : a.block < w.heap.size := by
        have h1 : Cell.ok Tryz.prog w .any b0 23 (.slice (some a) 0 c0) := by
          have := hok
          simpa [Value.okWide, Cell.okWide, Tryz.underlying23] using this
        have h2 : 0 ≤ c0 ∧ (c0 : Int) ≤ IntKind.i64.max ∧ w.has Tryz.prog .any b0 a 69 c0 := by
          simpa [Cell.ok, Tryz.underlying23] using h1
        have h3 := h2.2.2.2.2
        obtain ⟨row, h3⟩ := h3
        obtain ⟨cells, h3⟩ := h3
        have h4 := h3.1
        apply Classical.byContradiction
        intro hn
        have : w.heap[a.block]? = none := Array.getElem?_eq_none (by omega)
        simp [World.shape?, this] at h4
      exact ⟨[], Dv.sl.2 (.inr ⟨a, c0, [], rfl, by simp, fun hg => hg.elim, hb, rfl, fun j u hu => by simp at hu⟩)⟩
    · refine ⟨(List.range n0).map f, Dv.sl.2 (.inr ⟨a, c0, ((List.range n0).map f).flatMap fun b => (bagC b).toList, by simp, by simpa using hlc, fun hg => hg.elim, ?_, bags_cells _, fun j u hu => ?_⟩)⟩
      · have := hf' 0 (by omega) 0 (I (f 0).1) rfl
        have := World.block_lt_of_cell? w _ this
        simpa [add_block] using this
      · rw [List.range_eq_range'] at hu
        have := bags_at (w := w) (a := a) (f := f) n0 0 (fun i _ hi j u hu => hf' i (by omega) j u hu) j u hu
        simpa using this
end
end Go.Mono

set_option linter.unusedVariables false
set_option linter.unusedSimpArgs false
namespace Go.Mono
open Go

theorem gi_cons (x : Int) (l : List Int) (k : Nat) : gi (x :: l) (k + 1) = gi l k := by simp [gi]
/-- each step of a path goes from a bag to one below it -/
theorem way_ok {xs : List RB} (V : Vals xs) : ∀ s, s < xs.length → ∀ k, k < (wayR xs (s : Nat)).length → ∃ m : Nat, m < xs.length ∧ gi (wayR xs (s : Nat)) k = (m : Int) ∧ (0 < k → up xs m = gi (wayR xs (s : Nat)) (k - 1)) := by
  refine tree_up V fun s hs ih k hk => ?_
  rw [wayR_eq V hs] at hk ⊢
  cases k with
  | zero => exact ⟨s, hs, rfl, fun h => by omega⟩
  | succ k =>
    rcases heavyR_ok xs (s : Nat) with h | ⟨i, i1, i2, i3⟩
    · rw [h, wayR_neg (by omega)] at hk
      simp at hk
    · rw [i3] at hk ⊢
      obtain ⟨m, m1, m2, m3⟩ := ih i i1 i2 k (by simpa using hk)
      refine ⟨m, m1, by rw [gi_cons]; exact m2, fun _ => ?_⟩
      rw [Nat.add_sub_cancel]
      cases k with
      | zero =>
        rw [wayR_eq V i1] at m2
        have : (i : Int) = (m : Int) := m2
        obtain rfl : i = m := by omega
        exact i2
      | succ k => rw [gi_cons]; exact m3 (by omega)
theorem depth_cnt {xs : List RB} (V : Vals xs) : ∀ b, b < xs.length → depthR xs b + cnt xs b ≤ xs.length := by
  refine tree_ind V (fun b hb hu => ?_) (fun b p hb hp hu ih => ?_)
  · have h0 : depthR xs b = 0 := by rw [depthR_eq, ab_root (by omega)]; rfl
    have := cnt_le xs b
    omega
  · have hd := depth_step V hb hu
    have h1 := cnt_eq V hp
    have m : b ∈ kidN xs p := mem_kidN.2 ⟨hb, hu⟩
    have h2 : cnt xs b ≤ ((kidN xs p).map fun k => cnt xs k).sum := by
      revert m
      generalize kidN xs p = l
      intro m
      induction l with
      | nil => cases m
      | cons y l ihl =>
        rw [List.map_cons, List.sum_cons]
        rcases List.mem_cons.1 m with rfl | m
        · omega
        · have := ihl m; omega
    omega
theorem map_range_set {α : Type} {n m : Nat} (f : Nat → α) (x : α) : ((List.range n).map f).set m x = (List.range n).map (fun b => if b = m then x else f b) := by
  refine List.ext_getElem (by simp) fun i h1 h2 => ?_
  rw [List.getElem_set]
  simp only [List.getElem_map, List.getElem_range]
  by_cases h : m = i
  · subst h; simp
  · have : ¬ i = m := Ne.symm h
    simp [h, this]
/-- truth values in cells -/
def boolsC (l : List Bool) : Array Value := (l.map Value.bool).toArray
theorem boolsC_set (l : List Bool) (p : Nat) (x : Bool) : (boolsC l).setIfInBounds p (.bool x) = boolsC (l.set p x) := by
  apply Array.toList_inj.1
  simp [boolsC, List.map_set]
theorem boolsC_size (l : List Bool) : (boolsC l).size = l.length := by simp [boolsC]
/-- how often b was met: on the first i paths, on the first k steps of the next -/
def onC (xs : List RB) (S : List Nat) (i k b : Nat) : Nat := (((S.take i).map fun s => (wayR xs (s : Nat)).count (b : Int)).sum) + (match S[i]? with | some s => ((wayR xs (s : Nat)).take k).count (b : Int) | none => 0)
theorem onC_step {xs : List RB} {S : List Nat} {i k s m : Nat} (h : S[i]? = some s) (hk : k < (wayR xs (s : Nat)).length) (hm : gi (wayR xs (s : Nat)) k = (m : Int)) (b : Nat) : onC xs S i (k + 1) b = if b = m then onC xs S i k b + 1 else onC xs S i k b := by
  unfold onC
  rw [h]
  simp only
  rw [gi_take hk, List.count_append, hm, count_consI]
  by_cases hb : b = m
  · subst hb; simp [ind]; omega
  · have : ¬ (m : Int) = (b : Int) := by omega
    simp [ind, this, hb]
theorem onC_next {xs : List RB} {S : List Nat} {i s : Nat} (h : S[i]? = some s) (b : Nat) : onC xs S i (wayR xs (s : Nat)).length b = onC xs S (i + 1) 0 b := by
  unfold onC
  rw [h]
  simp only
  rw [List.take_length, take_succ_get h, List.map_append, List.sum_append]
  cases hS : S[i + 1]? <;> simp
theorem onC_all {xs : List RB} {S : List Nat} (b : Nat) : onC xs S S.length 0 b = (S.map fun s => (wayR xs (s : Nat)).count (b : Int)).sum := by
  unfold onC
  rw [List.take_length]
  have : S[S.length]? = none := by simp
  rw [this]; rfl
theorem onC_zero {xs : List RB} {S : List Nat} (b : Nat) : onC xs S 0 0 b = 0 := by
  unfold onC
  cases S[0]? <;> simp
theorem wayF_len (xs : List RB) : ∀ f b, (wayF xs f b).length ≤ f
  | 0, b => by simp [wayF]
  | f + 1, b => by
    rw [wayF]
    split
    · simp
    · have := wayF_len xs f (heavyR xs b)
      simp; omega
theorem wayR_len (xs : List RB) (b : Int) : (wayR xs b).length ≤ xs.length + 2 := wayF_len xs _ _
theorem onC_le (xs : List RB) (S : List Nat) (i k b : Nat) (hi : i ≤ S.length) : onC xs S i k b ≤ (i + 1) * (xs.length + 2) := by
  unfold onC
  have h1 : ∀ l : List Nat, (l.map fun s => (wayR xs (s : Nat)).count (b : Int)).sum ≤ l.length * (xs.length + 2) := by
    intro l
    induction l with
    | nil => simp
    | cons s l ih =>
      rw [List.map_cons, List.sum_cons, List.length_cons, Nat.add_mul]
      have := List.count_le_length (a := (b : Int)) (l := wayR xs (s : Nat))
      have := wayR_len xs (s : Nat)
      omega
  have h2 := h1 (S.take i)
  have h4 : (S.take i).length ≤ i := List.length_take_le _ _
  have h5 : (S.take i).length * (xs.length + 2) ≤ i * (xs.length + 2) := Nat.mul_le_mul_right _ h4
  have h3 : (match S[i]? with | some s => ((wayR xs (s : Nat)).take k).count (b : Int) | none => 0) ≤ xs.length + 2 := by
    split
    · rename_i s hs
      have a1 := List.count_le_length (a := (b : Int)) (l := (wayR xs (s : Nat)).take k)
      have a2 : ((wayR xs (s : Nat)).take k).length ≤ (wayR xs (s : Nat)).length := by rw [List.length_take]; omega
      have := wayR_len xs (s : Nat)
      omega
    · omega
  rw [Nat.add_mul, Nat.one_mul]
  omega
/-- which starts have been marked as light -/
def ltC (S : List Nat) (i b : Nat) : Bool := decide (b ∈ (S.take i).drop 1)
theorem ltC_step {S : List Nat} {i s : Nat} (h : S[i]? = some s) (b : Nat) : ltC S (i + 1) b = if b = s then decide (0 < i) else ltC S i b := by
  unfold ltC
  rw [take_succ_get h]
  cases i with
  | zero => simp
  | succ i =>
    have hl : 1 ≤ (S.take (i + 1)).length := by
      have := (List.getElem?_eq_some_iff.1 h).1
      rw [List.length_take]; omega
    rw [List.drop_append_of_le_length hl]
    by_cases hb : b = s
    · subst hb; simp
    · simp [hb]
theorem ltC_all {xs : List RB} {r : Nat} (b : Nat) : ltC (stTo xs r xs.length) (stTo xs r xs.length).length b = isLt xs (b : Nat) := by
  rw [ltC, List.take_length, Bool.eq_iff_iff, isLt_iff, decide_eq_true_eq, stTo, List.drop_one, List.tail_cons, List.mem_flatMap]
  constructor
  · rintro ⟨p, hp, h⟩; exact ⟨p, List.mem_range.1 hp, h⟩
  · rintro ⟨p, hp, h⟩; exact ⟨p, List.mem_range.2 hp, h⟩
theorem stTo_succ (xs : List RB) (r k : Nat) : stTo xs r (k + 1) = stTo xs r k ++ lightN xs k := by
  rw [stTo, List.range_succ, List.flatMap_append, stTo]; simp
theorem stTo_len (xs : List RB) (r : Nat) : ∀ k, (stTo xs r k).length ≤ 1 + k * xs.length
  | 0 => by simp [stTo]
  | k + 1 => by
    rw [stTo_succ, List.length_append, Nat.add_mul]
    have := stTo_len xs r k
    have h1 : (lightN xs k).length ≤ (kidN xs k).length := List.length_filter_le _ _
    have h2 : (kidN xs k).length ≤ (List.range xs.length).length := List.length_filter_le _ _
    simp at h2
    omega
theorem stTo_lt {xs : List RB} {r : Nat} (hr : r < xs.length) (k : Nat) : ∀ s ∈ stTo xs r k, s < xs.length := by
  intro s hs
  rw [stTo, List.mem_cons, List.mem_flatMap] at hs
  rcases hs with rfl | ⟨p, _, h⟩
  · exact hr
  · exact (mem_lightN.1 h).1
end Go.Mono

set_option linter.unusedVariables false
set_option linter.unusedSimpArgs false
namespace Go.Mono
open Go Go.Proofs Go.RowKit

theorem fm_home (t : List (Int × BS)) (u : Int) : ((frM t).2.2 u).isSome = decide (0 ≤ homeR (toT t) u) ∧ ((frM t).2.2 u).getD 0 = max (homeR (toT t) u) 0 := by
  show (mS (toT t) (fun _ => true) u).isSome = _ ∧ (mS (toT t) (fun _ => true) u).getD 0 = _
  unfold mS
  by_cases h : 0 ≤ homeR (toT t) u
  · have h2 : max (homeR (toT t) u) 0 = homeR (toT t) u := by omega
    simp [h, h2]
  · have h2 : max (homeR (toT t) u) 0 = 0 := by omega
    simp [h, h2]
theorem fm_nd {t : List (Int × BS)} {i : Nat} (h : i < t.length) : ofF (frM t) (i : Int) = nodeR (toT t) i := by
  rw [ofF, if_pos, Int.toNat_natCast, ndG]
  · show (match ((List.range t.length).map (nodeR (toT t)))[i]? with | some x => x | none => _) = _
    rw [List.getElem?_map, List.getElem?_range h]; rfl
  · have : (frM t).1.length = t.length := rfl
    simp [inT, this, h]
theorem fstN_congr {p q : Nat → Bool} : ∀ {n : Nat}, (∀ i, i < n → p i = q i) → fstN p n = fstN q n
  | 0, _ => rfl
  | n + 1, h => by rw [fstN, fstN, fstN_congr fun i hi => h i (by omega), h n (by omega)]
theorem fm_both (t : List (Int × BS)) (u v : Int) : fstB (fun b => has b.2 u && has b.2 v) t = fstN (bothB (toT t) u v) (toT t).length := by
  rw [fstB, toT_len]
  refine fstN_congr fun i hi => ?_
  rw [bothB, toT_hs hi, hasL_toL, hasL_toL]
theorem fm_edge {t : List (Int × BS)} (V : Vals (toT t)) (u v : Int) : ehF (frM t) u v = (max (homeEdgeR (toT t) u v) 0, decide (0 ≤ homeEdgeR (toT t) u v)) := by
  have hb := fm_both t u v
  rw [ehF, (fm_home t u).1, (fm_home t u).2, (fm_home t v).1, (fm_home t v).2, show (frM t).1 = t from rfl, bothF, hb]
  by_cases huv : u = v
  · have : homeEdgeR (toT t) u v = -1 := by rw [homeEdgeR, if_pos huv]
    rw [this, if_neg (by simp [huv])]; rfl
  rcases fstN_cases (bothB (toT t) u v) (toT t).length with ⟨h1, _⟩ | ⟨i, hi, h1, h2, _⟩
  · have : homeEdgeR (toT t) u v = -1 := by rw [homeEdgeR, if_neg huv, if_pos h1]
    rw [this, h1, if_neg (by simp)]; rfl
  · rw [bothB, Bool.and_eq_true] at h2
    obtain ⟨a, a1, a2, a3, a4⟩ := home_path V u i hi h2.1
    obtain ⟨c, c1, c2, c3, c4⟩ := home_path V v i hi h2.2
    have ha' : a < t.length := by rw [← toT_len]; exact a1
    have hc' : c < t.length := by rw [← toT_len]; exact c1
    have m1 : max (a : Int) 0 = (a : Int) := by omega
    have m2 : max (c : Int) 0 = (c : Int) := by omega
    rw [h1, a2, c2, m1, m2, if_pos (by simp [huv]), fm_nd ha', fm_nd hc']
    have he : homeEdgeR (toT t) u v = if depthR (toT t) c < depthR (toT t) a then (a : Int) else (c : Int) := by
      rw [homeEdgeR, if_neg huv, if_neg (by omega), a2, c2, Int.toNat_natCast, Int.toNat_natCast]
    rw [he]
    show ((if ((depthR (toT t) c : Nat) : Int) < ((depthR (toT t) a : Nat) : Int) then (a : Int) else (c : Int)), true) = _
    by_cases hd : depthR (toT t) c < depthR (toT t) a
    · rw [if_pos (by omega), if_pos hd, m1]; simp
    · rw [if_neg (by omega), if_neg hd, m2]; simp
theorem new_vals {t : List (Int × BS)} (h : newR (toT t) = 0) : Vals (toT t) := by
  by_cases hc : chkR (toT t) = 0
  · exact (chkR_ok.1 hc).2
  · rw [newR, if_pos hc] at h
    exact absurd h hc
theorem fm_ok {t : List (Int × BS)} (V : Vals (toT t)) : Ok (toT t) := ⟨V.hi, fun i _ => Nat.le_trans (hs_le t i) (by decide)⟩

end Go.Mono

set_option linter.unusedVariables false
set_option linter.unusedSimpArgs false
namespace Go.Mono
open Go Go.Proofs Go.RowKit

theorem mem_ids {x : Int} : ∀ {t : List (Int × BS)} {r : List Int}, x ∈ (toT t).foldl (fun out b => b.2.foldl withL out) r ↔ x ∈ r ∨ ∃ b ∈ t, x ∈ toL b.2
  | [], r => by simp [toT]
  | b :: t, r => by
    have e : (toT (b :: t)).foldl (fun out b => b.2.foldl withL out) r = (toT t).foldl (fun out b => b.2.foldl withL out) ((toL b.2).foldl withL r) := by
      simp only [toT, List.map_cons, List.foldl_cons, toB]
    rw [e, mem_ids, mem_foldl_withL toL_fit, or_assoc]
    simp
theorem unionTo_bit {t : List (Int × BS)} {k : Nat} : ∀ n, (unionTo t n).getLsbD k = true ↔ ∃ i, i < n ∧ (bg t i).2.getLsbD k = true
  | 0 => by simp [unionTo]
  | n + 1 => by
    rw [unionTo, BitVec.getLsbD_or, Bool.or_eq_true, unionTo_bit n]
    constructor
    · rintro (⟨i, h1, h2⟩ | h)
      · exact ⟨i, by omega, h2⟩
      · exact ⟨n, by omega, h⟩
    · rintro ⟨i, h1, h2⟩
      by_cases hi : i = n
      · subst hi; exact .inr h2
      · exact .inl ⟨i, by omega, h2⟩
theorem union_ids (t : List (Int × BS)) : unionTo t t.length = (idsR (toT t)).foldl ins 0 := by
  refine set_ext fun k hk => ?_
  have hz : (0 : BS).getLsbD k = false := BitVec.getLsbD_zero
  rw [unionTo_bit, foldl_ins_bit k hk, idsR, hz, Bool.false_or, decide_eq_true_eq, mem_ids]
  constructor
  · rintro ⟨i, h1, h2⟩
    exact .inr ⟨bg t i, List.mem_of_getElem? (bg_get h1), (toL_mem hk).2 h2⟩
  · rintro (h | ⟨b, hb, h⟩)
    · cases h
    · obtain ⟨i, hi⟩ := List.mem_iff_getElem?.1 hb
      have hlt := (List.getElem?_eq_some_iff.1 hi).1
      refine ⟨i, hlt, ?_⟩
      rw [bg_get hlt] at hi
      cases hi
      exact (toL_mem hk).1 h
theorem adh_shared {t : List (Int × BS)} (V : Vals (toT t)) {i : Nat} (hi : i < t.length) : bagF (frM t) (i : Int) &&& bagF (frM t) (parF (frM t) (i : Int)) = (sharedR (toT t) i).foldl ins 0 := by
  have hr := V.range i (by rw [toT_len]; exact hi)
  rw [toT_up hi, toT_len] at hr
  have hin : inT (frM t).1 (i : Int) = true := by show inT t _ = true; simp [inT, hi]
  have hb : bagF (frM t) (i : Int) = (bg t i).2 := by rw [bagF, hin, Int.toNat_natCast]; rfl
  have hp : parF (frM t) (i : Int) = (bg t i).1 := by rw [parF, hin, Int.toNat_natCast]; rfl
  rw [hb, hp, sharedR, toT_up hi]
  by_cases hu : (bg t i).1 < 0
  · have hin2 : inT (frM t).1 (bg t i).1 = false := by show inT t _ = false; simp [inT]; omega
    rw [if_pos hu, bagF, hin2]; simp
  · obtain ⟨p, hp⟩ : ∃ p : Nat, (bg t i).1 = (p : Int) := ⟨(bg t i).1.toNat, by omega⟩
    have hpl : p < t.length := by omega
    have hin2 : inT (frM t).1 (p : Int) = true := by show inT t _ = true; simp [inT, hpl]
    have hb2 : bagF (frM t) (p : Int) = (bg t p).2 := by rw [bagF, hin2, Int.toNat_natCast]; rfl
    rw [if_neg hu, hp, hb2, Int.toNat_natCast, toT_hs hi, toT_hs hpl]
    refine set_ext fun k hk => ?_
    have hz : (0 : BS).getLsbD k = false := BitVec.getLsbD_zero
    rw [BitVec.getLsbD_and, foldl_ins_bit k hk, hz, Bool.false_or, decide_eq_true_eq, Bool.and_eq_true, List.mem_filter]
    have h1 := toL_mem (S := (bg t i).2) hk
    have h2 : hasL (toL (bg t p).2) (k : Int) = true ↔ (bg t p).2.getLsbD k = true := by rw [hasL, decide_eq_true_eq]; exact toL_mem hk
    exact ⟨fun h => ⟨h1.2 h.1, h2.2 h.2⟩, fun h => ⟨h1.1 h.1, h2.1 h.2⟩⟩
theorem root_fm (t : List (Int × BS)) : fstB (fun b => decide (b.1 < 0)) t = rootR (toT t) := by
  rw [fstB, rootR, toT_len]
  exact fstN_congr fun i hi => by rw [toT_up hi]
theorem new_hs {t : List (Int × BS)} (h : newR (toT t) = 0) : ∀ i, i < (toT t).length → (hs (toT t) i).length ≤ 4 := by
  by_cases hc : chkR (toT t) = 0
  · rw [newR, if_neg (Classical.not_not.2 hc)] at h
    by_cases h4 : ∀ i, i < (toT t).length → (hs (toT t) i).length ≤ 4
    · exact h4
    · rw [if_neg h4] at h; cases h
  · rw [newR, if_pos hc] at h
    exact absurd h hc

end Go.Mono

set_option linter.unusedVariables false
set_option linter.unusedSimpArgs false
namespace Go.Mono
open Go Go.RowKit
theorem bslO1 {P : Program} {w0 : World} {L : Env} {dst : Option Tmp} {ty : TypeId} {pos : String} {aft : Array Edge} {g : Option (Nat × Bool)} {t te : TypeId} {x : Operand} {B : Nat} {G : Nat → Prop} {z : Int} {bz : Nat} {z0 : Value} (ht : P.underlying t = some (.slice te)) (hi : (P.info? te).map (fun i => (i.zero, i.size, i.bytes)) = some (some z0, 1, bz)) (hz0 : z0.cells.size = 1)
    (hx : opd L x = some (E (.int .i64 z))) (hB : B ≤ w0.heap.size) (hG : ∀ b, G b → b < B) : OpC P w0 L ⟨dst, .buildSlice t 1 #[(0, x)], ty, pos, aft, g⟩ (OwA intE te B G [z]) := by
  refine ⟨fun ρ w he hv => ?_⟩
  have hxv := opE hv (x := x) (by simp [Op.operands]) hx
  obtain ⟨it, hit, hiz, hsz, _⟩ := info_parts hi
  have hfl := fill_seq (k := 1) [Value.int .i64 z] [[Value.int .i64 z]] 0 [] ((Array.range (1 * 1)).map (z0.cells[· % z0.cells.size]!)) rfl (by simp) (by simp) (by simp) (by simp)
  have hr := run_buildSlice (P := P) w t te 1 #[(0, .int .i64 z)] #[.int .i64 z] it z0 ht hit hiz (by rw [hsz]; omega) (by rw [hsz]; omega) (by rw [hsz]; exact hfl)
  have hrun : (execOp ρ ⟨dst, .buildSlice t 1 #[(0, x)], ty, pos, aft, g⟩).run P w = .ok (.value (.slice (some ⟨w.heap.size, 0, none⟩) 1 1)) (w.alloc (.cells #[.int .i64 z] te)) := by
    simp only [execOp, Sem.run_bind, List.map_toArray, List.map_cons, List.map_nil, hxv, hr, Result.andThen_ok, Sem.run_pure]
  simp only [OpR, hrun]
  have hx := ext_alloc w (.cells #[.int .i64 z] te)
  have hBw : B ≤ w.heap.size := Nat.le_trans hB he.size
  refine ⟨hx, ⟨[.int .i64 z], ⟨rfl, .inr ⟨w.heap.size, 1, #[.int .i64 z], rfl, hBw, blk_alloc w _ _, Nat.le_refl _, by decide, rfl, rfl⟩⟩, ⟨[.int .i64 z], [], rfl, rfl, rfl⟩⟩, hG, Nat.le_trans hBw hx.size⟩
theorem OwR.slN {α : Type} {e : Enc α} [FlE e] {ty : TypeId} {B : Nat} {G N : Nat → Prop} {w : World} {xs : List α} {v : Value} (h : OwR e ty B G w xs v) (hN : ∀ b, v.ownBlock = some b → ¬N b) : (Dv (slE e) N xs).p v w := by
  obtain ⟨cs, h1, h2⟩ := h.own
  refine Dv.sl.2 ?_
  rcases h1.2 with ⟨hv, hn⟩ | ⟨g, cap, cur, hv, hB, hg, hn, hm, hs, ht⟩
  · exact .inl ⟨hv, List.eq_nil_of_length_eq_zero hn⟩
  · exact .inr ⟨_, cap, cs, hv, hn, hN g (by rw [hv]; rfl), (Array.getElem?_eq_some_iff.1 hg).1, Cells.fl h2, h1.cells (by rw [hv]; rfl)⟩
end Go.Mono

set_option linter.unusedVariables false
set_option linter.unusedSimpArgs false
namespace Go.Mono
open Go Go.RowKit
section tail
variable {P : Program} {L : Env} {ty : TypeId} {pos : String} {aft : Array Edge} {r : Option Nat} {ds : List Deferred}
variable {ops : Array Oper} {rest : List Oper} {Q : Exit → Act → World → Prop} {n : Nat} {a : Act} {w : World} {x y : Operand}
/-- a store of a struct into a part of a block -/
theorem tl_stP {t bt : TypeId} {b off s : Nat} {cs new : Array Value} (ht : TI P t true s) (hf : FrD n ds a w L) [hL : AvL b L] (hx : opd L x = some (E (.pointer (some ⟨b, off, none⟩)))) (hy : opd L y = some (E (.agg new))) (h1 : new.all (·.oneCell') = true)
    (hb : Blk w b cs bt) (hn : new.size = s) (ho : off + s ≤ cs.size) (k : ∀ w', w.grownBy w' (some b) → w'.heap.size = w.heap.size → Blk w' b (cs.toList.take off ++ new.toList ++ cs.toList.drop (off + s)).toArray bt → FrD n ds a w' L → wpListIn (FW r) 0 P ops Q rest a w') :
    wpListIn (FW r) 0 P ops Q (⟨none, .store t x y, ty, pos, aft, none⟩ :: rest) a w :=
  wpListIn_plain rfl fun K hK => by
    have hxv : a.eval x = .pointer (some ⟨b, off, none⟩) := hf.opd x _ hx
    have hyv : a.eval y = .agg new := hf.opd y _ hy
    have hrun := run_storeCells_at (P := P) b off bt new.toList 0 cs w hb (by simp; omega) (fun v hv => by rw [Array.all_eq_true_iff_forall_mem] at h1; exact h1 v (by simpa using hv))
    simp only [Nat.add_zero, Array.length_toList, hn] at hrun
    have hc : (Value.agg new).cells = new := rfl
    refine OpR.wp (R := fun _ w' => w' = w.setRow b (cs.toList.take off ++ new.toList ++ cs.toList.drop (off + s)).toArray) ?_ ?_
    · simp [OpR, execOp, Instr.storeAt, Instr.sureAddr, hxv, hyv, storeVar, hc, ht.size, hn, hrun]
    · rintro _ w' rfl
      exact hK _ _ (k _ (grownBy_setRow _ _ _) (by simp) (setRow_heap _ _ _ _ _ _ hb) (hf.gr (grownBy_setRow _ _ _)))
end tail
section
variable {P : Program} {w0 : World} {L : Env} {dst : Option Tmp} {ty : TypeId} {pos : String} {aft : Array Edge} {α : Type} {e : Enc α}
/-- append to a slice whose blocks all lie behind N -/
theorem xappZ {x y : Operand} {t te : TypeId} {z0 : Value} {sz bz N : Nat} {G : Nat → Prop} {F : World → Prop} {xs ys : List α} (ht : P.underlying t = some (.slice te)) (hi : (P.info? te).map (fun i => (i.zero, i.size, i.bytes)) = some (some z0, sz, bz)) (hsz : sz = e.k) (hz0 : z0.cells.size = e.k)
    (hx : opd L x = some (OwA e te N G xs)) (hy : ∀ v ρy w, Ext w0 w → OwR e te N G w xs v → (∀ B, opd L y = some B → B.p ρy w) → (Dv (slE e) (GO G v) ys).p ρy w) (hb : (xs.length + ys.length) * bz ≤ 140737488355328) (h63 : xs.length + ys.length ≤ maxLen) (hF : ∀ w, F w) :
    XOpZ P w0 (fun b => N ≤ b) F L ⟨dst, .call ⟨.builtin .append, #[x, y], #[t, t]⟩, ty, pos, aft, none⟩ (OwA e te N G (xs ++ ys)) := by
  refine ⟨fun ρ w he hv => ?_⟩
  have ho : OwR e te N G w xs (ρ x) := hv x (by simp [Op.operands, Call.operands]) _ hx
  have hyv := hy (ρ x) (ρ y) w he ho (fun B hB => hv y (by simp [Op.operands, Call.operands]) _ hB)
  obtain ⟨v', w', h1, h2, h3, h4⟩ := run_appD (P := P) (ty := ty) ht hi hsz hz0 ho hyv h63 hb
  simp only [OpR, execOp, resolve, invoke, builtin, Sem.run_bind, Sem.run_pure, Result.andThen_ok, List.map_toArray, List.map_cons, List.map_nil, h1]
  refine ⟨⟨h3.os, h3.tape, h3.output, h3.size, fun b hb hS => h3.block b hb fun hbb => hS (ho.lt hbb.symm).1⟩, h2, hF _⟩
end
/-- append where the elements stand in their own cells alone: where the new ones come from does not matter -/
theorem run_appF {P : Program} {ty : TypeId} {α : Type} {e : Enc α} [FlE e] {G G' : Nat → Prop} {w : World} {xs ys : List α} {v : Value} {t te : TypeId} {z0 : Value} {sz bz B : Nat} (ht : P.underlying t = some (.slice te)) (hi : (P.info? te).map (fun i => (i.zero, i.size, i.bytes)) = some (some z0, sz, bz)) (hsz : sz = e.k) (hz0 : z0.cells.size = e.k)
    (ho : OwR e te B G w xs v) {u : Value} (hy : (Dv (slE e) G' ys).p u w) (h63 : (xs.length + ys.length) ≤ maxLen) (hb : (xs.length + ys.length) * bz ≤ 140737488355328) :
    ∃ v' w', (Builtin.append_ #[t, t] ty #[v, u]).run P w = .ok v' w' ∧ OwR e te B G w' (xs ++ ys) v' ∧ w.grownBy w' v.ownBlock ∧ (v'.ownBlock = v.ownBlock ∨ v'.ownBlock = some w.heap.size) := by
  obtain ⟨it, hit, hiz, hsz', hbz⟩ := info_parts hi
  subst hsz
  obtain ⟨cs, h1, h2⟩ := ho.own
  rcases Dv.sl.1 hy with ⟨rfl, rfl⟩ | ⟨ad, cap, ds', rfl, _, h3, h4, h5, h6⟩
  · refine ⟨v, w, run_append_owned_none w B t ty te it e.k ht hit v _ cs h1, by simpa using ho, ⟨rfl, rfl, rfl, Nat.le_refl _, fun _ _ _ => rfl⟩, .inl rfl⟩
  · obtain ⟨v', w', h7, h8, h9, _, h10⟩ := run_append_own_at (P := P) w B t ty te it z0 e.k bz ht hit hiz hsz' hbz hz0 e.pos v _ cs h1 ad ys.length cap ds' h5.len h6 h5.one h63 hb ho.base
    exact ⟨v', w', h7, ⟨⟨cs ++ ds', by simpa using h8, (Cells.fl h2).app (Cells.fl h5)⟩, ho.av, Nat.le_trans ho.base h9.size⟩, h9, h10⟩
/-- .. at the end of a region that draws its order -/
theorem xappF {P : Program} {w0 : World} {L : Env} {dst : Option Tmp} {ty : TypeId} {pos : String} {aft : Array Edge} {α : Type} {e : Enc α} [FlE e] {x y : Operand} {t te : TypeId} {z0 : Value} {sz bz N : Nat} {G G' : Nat → Prop} {F : World → Prop} {xs ys : List α} (ht : P.underlying t = some (.slice te)) (hi : (P.info? te).map (fun i => (i.zero, i.size, i.bytes)) = some (some z0, sz, bz)) (hsz : sz = e.k) (hz0 : z0.cells.size = e.k)
    (hx : opd L x = some (OwA e te N G xs)) (hy : Is L w0 y (Dv (slE e) G' ys)) (hb : (xs.length + ys.length) * bz ≤ 140737488355328) (h63 : xs.length + ys.length ≤ maxLen) (hF : ∀ w w', Chg (fun b => N ≤ b) w w' → F w → F w') (hF0 : ∀ w, Ext w0 w → F w) :
    XOpZ P w0 (fun b => N ≤ b) F L ⟨dst, .call ⟨.builtin .append, #[x, y], #[t, t]⟩, ty, pos, aft, none⟩ (OwA e te N G (xs ++ ys)) := by
  refine ⟨fun ρ w he hv => ?_⟩
  have ho : OwR e te N G w xs (ρ x) := hv x (by simp [Op.operands, Call.operands]) _ hx
  have hyv := hy.v he hv (by simp [Op.operands, Call.operands])
  obtain ⟨v', w', h1, h2, h3, h4⟩ := run_appF (P := P) (ty := ty) ht hi hsz hz0 ho hyv h63 hb
  simp only [OpR, execOp, resolve, invoke, builtin, Sem.run_bind, Sem.run_pure, Result.andThen_ok, List.map_toArray, List.map_cons, List.map_nil, h1]
  have hc : Chg (fun b => N ≤ b) w w' := ⟨h3.os, h3.tape, h3.output, h3.size, fun b hb hS => h3.block b hb fun hbb => hS (ho.lt hbb.symm).1⟩
  exact ⟨hc, h2, hF _ _ hc (hF0 w he)⟩
end Go.Mono

set_option linter.unusedVariables false
set_option linter.unusedSimpArgs false
namespace Go.Mono
open Go Go.Proofs Go.RowKit

theorem bag_fields : (Tryz.prog.fieldsOf 69).toList = [⟨"Parent", 3, 0, false, "", "", 0⟩, ⟨"Vertices", 67, 1, false, "", "", 8⟩] := by kernel_rfl
theorem bag_stood : Tryz.prog.stoodInHeld 69 = false := by kernel_rfl
theorem bag_guard : Tryz.prog.eqGuardType Tryz.prog.depth 69 = false := by kernel_rfl
theorem bag_struct : Tryz.prog.underlying 69 = some (.struct (Tryz.prog.fieldsOf 69)) := by kernel_rfl
theorem eqFields_two {P : Program} {w : World} {d : Nat} {xs ys : Array Value} {f0 f1 : Field} {x0 y0 x1 y1 : Value} {r0 r1 : Bool} (n0 : f0.name ≠ "_") (n1 : f1.name ≠ "_")
    (p0 : (part f0.type xs f0.offset).run P w = .ok x0 w) (q0 : (part f0.type ys f0.offset).run P w = .ok y0 w) (h0 : (Op.equalIn d f0.type x0 y0).run P w = .ok r0 w)
    (p1 : (part f1.type xs f1.offset).run P w = .ok x1 w) (q1 : (part f1.type ys f1.offset).run P w = .ok y1 w) (h1 : (Op.equalIn d f1.type x1 y1).run P w = .ok r1 w) :
    (Op.eqFields d xs ys [f0, f1]).run P w = .ok (r0 && r1) w := by
  rw [Op.eqFields]
  simp only [n0, if_true, ne_eq, not_false_eq_true, Sem.run_bind, Result.andThen_ok, p0, q0, h0]
  cases r0
  · rfl
  · rw [if_neg (by decide), Op.eqFields]
    simp only [n1, if_true, ne_eq, not_false_eq_true, Sem.run_bind, Result.andThen_ok, p1, q1, h1]
    cases r1
    · rfl
    · rw [if_neg (by decide), Op.eqFields]; rfl
theorem bag_p0 (w : World) (c : Int × BS) : (part 3 (bagC c) 0).run Tryz.prog w = .ok (I c.1) w := by
  simp [part, T3.agg w, bagC]
theorem bag_p1 (w : World) (c : Int × BS) : (part 67 (bagC c) 1).run Tryz.prog w = .ok (setV c.2) w := by
  have := bagC_1 c
  simp only [Nat.zero_add] at this
  simp [part, T67.agg w, T67.size w]
  exact this
theorem bag_q1 (w : World) (x y : BS) : (Op.equalIn 9999 67 (setV x) (setV y)).run Tryz.prog w = .ok (x == y) w := by
  rw [← all_setC]
  exact run_equalIn_words Tryz.underlying67 Tryz.underlying65 T65 9997 (word x) (word y) w
theorem bag_decide (a b : Int × BS) : (a.1 == b.1 && a.2 == b.2) = decide (a = b) := by
  obtain ⟨a1, a2⟩ := a
  obtain ⟨b1, b2⟩ := b
  by_cases h1 : a1 = b1
  · by_cases h2 : a2 = b2
    · rw [decide_eq_true (by rw [h1, h2])]; simp [h1, h2]
    · rw [decide_eq_false (fun h => h2 (Prod.mk.inj h).2)]; simp [h2]
  · rw [decide_eq_false (fun h => h1 (Prod.mk.inj h).1)]; simp [h1]
theorem run_equal_bag (a b : Int × BS) (w : World) : (Op.equalIn 10000 69 (bagV a) (bagV b)).run Tryz.prog w = .ok (decide (a = b)) w := by
  rw [run_equalIn_struct w 9999 _ _ _ bag_struct bag_stood, bag_fields, ← bag_decide]
  exact eqFields_two (by decide) (by decide) (bag_p0 w a) (bag_p0 w b) (run_equalIn_int w 9998 3 .i64 .i64 a.1 b.1 Tryz.underlying3) (bag_p1 w a) (bag_p1 w b) (bag_q1 w a.2 b.2)

theorem neqBag {w0 : World} {L : Env} {dst : Option Tmp} {ty : TypeId} {pos : String} {aft : Array Edge} {g : Option (Nat × Bool)} {x y : Operand} {yt : TypeId} {a b : Int × BS} (hx : opd L x = some (E (bagV a))) (hy : opd L y = some (E (bagV b))) :
    OpC Tryz.prog w0 L ⟨dst, .binOp .neq 69 x y yt, ty, pos, aft, g⟩ (E (.bool (!decide (a = b)))) :=
  opc_neq hx hy (fun w => eqGuard_agg _ _ _ _ _ _ bag_guard w) rfl fun w _ => run_equal_bag a b w

theorem sEqual_spec {G : Nat → Prop} (s t : List (Int × BS)) (v u : Value) (W : World) (h : (Dv treeE G s).p v W) (h' : (Dv treeE G t).p u W) (hl : s.length ≤ 4096) :
    Calls Tryz.prog 133 #[v, u] W (Post (E (B (decide (s = t)))) W) := by
  refine enter (args := [v, u]) (As := [Dv treeE G s, Dv treeE G t]) Tryz.func133 rfl Tryz.ntmps133 (Nat.le_of_ble_eq_true rfl) ?_ (fun a hf => ?_) (Nat.le_of_ble_eq_true rfl)
  rotate_left
  dsimp only [params, Nat.reduceAdd] at hf
  rotate_right
  · exact arg2 h h'
  have e := Ext.rfl' W
  repeat refine seq ?_
  refine regn0 ?_
  refine tl_as hf rfl (by decide) fun a hf => ?_
  refine tl_nil ?_
  repeat refine seq ?_
  refine regn 5 hf (by decide +kernel) ?_
  refine st (mv rfl) ?_
  refine st (lenD Tryz.underlying23 (isR rfl)) ?_
  refine st (mv rfl) ?_
  refine st (lenD Tryz.underlying23 (isR rfl)) ?_
  refine st (neq rfl rfl) ?_
  refine en fun a w e' hf => ?_
  replace e := Ext.tr e e'
  clear e'
  refine tl_nil ?_
  repeat refine seq ?_
  refine ifc hf rfl (fun hb => ?_) (fun hb => ?_)
  · have hb' : ¬ s.length = t.length := by
      have : ((s.length : Nat) : Int) ≠ (t.length : Nat) := by simpa using hb
      omega
    repeat refine seq ?_
    refine regn0 ?_
    refine tl_as hf rfl (by decide) fun a hf => ?_
    refine tl_nil ?_
    refine wret ?_
    try simp only [Exit.then, Exit.inBlock]
    refine ret1 rfl hf rfl ?_
    rintro _ rfl
    exact ⟨_, rfl, e, congrArg B (decide_eq_false fun h => hb' (by rw [h])).symm⟩
  · have hb' : s.length = t.length := by
      have : ((s.length : Nat) : Int) = (t.length : Nat) := by simpa using hb
      omega
    refine wskip ?_
    try simp only [Exit.then, Exit.inBlock, ↓reduceIte]
    repeat refine seq ?_
    refine regn 3 hf (by decide +kernel) ?_
    refine st (mv rfl) ?_
    refine st (lenD Tryz.underlying23 (isR rfl)) ?_
    refine st (mv rfl) ?_
    refine en fun a w e' hf => ?_
    replace e := Ext.tr e e'
    clear e'
    refine tl_nil ?_
    replace hf := hf.keep [0, 1, 12, 13]
    dsimp only [keep, List.filterMap, look, Nat.beq, Option.map] at hf
    repeat refine seq ?_
    refine blk (loopN (fun r0 a w => ∃ (k : Nat) , r0 = s.length - k ∧ k ≤ s.length ∧ Fr 26 a w [(0, Dv treeE G s), (1, Dv treeE G t), (12, E (I (s.length : Nat))), (13, E (I k))] ∧ Ext W w ∧ s.take k = t.take k) s.length ⟨0, rfl, by omega, hf, e, rfl⟩ ?_)
    clear hf e; try clear Ho
    rintro r0 a w ⟨k, rfl, hk, hf, e, Ho⟩
    repeat refine seq ?_
    refine regn 1 hf (by decide +kernel) ?_
    refine st (lss rfl rfl) ?_
    refine en fun a w e' hf => ?_
    replace e := Ext.tr e e'
    clear e'
    refine tl_nil ?_
    repeat refine seq ?_
    refine ifc hf rfl (fun hc => wskip ?_) (fun hc => wexit ?_)
    rotate_left
    rotate_left
    · have hlt : k < s.length := by have := of_decide_eq_true hc; (try dsimp only at this); omega
      clear hc
      replace hf := hf.keep [0, 1, 12, 13]
      dsimp only [keep, List.filterMap, look, Nat.beq, Option.map] at hf
      repeat refine seq ?_
      refine blk ?_
      have g1 := bg_get hlt
      have g2 := bg_get (t := t) (i := k) (by omega)
      repeat refine seq ?_
      refine regn 1 hf (by decide +kernel) ?_
      refine st (mv rfl) ?_
      refine en fun a w e' hf => ?_
      replace e := Ext.tr e e'
      clear e'
      refine tl_as hf rfl (by decide) fun a hf => ?_
      refine tl_nil ?_
      repeat refine seq ?_
      refine reg 9 Mix.mix hf (by decide +kernel) ?_
      refine st (mv rfl) ?_
      refine st (mv rfl) ?_
      refine st (idxD Tryz.underlying23 S69 (isR rfl) rfl (by omega) (g1)) ?_
      refine st (ldBag T69 (isR rfl)) ?_
      refine st (mv rfl) ?_
      refine st (mv rfl) ?_
      refine st (idxD Tryz.underlying23 S69 (isR rfl) rfl (by omega) (g2)) ?_
      refine st (ldBag T69 (isR rfl)) ?_
      refine st (neqBag rfl rfl) ?_
      refine en fun a w e' hf => ?_
      replace e := Ext.tr e e'
      clear e'
      refine tl_nil ?_
      repeat refine seq ?_
      refine ifc hf rfl (fun hb => ?_) (fun hb => ?_)
      · have hb2 : ¬ bg s k = bg t k := by simpa using hb
        repeat refine seq ?_
        refine regn0 ?_
        refine tl_as hf rfl (by decide) fun a hf => ?_
        refine tl_nil ?_
        refine wret ?_
        try simp only [Exit.then, Exit.inBlock]
        refine ret1 rfl hf rfl ?_
        rintro _ rfl
        exact ⟨_, rfl, e, congrArg B (decide_eq_false fun h => hb2 (by rw [h])).symm⟩
      · have hb2 : bg s k = bg t k := by simpa using hb
        refine wskip ?_
        try simp only [Exit.then, Exit.inBlock, ↓reduceIte]
        try simp only [Exit.then, Exit.inBlock, ↓reduceIte]
        repeat refine seq ?_
        refine regn 1 hf (by decide +kernel) ?_
        refine st ((add rfl rfl (by omega)).eq (congrArg (Value.int .i64) (show (k : Int) + 1 = ((k + 1 : Nat) : Int) from rfl))) ?_
        refine en fun a w e' hf => ?_
        replace e := Ext.tr e e'
        clear e'
        refine tl_op hf (by decide) (mv rfl) fun a w e' hf => ?_
        replace e := Ext.tr e e'
        clear e'
        refine tl_nil ?_
        replace hf := hf.keep [0, 1, 12, 13]
        dsimp only [keep, List.filterMap, look, Nat.beq, Option.map] at hf
        refine ⟨_, ?_, k + 1, rfl, by omega, hf, e, ?_⟩
        · omega
        rw [take_succ_get g1, take_succ_get g2, Ho, hb2]
    · obtain rfl : k = s.length := by have := of_decide_eq_false hc; (try dsimp only at this); omega
      clear hc
      simp only [Exit.then, Exit.inBlock, ↓reduceIte]
      have heq : s = t := by rw [List.take_length, hb', List.take_length] at Ho; exact Ho
      repeat refine seq ?_
      refine regn0 ?_
      refine tl_as hf rfl (by decide) fun a hf => ?_
      refine tl_nil ?_
      refine wret ?_
      try simp only [Exit.then, Exit.inBlock]
      refine ret1 rfl hf rfl ?_
      rintro _ rfl
      exact ⟨_, rfl, e, congrArg B (decide_eq_true heq).symm⟩

theorem tEqual_spec {G : Nat → Prop} (s t : List (Int × BS)) (v u : Value) (W : World) (h : (Dv treeE G s).p v W) (h' : (Dv treeE G t).p u W) (hl : s.length ≤ 4096) :
    Calls Tryz.prog 82 #[v, u] W (Post (E (B (decide (s = t)))) W) := by
  refine enter (args := [v, u]) (As := [Dv treeE G s, Dv treeE G t]) Tryz.func82 rfl Tryz.ntmps82 (Nat.le_of_ble_eq_true rfl) ?_ (fun a hf => ?_) (Nat.le_of_ble_eq_true rfl)
  rotate_left
  dsimp only [params, Nat.reduceAdd] at hf
  rotate_right
  · exact arg2 h h'
  have e := Ext.rfl' W
  repeat refine seq ?_
  refine regn0 ?_
  refine tl_as hf rfl (by decide) fun a hf => ?_
  refine tl_nil ?_
  repeat refine seq ?_
  refine regn 3 hf (by decide +kernel) ?_
  refine st (mv rfl) ?_
  refine st (mv rfl) ?_
  refine st (call2 En133 rfl rfl (fun v u w he h h' => sEqual_spec s t v u w h h' hl)) ?_
  refine en fun a w e' hf => ?_
  replace e := Ext.tr e e'
  clear e'
  refine tl_as hf rfl (by decide) fun a hf => ?_
  refine tl_nil ?_
  refine wret ?_
  try simp only [Exit.then, Exit.inBlock]
  refine ret1 rfl hf rfl ?_
  rintro _ rfl
  exact ⟨_, rfl, e, rfl⟩

theorem fEqual_spec {G : Nat → Prop} (F F' : Fm) (v u : Value) (W : World) (h : (Dv (ptE frE) G (some F)).p v W) (h' : (Dv (ptE frE) G (some F')).p u W) (hl : F.1.length ≤ 4096) :
    Calls Tryz.prog 28 #[v, u] W (Post (E (B (decide (F.1 = F'.1)))) W) := by
  refine enter (args := [v, u]) (As := [Dv (ptE frE) G (some F), Dv (ptE frE) G (some F')]) Tryz.func28 rfl Tryz.ntmps28 (Nat.le_of_ble_eq_true rfl) ?_ (fun a hf => ?_) (Nat.le_of_ble_eq_true rfl)
  rotate_left
  dsimp only [params, Nat.reduceAdd] at hf
  rotate_right
  · exact arg2 h h'
  have e := Ext.rfl' W
  repeat refine seq ?_
  refine regn0 ?_
  refine tl_as hf rfl (by decide) fun a hf => ?_
  refine tl_nil ?_
  repeat refine seq ?_
  refine regn 6 hf (by decide +kernel) ?_
  refine st (mv rfl) ?_
  refine st (eqlP Tryz.underlying27 (isR rfl)) ?_
  refine st (mv rfl) ?_
  first | refine sn rfl rfl rfl ?_ | refine su rfl rfl ?_ | refine sy rfl rfl (mv rfl) ?_
  first | refine sn rfl rfl rfl ?_ | refine su rfl rfl ?_ | refine sy rfl rfl (eqlP Tryz.underlying27 (isR rfl)) ?_
  first | refine st (pkT rfl rfl) ?_ | refine st (pkF rfl rfl) ?_ | refine st (pk rfl rfl rfl) ?_
  refine en fun a w e' hf => ?_
  replace e := Ext.tr e e'
  clear e'
  refine tl_nil ?_
  repeat refine seq ?_
  refine ifc hf rfl (fun h => by cases h) (fun _ => ?_)
  refine wskip ?_
  try simp only [Exit.then, Exit.inBlock, ↓reduceIte]
  repeat refine seq ?_
  refine reg 9 Mix.mix hf (by decide +kernel) ?_
  refine st (mv rfl) ?_
  refine st (nilC (isR rfl)) ?_
  refine st (fldD Tryz.underlying99 rfl T23 (by decide) (Fld.fst Fld.refl) (isR rfl)) ?_
  refine st (ldD T23 (isR rfl)) ?_
  refine st (mv rfl) ?_
  refine st (nilC (isR rfl)) ?_
  refine st (fldD Tryz.underlying99 rfl T23 (by decide) (Fld.fst Fld.refl) (isR rfl)) ?_
  refine st (ldD T23 (isR rfl)) ?_
  refine st (call2 En82 rfl rfl (fun v u w he h h' => tEqual_spec F.1 F'.1 v u w h h' hl)) ?_
  refine en fun a w e' hf => ?_
  replace e := Ext.tr e e'
  clear e'
  refine tl_as hf rfl (by decide) fun a hf => ?_
  refine tl_nil ?_
  refine wret ?_
  try simp only [Exit.then, Exit.inBlock]
  refine ret1 rfl hf rfl ?_
  rintro _ rfl
  exact ⟨_, rfl, e, rfl⟩

theorem fbagsO_spec {G : Nat → Prop} (Bz : Nat) (F : Fm) (v : Value) (W : World) (h : (Dv (ptE frE) G (some F)).p v W) (hl : F.1.length ≤ 4096) (hB : Bz ≤ W.heap.size) :
    Calls Tryz.prog 21 #[v] W (Post (OwA bagE 69 Bz Go.Mono.G0 F.1) W) := by
  refine enter (args := [v]) (As := [Dv (ptE frE) G (some F)]) Tryz.func21 rfl Tryz.ntmps21 (Nat.le_of_ble_eq_true rfl) ?_ (fun a hf => ?_) (Nat.le_of_ble_eq_true rfl)
  rotate_left
  dsimp only [params, Nat.reduceAdd] at hf
  rotate_right
  · exact arg1 h
  have e := Ext.rfl' W
  repeat refine seq ?_
  refine regn0 ?_
  refine tl_as hf rfl (by decide) fun a hf => ?_
  refine tl_nil ?_
  repeat refine seq ?_
  refine regn 2 hf (by decide +kernel) ?_
  refine st (mv rfl) ?_
  refine st (eqlP Tryz.underlying27 (isR rfl)) ?_
  refine en fun a w e' hf => ?_
  replace e := Ext.tr e e'
  clear e'
  refine tl_nil ?_
  repeat refine seq ?_
  refine ifc hf rfl (fun h => by cases h) (fun _ => ?_)
  refine wskip ?_
  try simp only [Exit.then, Exit.inBlock, ↓reduceIte]
  repeat refine seq ?_
  refine regn 5 hf (by decide +kernel) ?_
  refine st (mv rfl) ?_
  refine st (nilC (isR rfl)) ?_
  refine st (fldD Tryz.underlying99 rfl T23 (by decide) (Fld.fst Fld.refl) (isR rfl)) ?_
  refine st (ldD T23 (isR rfl)) ?_
  refine st (call1 (A := OwA bagE 69 Bz Go.Mono.G0 F.1) En59 rfl (fun v w he h => treeCloneO_spec Bz F.1 v w h hl (Nat.le_trans hB (Nat.le_trans e.size he.size)))) ?_
  refine en fun a w e' hf => ?_
  replace e := Ext.tr e e'
  clear e'
  refine tl_as hf rfl (by decide) fun a hf => ?_
  refine tl_nil ?_
  refine wret ?_
  try simp only [Exit.then, Exit.inBlock]
  refine ret1 rfl hf rfl ?_
  intro v hv
  exact ⟨_, rfl, e, hv⟩
end Go.Mono

set_option linter.unusedVariables false
set_option linter.unusedSimpArgs false
namespace Go.Mono
open Go Go.Proofs Go.RowKit

/-- a row of bags, of which f tells the first n -/
structure BR (n : Nat) (f : Nat → Int × BS) (cap : Nat) (cur : Array Value) : Prop where
  size : cur.size = cap * 17
  le : n ≤ cap
  el : ∀ i, i < n → ∀ j, j < 17 → cur[i * 17 + j]? = (bagC (f i))[j]?
theorem BR.up {n cap : Nat} {f : Nat → Int × BS} {cur : Array Value} (h : BR n f cap cur) {i : Nat} (hi : i < n) : cur[0 + ((i : Nat) : Int).toNat * 17 + 0]? = some (I (f i).1) := by
  rw [Int.toNat_natCast, Nat.zero_add, h.el i hi 0 (by omega)]; rfl
theorem BR.bag {n cap : Nat} {f : Nat → Int × BS} {cur : Array Value} (h : BR n f cap cur) {i : Nat} (hi : i < n) : Value.agg (cur.extract (0 + ((i : Nat) : Int).toNat * 17) (0 + ((i : Nat) : Int).toNat * 17 + 17)) = bagV (f i) := by
  refine congrArg Value.agg (Array.ext_getElem? fun j => ?_)
  have hs := h.size
  have hl := h.le
  rw [Int.toNat_natCast, Nat.zero_add, Array.getElem?_extract]
  split
  · rename_i hj
    exact h.el i hi j (by omega)
  · rename_i hj
    rw [Array.getElem?_eq_none]
    rw [bagC_size]
    omega
theorem BR.setUp {n cap : Nat} {f : Nat → Int × BS} {cur : Array Value} (h : BR n f cap cur) {i : Nat} (hi : i < n) (p : Int) : BR n (fun j => if j = i then (p, (f i).2) else f j) cap (cur.setIfInBounds (0 + ((i : Nat) : Int).toNat * 17 + 0) (I p)) := by
  refine ⟨by simp [h.size], h.le, fun k hk j hj => ?_⟩
  rw [Int.toNat_natCast, Nat.zero_add, Nat.add_zero, Array.getElem?_setIfInBounds]
  have hs := h.size
  have hl := h.le
  by_cases hki : k = i
  · subst hki
    simp only [if_true]
    by_cases h0 : j = 0
    · subst h0
      rw [if_pos (by omega), if_pos (by omega)]; rfl
    · rw [if_neg (by omega), h.el k hk j hj]
      obtain ⟨j, rfl⟩ := Nat.exists_eq_succ_of_ne_zero h0
      simp [bagC]
  · simp only [if_neg hki]
    rw [if_neg (by omega), h.el k hk j hj]
theorem BR.setBag {n cap : Nat} {f : Nat → Int × BS} {cur : Array Value} (h : BR n f cap cur) {i : Nat} (hi : i < n) (x : Int × BS) : BR n (fun j => if j = i then x else f j) cap (cur.toList.take (0 + ((i : Nat) : Int).toNat * 17) ++ (bagC x).toList ++ cur.toList.drop (0 + ((i : Nat) : Int).toNat * 17 + 17)).toArray := by
  have hs := h.size
  have hl := h.le
  have hb : (bagC x).toList.length = 17 := by rw [Array.length_toList, bagC_size]
  have hc : cur.toList.length = cap * 17 := by rw [Array.length_toList, hs]
  rw [Int.toNat_natCast, Nat.zero_add]
  have ht : (cur.toList.take (i * 17)).length = i * 17 := by rw [List.length_take, hc]; omega
  refine ⟨?_, h.le, fun k hk j hj => ?_⟩
  · rw [List.size_toArray, List.length_append, List.length_append, ht, hb, List.length_drop, hc]; omega
  rw [List.getElem?_toArray]
  by_cases hki : k = i
  · subst hki
    simp only [if_true]
    rw [List.append_assoc, List.getElem?_append_right (by omega), ht, List.getElem?_append_left (by omega), show k * 17 + j - k * 17 = j from by omega, Array.getElem?_toList]
  · simp only [if_neg hki]
    rw [← h.el k hk j hj]
    by_cases hlt : k < i
    · rw [List.append_assoc, List.getElem?_append_left (by omega), List.getElem?_take, if_pos (by omega), Array.getElem?_toList]
    · rw [List.getElem?_append_right (by rw [List.length_append, ht, hb]; omega), List.length_append, ht, hb, List.getElem?_drop, Array.getElem?_toList]
      congr 1; omega
theorem bag_cellsD {G : Nat → Prop} {w : World} : ∀ {t : List (Int × BS)} {cs : List Value}, Cells bagE G w t cs → ∀ i, i < t.length → ∀ j, j < 17 → cs[i * 17 + j]? = (bagC (bg t i))[j]?
  | [], cs, h, i, hi, j, hj => by cases hi
  | x :: t, cs, ⟨c, d, h, h1, h2⟩, i, hi, j, hj => by
    obtain ⟨c1, c2, rfl, e1, e2⟩ := h1
    have e1 : c1 = [I x.1] := e1
    have e2 : c2 = (setC x.2).toList := e2
    subst e1; subst e2; subst h
    have hl : ([I x.1] ++ (setC x.2).toList).length = 17 := by simp [setC_size]
    cases i with
    | zero =>
      rw [List.getElem?_append_left (by omega), Nat.zero_mul, Nat.zero_add]
      show _ = (bagC x)[j]?
      simp [bagC]
    | succ i =>
      rw [List.getElem?_append_right (by omega), hl, show (i + 1) * 17 + j - 17 = i * 17 + j from by omega, bag_cellsD h2 i (by simpa using hi) j hj]
      simp [bg]
theorem br_cells {G : Nat → Prop} {n cap : Nat} {f : Nat → Int × BS} {cur : Array Value} {w : World} (h : BR n f cap cur) : ∀ m s, s + m = n → Cells bagE G w ((List.range' s m).map f) ((cur.toList.take (n * 17)).drop (s * 17))
  | 0, s, hs => by
    have : (cur.toList.take (n * 17)).drop (s * 17) = [] := List.drop_eq_nil_of_le (by rw [List.length_take]; omega)
    rw [this]; rfl
  | m + 1, s, hs => by
    rw [List.range'_succ, List.map_cons]
    have hz := h.size
    have hl := h.le
    have hc : cur.toList.length = cap * 17 := by rw [Array.length_toList, hz]
    have hd : (cur.toList.take (n * 17)).drop (s * 17) = ([I (f s).1] ++ (setC (f s).2).toList) ++ (cur.toList.take (n * 17)).drop ((s + 1) * 17) := by
      have hb : ([I (f s).1] ++ (setC (f s).2).toList).length = 17 := by simp [setC_size]
      refine List.ext_getElem? fun j => ?_
      by_cases hj : j < 17
      · rw [List.getElem?_append_left (by omega), List.getElem?_drop, List.getElem?_take, if_pos (by omega), Array.getElem?_toList, h.el s (by omega) j hj]
        simp [bagC]
      · rw [List.getElem?_append_right (by omega), hb, List.getElem?_drop, List.getElem?_drop]
        congr 1; omega
    rw [hd]
    exact ⟨_, _, rfl, ⟨_, _, rfl, rfl, rfl⟩, br_cells h m (s + 1) (by omega)⟩
theorem BR.dv {n cap : Nat} {G : Nat → Prop} {f : Nat → Int × BS} {cur : Array Value} {w : World} {g : Nat} (h : BR n f cap cur) (hb : Blk w g cur 69) (hG : ¬G g) : (Dv treeE G ((List.range n).map f)).p (.slice (some ⟨g, 0, none⟩) n cap) w := by
  have hc := br_cells (G := G) (w := w) h n 0 (Nat.zero_add n)
  rw [Nat.zero_mul, List.drop_zero, ← List.range_eq_range'] at hc
  have hz := h.size
  have hl := h.le
  refine Dv.sl.2 (.inr ⟨⟨g, 0, none⟩, cap, cur.toList.take (n * 17), ?_, by simp; exact hl, hG, hb.lt, hc, fun i u hu => ?_⟩)
  · simp
  · rw [Addr.add_lit, Nat.zero_add, hb.cell i]
    rw [List.getElem?_take] at hu
    split at hu
    · simpa using hu
    · cases hu
/-- the tree without bag b, whose index the last bag takes -/
def detB (t : List (Int × BS)) (b : Nat) (i : Nat) : Int × BS := if i = b then bg t (t.length - 1) else bg t i
def detF (t : List (Int × BS)) (b : Nat) (i : Nat) : Int × BS := if (detB t b i).1 = ((t.length - 1 : Nat) : Int) then ((b : Int), (detB t b i).2) else detB t b i
def detM (t : List (Int × BS)) (b : Nat) : List (Int × BS) := (List.range (t.length - 1)).map (detF t b)
theorem BR.cong {n cap : Nat} {f f' : Nat → Int × BS} {cur : Array Value} (h : BR n f cap cur) (hf : ∀ i, i < n → f i = f' i) : BR n f' cap cur := ⟨h.size, h.le, fun i hi j hj => by rw [h.el i hi j hj, hf i hi]⟩

theorem fremove_ok {G : Nat → Prop} (F : Fm) (b : Nat) (v : Value) (W : World) (hT : Tab W) (h : (Dv (ptE frE) G (some F)).p v W) (hl : F.1.length ≤ 1000) (hn : F.2.1.length = F.1.length) (hb : b < F.1.length) (hp : 0 ≤ (bg F.1 b).1) (hk : (ofF F (b : Int)).1 = []) :
    Calls Tryz.prog 17 #[v, I b] W (Post (Tup [NewA (detM F.1 b) Go.Mono.G0, E (I (newR (toT (detM F.1 b))))]) W) := by
  have hin : inT F.1 (b : Int) = true := by simp [inT, hb]
  refine enter (args := [v, I b]) (As := [Dv (ptE frE) Go.Mono.G0 (some F), E (I b)]) Tryz.func17 rfl Tryz.ntmps17 (Nat.le_of_ble_eq_true rfl) ?_ (fun a hf => ?_) (Nat.le_of_ble_eq_true rfl)
  rotate_left
  dsimp only [params, Nat.reduceAdd] at hf
  rotate_right
  · exact arg2 (Dv.weak h fun b _ hb => hb.elim) rfl
  have e := Ext.rfl' W
  have hT0 := hT.lt
  repeat refine seq ?_
  refine regn0 ?_
  refine tl_as hf rfl (by decide) fun a hf => ?_
  refine tl_as hf rfl (by decide) fun a hf => ?_
  refine tl_nil ?_
  replace hf := hf.keep [0, 1]
  dsimp only [keep, List.filterMap, look, Nat.beq, Option.map] at hf
  repeat refine seq ?_
  refine blk ?_
  repeat refine seq ?_
  refine regn 2 hf (by decide +kernel) ?_
  refine st (mv rfl) ?_
  refine st (eqlP Tryz.underlying27 (isR rfl)) ?_
  refine en fun a w e' hf => ?_
  replace hT := hT.ext e'
  replace e := Ext.tr e e'
  clear e'
  refine tl_as hf rfl (by decide) fun a hf => ?_
  refine tl_nil ?_
  repeat refine seq ?_
  refine ifc hf rfl (fun h => by cases h) (fun _ => ?_)
  repeat refine seq ?_
  refine regn 4 hf (by decide +kernel) ?_
  refine st (mv rfl) ?_
  refine st (mv rfl) ?_
  refine st (call2 En55 rfl rfl (fun v u w he h h' => by cases h'; exact fis_spec F _ _ w h)) ?_
  refine st ((notp rfl).eq (congrArg Value.bool (show (!inT F.1 (b : Int)) = false from by rw [hin]; rfl))) ?_
  refine en fun a w e' hf => ?_
  replace hT := hT.ext e'
  replace e := Ext.tr e e'
  clear e'
  refine tl_as hf rfl (by decide) fun a hf => ?_
  refine tl_nil ?_
  repeat refine seq ?_
  refine ifc hf rfl (fun h => by cases h) (fun _ => ?_)
  repeat refine seq ?_
  refine regn 11 hf (by decide +kernel) ?_
  refine st (mv rfl) ?_
  refine st (mv rfl) ?_
  refine st ((call2 En36 rfl rfl (fun v u w he h h' => by cases h'; exact fparent_spec F _ _ w h)).eq (show I _ = I (bg F.1 b).1 from by rw [hin, Int.toNat_natCast]; rfl)) ?_
  refine st ((lss rfl rfl).eq (congrArg Value.bool (decide_eq_false (by omega)))) ?_
  refine st (mv rfl) ?_
  first | refine sn rfl rfl rfl ?_ | refine su rfl rfl ?_ | refine sy rfl rfl (mv rfl) ?_
  first | refine sn rfl rfl rfl ?_ | refine su rfl rfl ?_ | refine sy rfl rfl (mv rfl) ?_
  first | refine sn rfl rfl rfl ?_ | refine su rfl rfl ?_ | refine sy rfl rfl ((call2 En29 rfl rfl (fun v u w he h h' => by cases h'; exact postG (G := Go.Mono.G0) (fchildren_spec F _ _ w h hn (by rw [hk]; simp)) (fun b hb => hb.elim))).dv (hk)) ?_
  first | refine sn rfl rfl rfl ?_ | refine su rfl rfl ?_ | refine sy rfl rfl (lenD Tryz.underlying59 (isR rfl)) ?_
  first | refine sn rfl rfl rfl ?_ | refine su rfl rfl ?_ | refine sy rfl rfl ((gtr rfl rfl).eq (congrArg Value.bool (show decide ((0 : Int) < ((List.length ([] : List Int) : Nat) : Int)) = false from rfl))) ?_
  first | refine st (pkT rfl rfl) ?_ | refine st (pkF rfl rfl) ?_ | refine st (pk rfl rfl rfl) ?_
  refine en fun a w e' hf => ?_
  replace hT := hT.ext e'
  replace e := Ext.tr e e'
  clear e'
  refine tl_as hf rfl (by decide) fun a hf => ?_
  refine tl_nil ?_
  repeat refine seq ?_
  refine ifc hf rfl (fun h => by cases h) (fun _ => ?_)
  refine wskip ?_
  try simp only [Exit.then, Exit.inBlock, ↓reduceIte]
  replace hf := hf.keep [0, 1]
  dsimp only [keep, List.filterMap, look, Nat.beq, Option.map] at hf
  repeat refine seq ?_
  refine regn 2 hf (by decide +kernel) ?_
  refine st (mv rfl) ?_
  refine st (call1 (A := OwA bagE 69 W.heap.size Go.Mono.G0 F.1) En21 rfl (fun v w he h => fbagsO_spec W.heap.size F v w h (by omega) (Nat.le_trans e.size he.size))) ?_
  refine en fun a w e' hf => ?_
  replace hT := hT.ext e'
  replace e := Ext.tr e e'
  clear e'
  refine tl_as hf rfl (by decide) fun a hf => ?_
  refine tl_nil ?_
  obtain ⟨u, ho, hf⟩ := hf.fix 6 rfl
  have ho : OwR bagE 69 W.heap.size Go.Mono.G0 w F.1 u := ho
  replace hf := hf.keep [1, 6]
  dsimp only [keep, List.filterMap, look, Nat.beq, Option.map] at hf
  obtain ⟨cs, ⟨_, hrow⟩, hcs⟩ := ho.own
  rcases hrow with ⟨_, hn0⟩ | ⟨g, cap, cur, rfl, hB, hg0, hcap, hm, hs, ht⟩
  · omega
  simp only [show (bagE).k = 17 from rfl] at hs ht
  have hbc := bag_cellsD hcs
  have B6 : Blk w g cur 69 := hg0
  have R0 : BR F.1.length (bg F.1) cap cur := ⟨hs, hcap, fun i hi j hj => by
    rw [← hbc i hi j hj, ← ht, List.getElem?_take, if_pos (by omega), Array.getElem?_toList]⟩
  clear ht hs hcs ho hbc hg0
  obtain ⟨n, hnn⟩ : ∃ n, n = F.1.length := ⟨_, rfl⟩
  rw [← hnn] at hf R0
  repeat refine seq ?_
  refine regn 3 hf (by decide +kernel) ?_
  refine st (mv rfl) ?_
  refine st (lenE Tryz.underlying23 rfl) ?_
  refine st ((sub rfl rfl (by omega)).eq (congrArg (Value.int .i64) (show ((n : Nat) : Int) - 1 = ((n - 1 : Nat) : Int) from by omega))) ?_
  refine en fun a w e' hf => ?_
  replace hT := hT.ext e'
  replace e := Ext.tr e e'
  replace B6 := B6.ext e'
  clear e'
  refine tl_as hf rfl (by decide) fun a hf => ?_
  refine tl_nil ?_
  replace hf := hf.keep [1, 6, 7]
  dsimp only [keep, List.filterMap, look, Nat.beq, Option.map] at hf
  have hgT : 0 < g := Nat.lt_of_lt_of_le hT0 hB
  repeat refine seq ?_
  refine regn 7 hf (by decide +kernel) ?_
  refine st (mv rfl) ?_
  refine st (mv rfl) ?_
  refine st (mv rfl) ?_
  refine st (mv rfl) ?_
  refine st (idxS Tryz.underlying23 S69 rfl rfl (by omega)) ?_
  refine st ((ldP T69 rfl B6 (by have := R0.size; have := R0.le; omega)).eq (R0.bag (by omega))) ?_
  refine st (idxS Tryz.underlying23 S69 rfl rfl (by omega)) ?_
  refine en fun a w e' hf => ?_
  replace hT := hT.ext e'
  replace e := Ext.tr e e'
  replace B6 := B6.ext e'
  clear e'
  refine tl_stP T69 hf rfl rfl (bagC_one _) B6 (bagC_size _) (by have := R0.size; have := R0.le; omega) fun w hg hsz B6 hf => ?_
  replace R0 := (R0.setBag (i := b) (by omega) (bg F.1 (n - 1))).cong (f' := detB F.1 b) fun i hi => by rw [detB, hnn]
  replace hT := hT.gr hg hgT
  replace e := e.gr hg (by omega)
  clear hg
  refine tl_nil ?_
  replace hf := hf.keep [1, 6, 7]
  dsimp only [keep, List.filterMap, look, Nat.beq, Option.map] at hf
  repeat refine seq ?_
  refine regn 3 hf (by decide +kernel) ?_
  refine st (mv rfl) ?_
  refine st (lenE Tryz.underlying23 rfl) ?_
  refine st (mv rfl) ?_
  refine en fun a w e' hf => ?_
  replace hT := hT.ext e'
  replace e := Ext.tr e e'
  replace B6 := B6.ext e'
  clear e'
  refine tl_nil ?_
  have Hr0 := R0.cong (f' := fun i => if i < 0 then detF F.1 b i else detB F.1 b i) fun i hi => by simp
  have hlast : ((F.1.length - 1 : Nat) : Int) = ((n - 1 : Nat) : Int) := by rw [hnn]
  generalize hcur : (_ : List Value).toArray = cur' at B6 R0 Hr0
  clear R0 hcur
  replace hf := hf.keep [1, 6, 7, 42, 43]
  dsimp only [keep, List.filterMap, look, Nat.beq, Option.map] at hf
  repeat refine seq ?_
  refine blk (loopN (fun r0 a w => ∃ (k : Nat) (cur : Array Value), r0 = n - k ∧ k ≤ n ∧ Fr 65 a w [(1, E (I (b : Nat))), (6, E (.slice (some ⟨g, 0, none⟩) n cap)), (7, E (I (n - 1 : Nat))), (42, E (I (n : Nat))), (43, E (I k))] ∧ Ext W w ∧ Blk w g cur 69 ∧ Tab w ∧ BR n (fun i => if i < k then detF F.1 b i else detB F.1 b i) cap cur) n ⟨0, cur', rfl, by omega, hf, e, B6, hT, Hr0⟩ ?_)
  clear hf e; try clear B6; try clear hT; try clear R0
  rintro r0 a w ⟨k, cur, rfl, hk, hf, e, B6, hT, R0⟩
  repeat refine seq ?_
  refine regn 1 hf (by decide +kernel) ?_
  refine st (lss rfl rfl) ?_
  refine en fun a w e' hf => ?_
  replace hT := hT.ext e'
  replace e := Ext.tr e e'
  replace B6 := B6.ext e'
  clear e'
  refine tl_nil ?_
  repeat refine seq ?_
  refine ifc hf rfl (fun hc => wskip ?_) (fun hc => wexit ?_)
  rotate_left
  rotate_left
  · have hlt : k < n := by have := of_decide_eq_true hc; (try dsimp only at this); omega
    clear hc
    replace hf := hf.keep [1, 6, 7, 42, 43]
    dsimp only [keep, List.filterMap, look, Nat.beq, Option.map] at hf
    repeat refine seq ?_
    refine blk ?_
    repeat refine seq ?_
    refine regn 1 hf (by decide +kernel) ?_
    refine st (mv rfl) ?_
    refine en fun a w e' hf => ?_
    replace hT := hT.ext e'
    replace e := Ext.tr e e'
    replace B6 := B6.ext e'
    clear e'
    refine tl_as hf rfl (by decide) fun a hf => ?_
    refine tl_nil ?_
    have hup := R0.up hlt
    rw [if_neg (Nat.lt_irrefl k)] at hup
    repeat refine seq ?_
    refine regn 7 hf (by decide +kernel) ?_
    refine st (mv rfl) ?_
    refine st (mv rfl) ?_
    refine st (idxS Tryz.underlying23 S69 rfl rfl (by omega)) ?_
    refine st (fldA Tryz.underlying69 rfl T3 (by decide) rfl) ?_
    refine st (ld1 T3 rfl B6 hup) ?_
    refine st (mv rfl) ?_
    refine st (eql rfl rfl) ?_
    refine en fun a w e' hf => ?_
    replace hT := hT.ext e'
    replace e := Ext.tr e e'
    replace B6 := B6.ext e'
    clear e'
    refine tl_nil ?_
    have hcg : ∀ x, (if (detB F.1 b k).1 = ((n - 1 : Nat) : Int) then (((b : Nat) : Int), (detB F.1 b k).2) else detB F.1 b k) = x → x = detF F.1 b k := fun x h => by rw [← h, detF, hlast]
    repeat refine seq ?_
    refine ifc hf rfl (fun hb => ?_) (fun hb => ?_)
    · have hb' : (detB F.1 b k).1 = ((n - 1 : Nat) : Int) := by simpa using hb
      rw [if_pos hb'] at hcg
      repeat refine seq ?_
      refine regn 5 hf (by decide +kernel) ?_
      refine st (mv rfl) ?_
      refine st (mv rfl) ?_
      refine st (mv rfl) ?_
      refine st (idxS Tryz.underlying23 S69 rfl rfl (by omega)) ?_
      refine st (fldA Tryz.underlying69 rfl T3 (by decide) rfl) ?_
      refine en fun a w e' hf => ?_
      replace hT := hT.ext e'
      replace e := Ext.tr e e'
      replace B6 := B6.ext e'
      clear e'
      refine tl_st1 T3 hf rfl rfl rfl B6 (by have := R0.size; have := R0.le; show 0 + ((k : Nat) : Int).toNat * 17 + 0 < _; omega) fun w hg hsz B6 hf => ?_
      replace hT := hT.gr hg hgT
      replace e := e.gr hg (by omega)
      clear hg
      refine tl_nil ?_
      replace R0 := (R0.setUp hlt (b : Int)).cong (f' := fun i => if i < k + 1 then detF F.1 b i else detB F.1 b i) fun i hi => by
        by_cases h1 : i = k
        · subst h1
          rw [if_pos rfl, if_pos (Nat.lt_succ_self _), ← hcg _ rfl, if_neg (Nat.lt_irrefl _)]
        · rw [if_neg h1]
          by_cases h2 : i < k
          · rw [if_pos h2, if_pos (by omega)]
          · rw [if_neg h2, if_neg (by omega)]
      obtain ⟨cur2, B6, R0⟩ : ∃ c, Blk w g c 69 ∧ BR n (fun i => if i < k + 1 then detF F.1 b i else detB F.1 b i) cap c := ⟨_, B6, R0⟩
      try simp only [Exit.then, Exit.inBlock, ↓reduceIte]
      repeat refine seq ?_
      refine regn 1 hf (by decide +kernel) ?_
      refine st ((add rfl rfl (by omega)).eq (congrArg (Value.int .i64) (show (k : Int) + 1 = ((k + 1 : Nat) : Int) from rfl))) ?_
      refine en fun a w e' hf => ?_
      replace hT := hT.ext e'
      replace e := Ext.tr e e'
      replace B6 := B6.ext e'
      clear e'
      refine tl_op hf (by decide) (mv rfl) fun a w e' hf => ?_
      replace hT := hT.ext e'
      replace e := Ext.tr e e'
      replace B6 := B6.ext e'
      clear e'
      refine tl_nil ?_
      replace hf := hf.keep [1, 6, 7, 42, 43]
      dsimp only [keep, List.filterMap, look, Nat.beq, Option.map] at hf
      refine ⟨_, ?_, k + 1, cur2, rfl, by omega, hf, e, ?_⟩
      · omega
      exact ⟨B6, hT, R0⟩
    · have hb' : ¬ (detB F.1 b k).1 = ((n - 1 : Nat) : Int) := by simpa using hb
      rw [if_neg hb'] at hcg
      refine wskip ?_
      try simp only [Exit.then, Exit.inBlock, ↓reduceIte]
      replace R0 := R0.cong (f' := fun i => if i < k + 1 then detF F.1 b i else detB F.1 b i) fun i hi => by
        by_cases h1 : i = k
        · subst h1
          rw [if_neg (Nat.lt_irrefl _), if_pos (Nat.lt_succ_self _), ← hcg _ rfl]
        · by_cases h2 : i < k
          · rw [if_pos h2, if_pos (by omega)]
          · rw [if_neg h2, if_neg (by omega)]
      try simp only [Exit.then, Exit.inBlock, ↓reduceIte]
      repeat refine seq ?_
      refine regn 1 hf (by decide +kernel) ?_
      refine st ((add rfl rfl (by omega)).eq (congrArg (Value.int .i64) (show (k : Int) + 1 = ((k + 1 : Nat) : Int) from rfl))) ?_
      refine en fun a w e' hf => ?_
      replace hT := hT.ext e'
      replace e := Ext.tr e e'
      replace B6 := B6.ext e'
      clear e'
      refine tl_op hf (by decide) (mv rfl) fun a w e' hf => ?_
      replace hT := hT.ext e'
      replace e := Ext.tr e e'
      replace B6 := B6.ext e'
      clear e'
      refine tl_nil ?_
      replace hf := hf.keep [1, 6, 7, 42, 43]
      dsimp only [keep, List.filterMap, look, Nat.beq, Option.map] at hf
      refine ⟨_, ?_, k + 1, cur, rfl, by omega, hf, e, ?_⟩
      · omega
      exact ⟨B6, hT, R0⟩
  · obtain rfl : k = n := by have := of_decide_eq_false hc; (try dsimp only at this); omega
    clear hc
    simp only [Exit.then, Exit.inBlock, ↓reduceIte]
    replace hf := hf.keep [6, 7]
    dsimp only [keep, List.filterMap, look, Nat.beq, Option.map] at hf
    have HV : (Dv treeE Go.Mono.G0 ((List.range k).map (detF F.1 b))).p (.slice (some ⟨g, 0, none⟩) k cap) w := (R0.cong (f' := detF F.1 b) fun i hi => by rw [if_pos hi]).dv B6 fun h => h.elim
    have htk : ((List.range k).map (detF F.1 b)).take (k - 1) = detM F.1 b := by
      rw [← List.map_take, List.take_range, Nat.min_eq_left (by omega), detM, hnn]
    repeat refine seq ?_
    refine regn 6 hf (by decide +kernel) ?_
    refine st (mv rfl) ?_
    refine st (mv rfl) ?_
    refine st ((slcD Tryz.underlying23 S69 (isE rfl HV) rfl (by simp)).dv (htk)) ?_
    refine st (call1 En43 rfl (fun v w he h => fnew0_spec (detM F.1 b) v w (hT.ext he) h (by simp [detM]; omega))) ?_
    refine st (ext_ rfl rfl) ?_
    refine st (ext_ rfl rfl) ?_
    refine en fun a w e' hf => ?_
    replace hT := hT.ext e'
    replace e := Ext.tr e e'
    replace B6 := B6.ext e'
    clear e'
    refine tl_as hf rfl (by decide) fun a hf => ?_
    refine tl_as hf rfl (by decide) fun a hf => ?_
    refine tl_nil ?_
    refine wret (ret2 rfl hf rfl rfl ?_)
    rintro u _ hu rfl
    exact ⟨_, rfl, e, Tup.two hu rfl⟩
end Go.Mono

set_option linter.unusedVariables false
set_option linter.unusedSimpArgs false
namespace Go.Mono
open Go Go.RowKit
theorem run_equalIn_pp {P : Program} (w : World) (d : Nat) (t : TypeId) (p q : Option Addr) (h : P.underlying t = some (.pointer (P.pointee t))) (hpq : p = none ∨ q = none) : (Op.equalIn (d + 1) t (.pointer p) (.pointer q)).run P w = .ok (p.isNone && q.isNone) w := by
  rcases hpq with rfl | rfl
  · cases q <;> simp [Op.equalIn, run_underlying h]
  · cases p <;> simp [Op.equalIn, run_underlying h]
theorem run_equal_pp {P : Program} (w : World) (t : TypeId) (p q : Option Addr) (h : P.underlying t = some (.pointer (P.pointee t))) (hpq : p = none ∨ q = none) : (Op.equal t (.pointer p) (.pointer q)).run P w = .ok (p.isNone && q.isNone) w := run_equalIn_pp w 9999 t p q h hpq
theorem eqlPP {P : Program} {w0 : World} {L : Env} {dst : Option Tmp} {ty : TypeId} {pos : String} {aft : Array Edge} {g : Option (Nat × Bool)} {x y : Operand} {t yt pe : TypeId} {p q : Option Addr} (ht0 : P.underlying t = some (.pointer pe)) (hx : opd L x = some (E (.pointer p))) (hy : opd L y = some (E (.pointer q))) (hpq : p = none ∨ q = none) :
    OpC P w0 L ⟨dst, .binOp .eql t x y yt, ty, pos, aft, g⟩ (E (.bool (p.isNone && q.isNone))) :=
  opc_eql hx hy (fun w => rfl) rfl fun w _ => run_equal_pp w t p q (ptee ht0) hpq
theorem nilCE {P : Program} {w0 : World} {L : Env} {dst : Option Tmp} {ty : TypeId} {pos : String} {aft : Array Edge} {g : Option (Nat × Bool)} {x : Operand} {t yt pe : TypeId} {p : Option Addr} (ht0 : P.underlying t = some (.pointer pe)) (hx : opd L x = some (E (.pointer p))) :
    OpC P w0 L ⟨dst, .binOp .eql t x (.const (.pointer none)) yt, ty, pos, aft, g⟩ (E (.bool p.isNone)) :=
  opc_cmp (A := E (.pointer p)) (isR hx) fun v w h => by cases h; exact ⟨rfl, run_eql_pointer_nil w t p (ptee ht0)⟩
/-- a map, whichever -/
def anE : Enc Unit where
  k := 1
  agg := false
  r := fun _ _ _ cs => ∃ b : Option Nat, cs = [.map b]
  pos := by decide
  k1 := fun _ => rfl
  len := fun ⟨b, h⟩ => by rw [h]; rfl
  one := fun ⟨b, h⟩ u hu => by rw [h] at hu; simp at hu; subst hu; rfl
  pres := fun h _ _ => h
  weak := fun h _ => h
theorem isMp {P : Program} {w0 : World} {L : Env} {x : Operand} {k e : TypeId} {B : Nat} (h : opd L x = some (MpA P k e B)) : Is L w0 x (Dv anE Go.Mono.G0 ()) := ⟨_, h, fun v w _ ⟨b, _, h, _⟩ => ⟨[v], ⟨some b, by rw [h]⟩, rfl⟩⟩
end Go.Mono

set_option linter.unusedVariables false
set_option linter.unusedSimpArgs false
namespace Go.Mono
open Go Go.Proofs Go.RowKit

theorem gnew_spec (W : World) : Calls Tryz.prog 34 #[] W (Post Any W) := by
  refine enter (args := []) (As := []) Tryz.func34 rfl Tryz.ntmps34 (Nat.le_of_ble_eq_true rfl) ?_ (fun a hf => ?_) (Nat.le_of_ble_eq_true rfl)
  rotate_left
  dsimp only [params, Nat.reduceAdd] at hf
  rotate_right
  · exact argZ
  have e := Ext.rfl' W
  repeat refine seq ?_
  refine regn0 ?_
  refine tl_as hf rfl (by decide) fun a hf => ?_
  refine tl_nil ?_
  repeat refine seq ?_
  refine regn0 ?_
  refine tl_op hf (by decide) (mkM (k := 0) (e := 0)) fun a w e' hf => ?_
  replace e := Ext.tr e e'
  clear e'
  refine tl_op hf (by decide) (mkM (k := 0) (e := 0)) fun a w e' hf => ?_
  replace e := Ext.tr e e'
  clear e'
  refine tl_op hf (by decide) (bld2 (e1 := anE) (e2 := anE) (a := ()) (b := ()) (G := Go.Mono.G0) Tryz.underlying140 rfl rfl rfl (by kernel_rfl) (by kernel_rfl) I140 rfl (isMp rfl) (isMp rfl)) fun a w e' hf => ?_
  replace e := Ext.tr e e'
  clear e'
  refine tl_box hf rfl (by decide) fun a b4 w v4 hv4 e' hb4 hs4 B4 hf => ?_
  have hle4 := Nat.le_trans e.size (Nat.le_of_eq hb4.symm)
  replace e := Ext.tr e e'
  clear e'
  refine tl_as hf rfl (by decide) fun a hf => ?_
  refine tl_nil ?_
  refine wret ?_
  try simp only [Exit.then, Exit.inBlock]
  refine ret1 rfl hf rfl ?_
  intro v hv
  exact ⟨_, rfl, e, trivial⟩

theorem nfits_spec (u : Value) (W : World) : Calls Tryz.prog 11 #[.pointer none, u] W (Post (E (I 1)) W) := by
  refine enter (args := [.pointer none, u]) (As := [E (.pointer none), Any]) Tryz.func11 rfl Tryz.ntmps11 (Nat.le_of_ble_eq_true rfl) ?_ (fun a hf => ?_) (Nat.le_of_ble_eq_true rfl)
  rotate_left
  dsimp only [params, Nat.reduceAdd] at hf
  rotate_right
  · exact arg2 rfl trivial
  have e := Ext.rfl' W
  repeat refine seq ?_
  refine regn0 ?_
  refine tl_as hf rfl (by decide) fun a hf => ?_
  refine tl_nil ?_
  repeat refine seq ?_
  refine regn 2 hf (by decide +kernel) ?_
  refine st (mv rfl) ?_
  refine st (eqlP0 Tryz.underlying27 (isR rfl)) ?_
  refine en fun a w e' hf => ?_
  replace e := Ext.tr e e'
  clear e'
  refine tl_nil ?_
  repeat refine seq ?_
  refine ifc hf rfl (fun _ => ?_) (fun h => by cases h)
  repeat refine seq ?_
  refine regn0 ?_
  refine tl_as hf rfl (by decide) fun a hf => ?_
  refine tl_nil ?_
  refine wret ?_
  try simp only [Exit.then, Exit.inBlock]
  refine ret1 rfl hf rfl ?_
  rintro _ rfl
  exact ⟨_, rfl, e, rfl⟩

theorem nvhome_spec (id : Int) (W : World) : Calls Tryz.prog 31 #[.pointer none, I id] W (Post (Tup [E (I 0), E (B false)]) W) := by
  refine enter (args := [.pointer none, I id]) (As := [E (.pointer none), E (I id)]) Tryz.func31 rfl Tryz.ntmps31 (Nat.le_of_ble_eq_true rfl) ?_ (fun a hf => ?_) (Nat.le_of_ble_eq_true rfl)
  rotate_left
  dsimp only [params, Nat.reduceAdd] at hf
  rotate_right
  · exact arg2 rfl rfl
  have e := Ext.rfl' W
  repeat refine seq ?_
  refine regn0 ?_
  refine tl_as hf rfl (by decide) fun a hf => ?_
  refine tl_as hf rfl (by decide) fun a hf => ?_
  refine tl_nil ?_
  repeat refine seq ?_
  refine regn 2 hf (by decide +kernel) ?_
  refine st (mv rfl) ?_
  refine st (eqlP0 Tryz.underlying27 (isR rfl)) ?_
  refine en fun a w e' hf => ?_
  replace e := Ext.tr e e'
  clear e'
  refine tl_nil ?_
  repeat refine seq ?_
  refine ifc hf rfl (fun _ => ?_) (fun h => by cases h)
  repeat refine seq ?_
  refine regn0 ?_
  refine tl_as hf rfl (by decide) fun a hf => ?_
  refine tl_as hf rfl (by decide) fun a hf => ?_
  refine tl_nil ?_
  refine wret (ret2 rfl hf rfl rfl ?_)
  rintro _ _ h1 h2
  exact ⟨_, rfl, e, Tup.two h1 h2⟩

theorem nehome_spec (x y : Int) (W : World) : Calls Tryz.prog 32 #[.pointer none, I x, I y] W (Post (Tup [E (I 0), E (B false)]) W) := by
  refine enter (args := [.pointer none, I x, I y]) (As := [E (.pointer none), E (I x), E (I y)]) Tryz.func32 rfl Tryz.ntmps32 (Nat.le_of_ble_eq_true rfl) ?_ (fun a hf => ?_) (Nat.le_of_ble_eq_true rfl)
  rotate_left
  dsimp only [params, Nat.reduceAdd] at hf
  rotate_right
  · exact arg3 rfl rfl rfl
  have e := Ext.rfl' W
  repeat refine seq ?_
  refine regn0 ?_
  refine tl_box hf rfl (by decide) fun a b4 w v4 hv4 e' hb4 hs4 B4 hf => ?_
  have hle4 := Nat.le_trans e.size (Nat.le_of_eq hb4.symm)
  replace e := Ext.tr e e'
  clear e'
  refine tl_box hf rfl (by decide) fun a b5 w v5 hv5 e' hb5 hs5 B5 hf => ?_
  have hle5 := Nat.le_trans e.size (Nat.le_of_eq hb5.symm)
  have lt5_B4 := B4.lt
  replace e := Ext.tr e e'
  replace B4 := B4.ext e'
  clear e'
  refine tl_as hf rfl (by decide) fun a hf => ?_
  refine tl_as hf rfl (by decide) fun a hf => ?_
  refine tl_nil ?_
  cases hv4
  cases hv5
  repeat refine seq ?_
  refine regn 6 hf (by decide +kernel) ?_
  refine st (mv rfl) ?_
  refine st (ld1 T3 rfl B4 rfl) ?_
  refine st (call2 En31 rfl rfl (fun v u w he h h' => by cases h; cases h'; exact nvhome_spec _ w)) ?_
  refine st (mv rfl) ?_
  refine st (ext_ rfl rfl) ?_
  refine st (ext_ rfl rfl) ?_
  refine en fun a w e' hf => ?_
  replace e := Ext.tr e e'
  replace B4 := B4.ext e'
  replace B5 := B5.ext e'
  clear e'
  refine tl_as hf rfl (by decide) fun a hf => ?_
  refine tl_as hf rfl (by decide) fun a hf => ?_
  refine tl_nil ?_
  replace hf := hf.keep [0, 4, 5, 6, 7, 8, 9]
  dsimp only [keep, List.filterMap, look, Nat.beq, Option.map] at hf
  repeat refine seq ?_
  refine regn 6 hf (by decide +kernel) ?_
  refine st (mv rfl) ?_
  refine st (ld1 T3 rfl B5 rfl) ?_
  refine st (call2 En31 rfl rfl (fun v u w he h h' => by cases h; cases h'; exact nvhome_spec _ w)) ?_
  refine st (mv rfl) ?_
  refine st (ext_ rfl rfl) ?_
  refine st (ext_ rfl rfl) ?_
  refine en fun a w e' hf => ?_
  replace e := Ext.tr e e'
  replace B4 := B4.ext e'
  replace B5 := B5.ext e'
  clear e'
  refine tl_as hf rfl (by decide) fun a hf => ?_
  refine tl_as hf rfl (by decide) fun a hf => ?_
  refine tl_nil ?_
  replace hf := hf.keep [0, 4, 5, 6, 7, 8, 9, 10, 11]
  dsimp only [keep, List.filterMap, look, Nat.beq, Option.map] at hf
  repeat refine seq ?_
  refine regn 20 hf (by decide +kernel) ?_
  refine st (mv rfl) ?_
  refine st (notp rfl) ?_
  refine st (mv rfl) ?_
  first | refine sn rfl rfl rfl ?_ | refine su rfl rfl ?_ | refine sy rfl rfl (mv rfl) ?_
  first | refine sn rfl rfl rfl ?_ | refine su rfl rfl ?_ | refine sy rfl rfl (notp rfl) ?_
  first | refine st (pkT rfl rfl) ?_ | refine st (pkF rfl rfl) ?_ | refine st (pk rfl rfl rfl) ?_
  refine st (mv rfl) ?_
  first | refine sn rfl rfl rfl ?_ | refine su rfl rfl ?_ | refine sy rfl rfl (ld1 T3 rfl (by assumption) rfl) ?_
  first | refine sn rfl rfl rfl ?_ | refine su rfl rfl ?_ | refine sy rfl rfl (ld1 T3 rfl (by assumption) rfl) ?_
  first | refine sn rfl rfl rfl ?_ | refine su rfl rfl ?_ | refine sy rfl rfl (eql rfl rfl) ?_
  first | refine st (pkT rfl rfl) ?_ | refine st (pkF rfl rfl) ?_ | refine st (pk rfl rfl rfl) ?_
  refine st (mv rfl) ?_
  first | refine sn rfl rfl rfl ?_ | refine su rfl rfl ?_ | refine sy rfl rfl (mv rfl) ?_
  first | refine sn rfl rfl rfl ?_ | refine su rfl rfl ?_ | refine sy rfl rfl (nilC (isR rfl)) ?_
  first | refine sn rfl rfl rfl ?_ | refine su rfl rfl ?_ | refine sy rfl rfl (fldD Tryz.underlying99 rfl T23 (by decide) (Fld.fst Fld.refl) (isR rfl)) ?_
  first | refine sn rfl rfl rfl ?_ | refine su rfl rfl ?_ | refine sy rfl rfl (ldD T23 (isR rfl)) ?_
  first | refine sn rfl rfl rfl ?_ | refine su rfl rfl ?_ | refine sy rfl rfl (makeF2 rfl rfl) ?_
  first | refine sn rfl rfl rfl ?_ | refine su rfl rfl ?_ | refine sy rfl rfl (TODO_call) ?_
  first | refine sn rfl rfl rfl ?_ | refine su rfl rfl ?_ | refine sy rfl rfl (notp rfl) ?_
  first | refine st (pkT rfl rfl) ?_ | refine st (pkF rfl rfl) ?_ | refine st (pk rfl rfl rfl) ?_
  refine en fun a w e' hf => ?_
  replace e := Ext.tr e e'
  replace B4 := B4.ext e'
  replace B5 := B5.ext e'
  clear e'
  refine tl_nil ?_
  repeat refine seq ?_
  refine ifc hf rfl (fun _ => ?_) (fun h => by cases h)
  repeat refine seq ?_
  refine regn0 ?_
  refine tl_as hf rfl (by decide) fun a hf => ?_
  refine tl_as hf rfl (by decide) fun a hf => ?_
  refine tl_nil ?_
  refine wret (ret2 rfl hf rfl rfl ?_)
  rintro _ _ h1 h2
  exact ⟨_, rfl, e, Tup.two h1 h2⟩

theorem nadd_spec (id : Int) (S : BS) (W : World) : Calls Tryz.prog 33 #[.pointer none, I id, setV S] W (Post (Tup [E (.pointer none), E (I 1)]) W) := by
  refine enter (args := [.pointer none, I id, setV S]) (As := [E (.pointer none), E (I id), E (setV S)]) Tryz.func33 rfl Tryz.ntmps33 (Nat.le_of_ble_eq_true rfl) ?_ (fun a hf => ?_) (Nat.le_of_ble_eq_true rfl)
  rotate_left
  dsimp only [params, Nat.reduceAdd] at hf
  rotate_right
  · exact arg3 rfl rfl rfl
  have e := Ext.rfl' W
  repeat refine seq ?_
  refine regn0 ?_
  refine tl_box hf rfl (by decide) fun a b5 w v5 hv5 e' hb5 hs5 B5 hf => ?_
  have hle5 := Nat.le_trans e.size (Nat.le_of_eq hb5.symm)
  replace e := Ext.tr e e'
  clear e'
  refine tl_as hf rfl (by decide) fun a hf => ?_
  refine tl_as hf rfl (by decide) fun a hf => ?_
  refine tl_nil ?_
  replace hf := hf.keep [0]
  dsimp only [keep, List.filterMap, look, Nat.beq, Option.map] at hf
  repeat refine seq ?_
  refine blk ?_
  repeat refine seq ?_
  refine regn 2 hf (by decide +kernel) ?_
  refine st (mv rfl) ?_
  refine st (eqlP0 Tryz.underlying27 (isR rfl)) ?_
  refine en fun a w e' hf => ?_
  replace e := Ext.tr e e'
  clear e'
  refine tl_as hf rfl (by decide) fun a hf => ?_
  refine tl_nil ?_
  repeat refine seq ?_
  refine ifc hf rfl (fun _ => ?_) (fun h => by cases h)
  repeat refine seq ?_
  refine regn0 ?_
  refine tl_as hf rfl (by decide) fun a hf => ?_
  refine tl_as hf rfl (by decide) fun a hf => ?_
  refine tl_nil ?_
  refine wret (ret2 rfl hf rfl rfl ?_)
  rintro _ _ h1 h2
  exact ⟨_, rfl, e, Tup.two h1 h2⟩

theorem nremove_spec (id : Int) (W : World) : Calls Tryz.prog 17 #[.pointer none, I id] W (Post (Tup [E (.pointer none), E (I 1)]) W) := by
  refine enter (args := [.pointer none, I id]) (As := [E (.pointer none), E (I id)]) Tryz.func17 rfl Tryz.ntmps17 (Nat.le_of_ble_eq_true rfl) ?_ (fun a hf => ?_) (Nat.le_of_ble_eq_true rfl)
  rotate_left
  dsimp only [params, Nat.reduceAdd] at hf
  rotate_right
  · exact arg2 rfl rfl
  have e := Ext.rfl' W
  repeat refine seq ?_
  refine regn0 ?_
  refine tl_as hf rfl (by decide) fun a hf => ?_
  refine tl_as hf rfl (by decide) fun a hf => ?_
  refine tl_nil ?_
  replace hf := hf.keep [0]
  dsimp only [keep, List.filterMap, look, Nat.beq, Option.map] at hf
  repeat refine seq ?_
  refine blk ?_
  repeat refine seq ?_
  refine regn 2 hf (by decide +kernel) ?_
  refine st (mv rfl) ?_
  refine st (eqlP0 Tryz.underlying27 (isR rfl)) ?_
  refine en fun a w e' hf => ?_
  replace e := Ext.tr e e'
  clear e'
  refine tl_as hf rfl (by decide) fun a hf => ?_
  refine tl_nil ?_
  repeat refine seq ?_
  refine ifc hf rfl (fun _ => ?_) (fun h => by cases h)
  repeat refine seq ?_
  refine regn0 ?_
  refine tl_as hf rfl (by decide) fun a hf => ?_
  refine tl_as hf rfl (by decide) fun a hf => ?_
  refine tl_nil ?_
  refine wret (ret2 rfl hf rfl rfl ?_)
  rintro _ _ h1 h2
  exact ⟨_, rfl, e, Tup.two h1 h2⟩

theorem nbags_spec (W : World) : Calls Tryz.prog 21 #[.pointer none] W (Post (E (.slice none 0 0)) W) := by
  refine enter (args := [.pointer none]) (As := [E (.pointer none)]) Tryz.func21 rfl Tryz.ntmps21 (Nat.le_of_ble_eq_true rfl) ?_ (fun a hf => ?_) (Nat.le_of_ble_eq_true rfl)
  rotate_left
  dsimp only [params, Nat.reduceAdd] at hf
  rotate_right
  · exact arg1 rfl
  have e := Ext.rfl' W
  repeat refine seq ?_
  refine regn0 ?_
  refine tl_as hf rfl (by decide) fun a hf => ?_
  refine tl_nil ?_
  repeat refine seq ?_
  refine regn 2 hf (by decide +kernel) ?_
  refine st (mv rfl) ?_
  refine st (eqlP0 Tryz.underlying27 (isR rfl)) ?_
  refine en fun a w e' hf => ?_
  replace e := Ext.tr e e'
  clear e'
  refine tl_nil ?_
  repeat refine seq ?_
  refine ifc hf rfl (fun _ => ?_) (fun h => by cases h)
  repeat refine seq ?_
  refine regn0 ?_
  refine tl_as hf rfl (by decide) fun a hf => ?_
  refine tl_nil ?_
  refine wret ?_
  try simp only [Exit.then, Exit.inBlock]
  refine ret1 rfl hf rfl ?_
  rintro _ rfl
  exact ⟨_, rfl, e, rfl⟩

theorem nlen_spec (W : World) : Calls Tryz.prog 35 #[.pointer none] W (Post (E (I 0)) W) := by
  refine enter (args := [.pointer none]) (As := [E (.pointer none)]) Tryz.func35 rfl Tryz.ntmps35 (Nat.le_of_ble_eq_true rfl) ?_ (fun a hf => ?_) (Nat.le_of_ble_eq_true rfl)
  rotate_left
  dsimp only [params, Nat.reduceAdd] at hf
  rotate_right
  · exact arg1 rfl
  have e := Ext.rfl' W
  repeat refine seq ?_
  refine regn0 ?_
  refine tl_as hf rfl (by decide) fun a hf => ?_
  refine tl_nil ?_
  repeat refine seq ?_
  refine regn 3 hf (by decide +kernel) ?_
  refine st (mv rfl) ?_
  refine st (call1 En21 rfl (fun v w he h => by cases h; exact nbags_spec w)) ?_
  refine st (lenE Tryz.underlying23 rfl) ?_
  refine en fun a w e' hf => ?_
  replace e := Ext.tr e e'
  clear e'
  refine tl_as hf rfl (by decide) fun a hf => ?_
  refine tl_nil ?_
  refine wret ?_
  try simp only [Exit.then, Exit.inBlock]
  refine ret1 rfl hf rfl ?_
  rintro _ rfl
  exact ⟨_, rfl, e, rfl⟩

theorem nroot_spec (W : World) : Calls Tryz.prog 30 #[.pointer none] W (Post (E (I (-1))) W) := by
  refine enter (args := [.pointer none]) (As := [E (.pointer none)]) Tryz.func30 rfl Tryz.ntmps30 (Nat.le_of_ble_eq_true rfl) ?_ (fun a hf => ?_) (Nat.le_of_ble_eq_true rfl)
  rotate_left
  dsimp only [params, Nat.reduceAdd] at hf
  rotate_right
  · exact arg1 rfl
  have e := Ext.rfl' W
  repeat refine seq ?_
  refine regn0 ?_
  refine tl_as hf rfl (by decide) fun a hf => ?_
  refine tl_nil ?_
  repeat refine seq ?_
  refine regn 3 hf (by decide +kernel) ?_
  refine st (mv rfl) ?_
  refine st (call1 En21 rfl (fun v w he h => by cases h; exact nbags_spec w)) ?_
  refine st (call2 (A := E (I (fstB (fun b => decide (b.1 < 0)) []))) En85 rfl rfl (fun v u w he h h' => by cases h; cases h'; exact indexFunc_spec (G := Go.Mono.G0) [] _ _ _ (fun b => decide (b.1 < 0)) w En86 Dv.nil (fun w' b _ => froot1_spec b w') (by simp))) ?_
  refine en fun a w e' hf => ?_
  replace e := Ext.tr e e'
  clear e'
  refine tl_as hf rfl (by decide) fun a hf => ?_
  refine tl_nil ?_
  refine wret ?_
  try simp only [Exit.then, Exit.inBlock]
  refine ret1 rfl hf rfl ?_
  rintro _ rfl
  exact ⟨_, rfl, e, rfl⟩

theorem nis_spec (b : Int) (W : World) : Calls Tryz.prog 55 #[.pointer none, I b] W (Post (E (B false)) W) := by
  refine enter (args := [.pointer none, I b]) (As := [E (.pointer none), E (I b)]) Tryz.func55 rfl Tryz.ntmps55 (Nat.le_of_ble_eq_true rfl) ?_ (fun a hf => ?_) (Nat.le_of_ble_eq_true rfl)
  rotate_left
  dsimp only [params, Nat.reduceAdd] at hf
  rotate_right
  · exact arg2 rfl rfl
  have e := Ext.rfl' W
  repeat refine seq ?_
  refine regn0 ?_
  refine tl_as hf rfl (by decide) fun a hf => ?_
  refine tl_nil ?_
  repeat refine seq ?_
  refine regn 15 hf (by decide +kernel) ?_
  refine st (mv rfl) ?_
  refine st (neqP0 Tryz.underlying27 (isR rfl)) ?_
  refine st (mv rfl) ?_
  first | refine sn rfl rfl rfl ?_ | refine su rfl rfl ?_ | refine sy rfl rfl (mv rfl) ?_
  first | refine sn rfl rfl rfl ?_ | refine su rfl rfl ?_ | refine sy rfl rfl (geq rfl rfl) ?_
  first | refine st (pkT rfl rfl) ?_ | refine st (pkF rfl rfl) ?_ | refine st (pk rfl rfl rfl) ?_
  refine st (mv rfl) ?_
  first | refine sn rfl rfl rfl ?_ | refine su rfl rfl ?_ | refine sy rfl rfl (mv rfl) ?_
  first | refine sn rfl rfl rfl ?_ | refine su rfl rfl ?_ | refine sy rfl rfl (mv rfl) ?_
  first | refine sn rfl rfl rfl ?_ | refine su rfl rfl ?_ | refine sy rfl rfl (nilC (isR rfl)) ?_
  first | refine sn rfl rfl rfl ?_ | refine su rfl rfl ?_ | refine sy rfl rfl (fldD Tryz.underlying99 rfl T23 (by decide) (Fld.fst Fld.refl) (isR rfl)) ?_
  first | refine sn rfl rfl rfl ?_ | refine su rfl rfl ?_ | refine sy rfl rfl (ldD T23 (isR rfl)) ?_
  first | refine sn rfl rfl rfl ?_ | refine su rfl rfl ?_ | refine sy rfl rfl (lenD Tryz.underlying23 (isR rfl)) ?_
  first | refine sn rfl rfl rfl ?_ | refine su rfl rfl ?_ | refine sy rfl rfl (lss rfl rfl) ?_
  first | refine st (pkT rfl rfl) ?_ | refine st (pkF rfl rfl) ?_ | refine st (pk rfl rfl rfl) ?_
  refine en fun a w e' hf => ?_
  replace e := Ext.tr e e'
  clear e'
  refine tl_as hf rfl (by decide) fun a hf => ?_
  refine tl_nil ?_
  refine wret ?_
  try simp only [Exit.then, Exit.inBlock]
  refine ret1 rfl hf rfl ?_
  rintro _ rfl
  exact ⟨_, rfl, e, rfl⟩

theorem nparent_spec (b : Int) (W : World) : Calls Tryz.prog 36 #[.pointer none, I b] W (Post (E (I (-1))) W) := by
  refine enter (args := [.pointer none, I b]) (As := [E (.pointer none), E (I b)]) Tryz.func36 rfl Tryz.ntmps36 (Nat.le_of_ble_eq_true rfl) ?_ (fun a hf => ?_) (Nat.le_of_ble_eq_true rfl)
  rotate_left
  dsimp only [params, Nat.reduceAdd] at hf
  rotate_right
  · exact arg2 rfl rfl
  have e := Ext.rfl' W
  repeat refine seq ?_
  refine regn0 ?_
  refine tl_as hf rfl (by decide) fun a hf => ?_
  refine tl_nil ?_
  repeat refine seq ?_
  refine regn 4 hf (by decide +kernel) ?_
  refine st (mv rfl) ?_
  refine st (mv rfl) ?_
  refine st (call2 En55 rfl rfl (fun v u w he h h' => by cases h; cases h'; exact nis_spec _ w)) ?_
  refine st (notp rfl) ?_
  refine en fun a w e' hf => ?_
  replace e := Ext.tr e e'
  clear e'
  refine tl_nil ?_
  repeat refine seq ?_
  refine ifc hf rfl (fun _ => ?_) (fun h => by cases h)
  repeat refine seq ?_
  refine regn0 ?_
  refine tl_as hf rfl (by decide) fun a hf => ?_
  refine tl_nil ?_
  refine wret ?_
  try simp only [Exit.then, Exit.inBlock]
  refine ret1 rfl hf rfl ?_
  rintro _ rfl
  exact ⟨_, rfl, e, rfl⟩

theorem nof_spec (b : Int) (W : World) : Calls Tryz.prog 84 #[.pointer none, I b] W (Post (Dv nodeE Go.Mono.G0 ([], [], 0, -1, 0)) W) := by
  refine enter (args := [.pointer none, I b]) (As := [E (.pointer none), E (I b)]) Tryz.func84 rfl Tryz.ntmps84 (Nat.le_of_ble_eq_true rfl) ?_ (fun a hf => ?_) (Nat.le_of_ble_eq_true rfl)
  rotate_left
  dsimp only [params, Nat.reduceAdd] at hf
  rotate_right
  · exact arg2 rfl rfl
  have e := Ext.rfl' W
  repeat refine seq ?_
  refine regn0 ?_
  refine tl_alloc I134 hf (by decide) fun a b4 w e' hb4 hs4 B4 hf => ?_
  have hle4 := Nat.le_trans e.size (Nat.le_of_eq hb4.symm)
  replace e := Ext.tr e e'
  clear e'
  refine tl_nil ?_
  repeat refine seq ?_
  refine regn 4 hf (by decide +kernel) ?_
  refine st (mv rfl) ?_
  refine st (mv rfl) ?_
  refine st (call2 En55 rfl rfl (fun v u w he h h' => by cases h; cases h'; exact nis_spec _ w)) ?_
  refine st (notp rfl) ?_
  refine en fun a w e' hf => ?_
  replace e := Ext.tr e e'
  replace B4 := B4.ext e'
  clear e'
  refine tl_nil ?_
  repeat refine seq ?_
  refine ifc hf rfl (fun _ => ?_) (fun h => by cases h)
  replace hf := hf.keep [4]
  dsimp only [keep, List.filterMap, look, Nat.beq, Option.map] at hf
  repeat refine seq ?_
  refine regn 1 hf (by decide +kernel) ?_
  refine st (bldK bld_nd0) ?_
  refine en fun a w e' hf => ?_
  replace e := Ext.tr e e'
  replace B4 := B4.ext e'
  clear e'
  haveI hinr : ∀ G0, InR (GB W G0) (some b4) := fun G0 => InR.gb (by omega)
  refine tl_stW T134 hf rfl rfl (by decide +kernel) B4 rfl (rfl) fun w hg hsz B4 hf => ?_
  replace e := e.gr hg (by omega)
  clear hg
  refine tl_nil ?_
  refine wret (retc rfl T134 hf rfl B4 rfl ⟨_, rfl, e, ?_⟩)
  exact ⟨_, node0, rfl⟩

theorem nheavy_spec (b : Int) (W : World) : Calls Tryz.prog 37 #[.pointer none, I b] W (Post (E (I (-1))) W) := by
  refine enter (args := [.pointer none, I b]) (As := [E (.pointer none), E (I b)]) Tryz.func37 rfl Tryz.ntmps37 (Nat.le_of_ble_eq_true rfl) ?_ (fun a hf => ?_) (Nat.le_of_ble_eq_true rfl)
  rotate_left
  dsimp only [params, Nat.reduceAdd] at hf
  rotate_right
  · exact arg2 rfl rfl
  have e := Ext.rfl' W
  repeat refine seq ?_
  refine regn0 ?_
  refine tl_as hf rfl (by decide) fun a hf => ?_
  refine tl_nil ?_
  repeat refine seq ?_
  refine regn 4 hf (by decide +kernel) ?_
  refine st (mv rfl) ?_
  refine st (mv rfl) ?_
  refine st (call2 En84 rfl rfl (fun v u w he h h' => by cases h; cases h'; exact nof_spec _ w)) ?_
  refine st (fieldI rfl Tryz.underlying134 rfl T3 (Fld.snd (Fld.snd (Fld.snd (Fld.fst Fld.refl) rfl) rfl) rfl) (isR rfl)) ?_
  refine en fun a w e' hf => ?_
  replace e := Ext.tr e e'
  clear e'
  refine tl_as hf rfl (by decide) fun a hf => ?_
  refine tl_nil ?_
  refine wret ?_
  try simp only [Exit.then, Exit.inBlock]
  refine ret1 rfl hf rfl ?_
  rintro _ rfl
  exact ⟨_, rfl, e, rfl⟩

theorem nsize_spec (b : Int) (W : World) : Calls Tryz.prog 38 #[.pointer none, I b] W (Post (E (I 0)) W) := by
  refine enter (args := [.pointer none, I b]) (As := [E (.pointer none), E (I b)]) Tryz.func38 rfl Tryz.ntmps38 (Nat.le_of_ble_eq_true rfl) ?_ (fun a hf => ?_) (Nat.le_of_ble_eq_true rfl)
  rotate_left
  dsimp only [params, Nat.reduceAdd] at hf
  rotate_right
  · exact arg2 rfl rfl
  have e := Ext.rfl' W
  repeat refine seq ?_
  refine regn0 ?_
  refine tl_as hf rfl (by decide) fun a hf => ?_
  refine tl_nil ?_
  repeat refine seq ?_
  refine regn 4 hf (by decide +kernel) ?_
  refine st (mv rfl) ?_
  refine st (mv rfl) ?_
  refine st (call2 En84 rfl rfl (fun v u w he h h' => by cases h; cases h'; exact nof_spec _ w)) ?_
  refine st (fieldI rfl Tryz.underlying134 rfl T3 (Fld.snd (Fld.snd (Fld.fst Fld.refl) rfl) rfl) (isR rfl)) ?_
  refine en fun a w e' hf => ?_
  replace e := Ext.tr e e'
  clear e'
  refine tl_as hf rfl (by decide) fun a hf => ?_
  refine tl_nil ?_
  refine wret ?_
  try simp only [Exit.then, Exit.inBlock]
  refine ret1 rfl hf rfl ?_
  rintro _ rfl
  exact ⟨_, rfl, e, rfl⟩

theorem nchildren_spec (b : Int) (W : World) : Calls Tryz.prog 29 #[.pointer none, I b] W (Post (Dv (slE intE) Go.Mono.G0 []) W) := by
  refine enter (args := [.pointer none, I b]) (As := [E (.pointer none), E (I b)]) Tryz.func29 rfl Tryz.ntmps29 (Nat.le_of_ble_eq_true rfl) ?_ (fun a hf => ?_) (Nat.le_of_ble_eq_true rfl)
  rotate_left
  dsimp only [params, Nat.reduceAdd] at hf
  rotate_right
  · exact arg2 rfl rfl
  have e := Ext.rfl' W
  repeat refine seq ?_
  refine regn0 ?_
  refine tl_as hf rfl (by decide) fun a hf => ?_
  refine tl_nil ?_
  repeat refine seq ?_
  refine regn 5 hf (by decide +kernel) ?_
  refine st (mv rfl) ?_
  refine st (mv rfl) ?_
  refine st (call2 En84 rfl rfl (fun v u w he h h' => by cases h; cases h'; exact nof_spec _ w)) ?_
  refine st (fieldD rfl Tryz.underlying134 rfl T59 rfl (Fld.fst Fld.refl) (isR rfl)) ?_
  refine st (call1 En83 rfl (fun v w he h => postG (G := Go.Mono.G0) (cloneI_spec [] v w h (by simp)) (fun b hb => hb.elim))) ?_
  refine en fun a w e' hf => ?_
  replace e := Ext.tr e e'
  clear e'
  refine tl_as hf rfl (by decide) fun a hf => ?_
  refine tl_nil ?_
  refine wret ?_
  try simp only [Exit.then, Exit.inBlock]
  refine ret1 rfl hf rfl ?_
  intro v hv
  exact ⟨_, rfl, e, hv⟩

theorem nequal_spec (p q : Option Addr) (hpq : p = none ∨ q = none) (W : World) : Calls Tryz.prog 28 #[.pointer p, .pointer q] W (Post (E (B (p.isNone && q.isNone))) W) := by
  refine enter (args := [.pointer p, .pointer q]) (As := [E (.pointer p), E (.pointer q)]) Tryz.func28 rfl Tryz.ntmps28 (Nat.le_of_ble_eq_true rfl) ?_ (fun a hf => ?_) (Nat.le_of_ble_eq_true rfl)
  rotate_left
  dsimp only [params, Nat.reduceAdd] at hf
  rotate_right
  · exact arg2 rfl rfl
  have e := Ext.rfl' W
  repeat refine seq ?_
  refine regn0 ?_
  refine tl_as hf rfl (by decide) fun a hf => ?_
  refine tl_nil ?_
  rcases hpq with rfl | rfl
  · repeat refine seq ?_
    refine regn 6 hf (by decide +kernel) ?_
    refine st (mv rfl) ?_
    refine st (nilCE Tryz.underlying27 rfl) ?_
    refine st (mv rfl) ?_
    first | refine sn rfl rfl rfl ?_ | refine su rfl rfl ?_ | refine sy rfl rfl (mv rfl) ?_
    first | refine sn rfl rfl rfl ?_ | refine su rfl rfl ?_ | refine sy rfl rfl (nilCE Tryz.underlying27 rfl) ?_
    first | refine st (pkT rfl rfl) ?_ | refine st (pkF rfl rfl) ?_ | refine st (pk rfl rfl rfl) ?_
    refine en fun a w e' hf => ?_
    replace e := Ext.tr e e'
    clear e'
    refine tl_nil ?_
    repeat refine seq ?_
    refine ifc hf rfl (fun _ => ?_) (fun h => by cases h)
    repeat refine seq ?_
    refine regn 3 hf (by decide +kernel) ?_
    refine st (mv rfl) ?_
    refine st (mv rfl) ?_
    refine st (eqlPP Tryz.underlying27 rfl rfl (.inl rfl)) ?_
    refine en fun a w e' hf => ?_
    replace e := Ext.tr e e'
    clear e'
    refine tl_as hf rfl (by decide) fun a hf => ?_
    refine tl_nil ?_
    refine wret ?_
    try simp only [Exit.then, Exit.inBlock]
    refine ret1 rfl hf rfl ?_
    rintro _ rfl
    exact ⟨_, rfl, e, rfl⟩
  · cases p
    · repeat refine seq ?_
      refine regn 6 hf (by decide +kernel) ?_
      refine st (mv rfl) ?_
      refine st (nilCE Tryz.underlying27 rfl) ?_
      refine st (mv rfl) ?_
      first | refine sn rfl rfl rfl ?_ | refine su rfl rfl ?_ | refine sy rfl rfl (mv rfl) ?_
      first | refine sn rfl rfl rfl ?_ | refine su rfl rfl ?_ | refine sy rfl rfl (nilCE Tryz.underlying27 rfl) ?_
      first | refine st (pkT rfl rfl) ?_ | refine st (pkF rfl rfl) ?_ | refine st (pk rfl rfl rfl) ?_
      refine en fun a w e' hf => ?_
      replace e := Ext.tr e e'
      clear e'
      refine tl_nil ?_
      repeat refine seq ?_
      refine ifc hf rfl (fun _ => ?_) (fun h => by cases h)
      repeat refine seq ?_
      refine regn 3 hf (by decide +kernel) ?_
      refine st (mv rfl) ?_
      refine st (mv rfl) ?_
      refine st (eqlPP Tryz.underlying27 rfl rfl (.inr rfl)) ?_
      refine en fun a w e' hf => ?_
      replace e := Ext.tr e e'
      clear e'
      refine tl_as hf rfl (by decide) fun a hf => ?_
      refine tl_nil ?_
      refine wret ?_
      try simp only [Exit.then, Exit.inBlock]
      refine ret1 rfl hf rfl ?_
      rintro _ rfl
      exact ⟨_, rfl, e, rfl⟩
    · repeat refine seq ?_
      refine regn 6 hf (by decide +kernel) ?_
      refine st (mv rfl) ?_
      refine st (nilCE Tryz.underlying27 rfl) ?_
      refine st (mv rfl) ?_
      first | refine sn rfl rfl rfl ?_ | refine su rfl rfl ?_ | refine sy rfl rfl (mv rfl) ?_
      first | refine sn rfl rfl rfl ?_ | refine su rfl rfl ?_ | refine sy rfl rfl (nilCE Tryz.underlying27 rfl) ?_
      first | refine st (pkT rfl rfl) ?_ | refine st (pkF rfl rfl) ?_ | refine st (pk rfl rfl rfl) ?_
      refine en fun a w e' hf => ?_
      replace e := Ext.tr e e'
      clear e'
      refine tl_nil ?_
      repeat refine seq ?_
      refine ifc hf rfl (fun _ => ?_) (fun h => by cases h)
      repeat refine seq ?_
      refine regn 3 hf (by decide +kernel) ?_
      refine st (mv rfl) ?_
      refine st (mv rfl) ?_
      refine st (eqlPP Tryz.underlying27 rfl rfl (.inr rfl)) ?_
      refine en fun a w e' hf => ?_
      replace e := Ext.tr e e'
      clear e'
      refine tl_as hf rfl (by decide) fun a hf => ?_
      refine tl_nil ?_
      refine wret ?_
      try simp only [Exit.then, Exit.inBlock]
      refine ret1 rfl hf rfl ?_
      rintro _ rfl
      exact ⟨_, rfl, e, rfl⟩
end Go.Mono
