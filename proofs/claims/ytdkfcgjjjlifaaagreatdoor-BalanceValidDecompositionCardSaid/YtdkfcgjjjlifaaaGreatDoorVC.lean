/-
  Walks and plain facts, in this order: Range, Range2, MonoP, Sets, Nb, Range3, MonoR, Clone, Trees, Comp, Pop, Len, Bal1, Bal2, Out, Bal3, Bal4, Bal5, Split.
  No condition.
-/
import Derived.Test.YtdkfcgjjjlifaaaGreatDoorVB
import Derived.RangeFuncRecord
import Derived.ArgAppend
set_option linter.unusedVariables false
set_option linter.unusedSimpArgs false
namespace Go.Mono
open Go Go.Proofs Go.RowKit

/-- the elements, ascending -/
def elems (S : BS) : List Nat := (List.range 1024).filter fun i => S.getLsbD i
theorem mem_elems {S : BS} {i : Nat} : i ∈ elems S ↔ i < 1024 ∧ S.getLsbD i = true := by simp [elems, List.mem_filter]
theorem elems_zero : elems 0 = [] := by
  refine List.filter_eq_nil_iff.2 fun i _ => by simp
theorem range_at (n k : Nat) (hk : k < n) : List.range n = List.range k ++ k :: (List.range (n - (k + 1))).map (fun i => k + 1 + i) := by
  have h1 : List.range n = List.range (k + (1 + (n - (k + 1)))) := congrArg List.range (by omega)
  rw [h1, List.range_add, List.range_add, List.map_append, List.map_map]
  simp [Function.comp, Nat.add_assoc]
theorem elems_min {S : BS} {k : Nat} (h : minOf S = some k) : elems S = k :: elems (del S k) := by
  obtain ⟨hk, hb, h0⟩ := minOf_some.1 h
  have hfit : fitsB (k : Int) = true := fitsB_iff.2 ⟨by omega, by omega⟩
  have hdel : ∀ i, (del S (k : Int)).getLsbD i = (S.getLsbD i && !decide (i = k)) := by
    intro i
    rw [del, if_pos hfit, BitVec.getLsbD_and, BitVec.getLsbD_not, Int.toNat_natCast, sgl_bit _ _ hk]
    by_cases hi : i < 1024
    · simp [hi]
    · simp [hi, BitVec.getLsbD_of_ge S i (by omega)]
  unfold elems
  rw [range_at 1024 k hk, List.filter_append, List.filter_append, List.filter_cons_of_pos (by simpa using hb), List.filter_cons_of_neg (by simp [hdel])]
  have z1 : (List.range k).filter (fun i => S.getLsbD i) = [] := List.filter_eq_nil_iff.2 fun i hi => by simpa using h0 i (List.mem_range.1 hi)
  have z2 : (List.range k).filter (fun i => (del S (k : Int)).getLsbD i) = [] := List.filter_eq_nil_iff.2 fun i hi => by simp [hdel, h0 i (List.mem_range.1 hi)]
  rw [z1, z2, List.nil_append, List.nil_append]
  refine congrArg (k :: ·) (List.filter_congr fun i hi => ?_)
  obtain ⟨j, _, rfl⟩ := List.mem_map.1 hi
  rw [hdel]
  simp
  omega
theorem elems_none {S : BS} (h : minOf S = none) : elems S = [] := by rw [minOf_none.1 h]; exact elems_zero

/-- a set's iterator, over the box b -/
def seqV (b : Nat) : Value := .func (.func 116) #[] #[.pointer (some ⟨b, 0, none⟩)]
/-- what All returns: boxes from n on -/
def SeqA (n : Nat) (S : BS) : VA := ⟨fun v w => ∃ b, n ≤ b ∧ v = seqV b ∧ Blk w b (setC S) 67, fun v w w' e ⟨b, h1, h2, h3⟩ => ⟨b, h1, h2, h3.ext e⟩⟩

theorem all_spec (S : BS) (W : World) : Calls Tryz.prog 58 #[setV S] W (Post (SeqA W.heap.size S) W) := by
  refine enter (args := [setV S]) (As := [E (setV S)]) Tryz.func58 rfl Tryz.ntmps58 (Nat.le_of_ble_eq_true rfl) ?_ (fun a hf => ?_) (Nat.le_of_ble_eq_true rfl)
  rotate_left
  dsimp only [params, Nat.reduceAdd] at hf
  rotate_right
  · exact arg1 rfl
  have e := Ext.rfl' W
  repeat refine seq ?_
  refine regn0 ?_
  refine tl_box hf rfl (by decide) fun a b1 w v1 hv1 e' hb1 hs1 B1 hf => ?_
  have hle1 := Nat.le_trans e.size (Nat.le_of_eq hb1.symm)
  replace e := Ext.tr e e'
  clear e'
  refine tl_as hf rfl (by decide) fun a hf => ?_
  refine tl_nil ?_
  subst hv1
  rw [setV_cells] at B1
  repeat refine seq ?_
  refine regn 1 hf (by decide +kernel) ?_
  refine st (makeF (vs := fun _ => .pointer (some ⟨b1, 0, none⟩)) (by intro x hx; simp at hx; subst hx; rfl)) ?_
  refine en fun a w e' hf => ?_
  replace e := Ext.tr e e'
  replace B1 := B1.ext e'
  clear e'
  refine tl_as hf rfl (by decide) fun a hf => ?_
  refine tl_nil ?_
  refine wret (ret1 rfl hf rfl ?_)
  rintro v rfl
  exact ⟨_, rfl, e, b1, hle1, by simp [seqV], B1⟩

/-! ### the iterator's own walk -/
/-- the machinery's blocks of a loop that begins at heap size B -/
def Hole (B b : Nat) : Prop := B ≤ b ∧ b < B + 3
/-- a step of the machinery: only its own blocks have turned -/
structure Kp (B : Nat) (w w' : World) : Prop where
  os : w'.os = w.os
  tape : w'.tape = w.tape
  output : w'.output = w.output
  size : w.heap.size ≤ w'.heap.size
  same : ∀ b, b < w.heap.size → ¬Hole B b → w'.heap[b]? = w.heap[b]?
/-- a step of a round: the machinery's blocks are as they were -/
structure Kh (B : Nat) (w w' : World) : Prop where
  size : w.heap.size ≤ w'.heap.size
  same : ∀ b, b < w.heap.size → Hole B b → w'.heap[b]? = w.heap[b]?
theorem Kp.rfl' (B : Nat) (w : World) : Kp B w w := ⟨rfl, rfl, rfl, Nat.le_refl _, fun _ _ _ => rfl⟩
theorem Kp.tr {B : Nat} {a b c : World} (h : Kp B a b) (k : Kp B b c) : Kp B a c :=
  ⟨k.os.trans h.os, k.tape.trans h.tape, k.output.trans h.output, Nat.le_trans h.size k.size, fun x hx hh => (k.same x (Nat.lt_of_lt_of_le hx h.size) hh).trans (h.same x hx hh)⟩
theorem Kp.ext {B : Nat} {w w' : World} (e : Ext w w') : Kp B w w' := ⟨e.os, e.tape, e.output, e.size, fun b hb _ => e.block b hb⟩
theorem Kp.gr {B b : Nat} {w w' : World} (h : w.grownBy w' (some b)) (hb : Hole B b) : Kp B w w' :=
  ⟨h.os, h.tape, h.output, h.size, fun x hx hh => h.block x hx (fun e => by cases e; exact hh hb)⟩
theorem Kp.put {B b : Nat} {w : World} {o : Obj} (hb : Hole B b) : Kp B w (w.putObj b o) :=
  ⟨rfl, rfl, rfl, by simp, fun x hx hh => World.putObj_heap_other (fun e => by subst e; exact hh hb)⟩
theorem Kh.rfl' (B : Nat) (w : World) : Kh B w w := ⟨Nat.le_refl _, fun _ _ _ => rfl⟩
theorem Kh.tr {B : Nat} {a b c : World} (h : Kh B a b) (k : Kh B b c) : Kh B a c := ⟨Nat.le_trans h.size k.size, fun x hx hh => (k.same x (Nat.lt_of_lt_of_le hx h.size) hh).trans (h.same x hx hh)⟩
theorem Kh.ext {B : Nat} {w w' : World} (e : Ext w w') : Kh B w w' := ⟨e.size, fun b hb _ => e.block b hb⟩
theorem Kh.gr {B b : Nat} {w w' : World} (h : w.grownBy w' (some b)) (hb : ¬Hole B b) : Kh B w w' := ⟨h.size, fun x hx hh => h.block x hx (fun e => by cases e; exact hb hh)⟩
theorem Ext.kp {B : Nat} {W w w' : World} (e : Ext W w) (k : Kp B w w') (h : W.heap.size ≤ B) : Ext W w' :=
  Below.trans e ⟨k.os, k.tape, k.output, k.size, fun b hb => k.same b (Nat.lt_of_lt_of_le hb e.size) (fun hh => by have := hh.1; omega)⟩
theorem Blk.kp {B b : Nat} {w w' : World} {cs : Array Value} {t : TypeId} (h : Blk w b cs t) (k : Kp B w w') (hb : ¬Hole B b) : Blk w' b cs t := (k.same b h.lt hb).trans h
theorem Blk.kh {B b : Nat} {w w' : World} {cs : Array Value} {t : TypeId} (h : Blk w b cs t) (k : Kh B w w') (hb : Hole B b) : Blk w' b cs t := (k.same b h.lt hb).trans h
theorem Tab.kp {B : Nat} {w w' : World} (h : Tab w) (k : Kp B w w') (hB : 0 < B) : Tab w' := fun i hi =>
  (World.cell?_of_block (k.same 0 h.lt (fun hh => by have := hh.1; omega))).trans (h i hi)

/-- a call of yield, behind all others -/
theorem tl_y {P : Program} {L : Env} {ty : TypeId} {pos : String} {aft : Array Edge} {r : Option Nat} {ds : List Deferred} {ops : Array Oper} {rest : List Oper} {Q : Exit → Act → World → Prop} {n : Nat} {a : Act} {w : World} {x y : Operand} {tys : Array TypeId} {d l : Nat} {v : Value}
    {R : Value → World → Prop} (hf : FrD n ds a w L) (hx : opd L x = some (E (.func (.yield l) #[] #[]))) (hy : opd L y = some (E v))
    (h : ∃ fn tmps assign body, (Instr.yield l #[v]).run P w = .ok (.round l fn tmps assign body) w ∧ RoundIn Fence.wide 0 P l fn tmps assign body w (fun e w2 => ∃ u, e = .returned u ∧ R u w2))
    (k : ∀ u w2, R u w2 → wpListIn (FW r) 0 P ops Q rest (a.put (some d) u) w2) :
    wpListIn (FW r) 0 P ops Q (⟨some d, .call ⟨.value x, #[y], tys⟩, ty, pos, aft, none⟩ :: rest) a w :=
  wpListIn_plain rfl fun K hK => by
    obtain ⟨fn, tmps, assign, body, hrun, hR⟩ := h
    have hxv : a.eval x = .func (.yield l) #[] #[] := hf.opd x _ hx
    have hyv : a.eval y = v := hf.opd y _ hy
    refine OpR.wp (R := R) ?_ (fun u w2 hu => hK _ _ (k u w2 hu))
    simp [OpR, execOp, resolve, hxv, hyv, Deferred.ofValue, invoke, hrun]
    exact hR

/-- between two rounds: s has come; the iterator is at a world that the rounds' own word I holds of -/
theorem iter_spec (S : BS) (l b B0 : Nat) (W : World) (I : List Nat → World → Prop) (X : World → Prop) (hT : Tab W) (hb : Blk W b (setC S) 67) (hB : b < B0) (hBW : B0 ≤ W.heap.size) (hW3 : W.heap.size < B0 + 3) (h0 : I [] W)
    (hI : ∀ (s : List Nat) (w w' : World), I s w → Kp B0 w w' → W.heap.size ≤ w.heap.size → (∀ x, x < W.heap.size → w'.heap[x]? = w.heap[x]?) → I s w')
    (hX : ∀ w w', X w → Ext w w' → X w')
    (hE : ∀ s w, I s w → Tab w)
    (hy : ∀ (s : List Nat) (x : Nat) (rest : List Nat) (w : World), elems S = s ++ x :: rest → I s w → W.heap.size < w.heap.size → ∃ fn tmps assign body, (Instr.yield l #[Mono.I x]).run Tryz.prog w = .ok (.round l fn tmps assign body) w ∧
      RoundIn Fence.wide 0 Tryz.prog l fn tmps assign body w (fun e w2 => ∃ u, e = .returned u ∧ ((u = .bool true ∧ I (s ++ [x]) w2 ∧ w.heap.size ≤ w2.heap.size ∧ w2.heap[W.heap.size]? = w.heap[W.heap.size]?) ∨ (u = .bool false ∧ X w2)))) :
    Calls Tryz.prog 116 #[.func (.yield l) #[] #[], .pointer (some ⟨b, 0, none⟩)] W (fun e w' => e = .returned (.tuple #[]) ∧ (I (elems S) w' ∨ X w')) := by
  refine enter (args := [.func (.yield l) #[] #[], .pointer (some ⟨b, 0, none⟩)]) (As := [E (.func (.yield l) #[] #[]), E (.pointer (some ⟨b, 0, none⟩))]) Tryz.func116 rfl Tryz.ntmps116 (Nat.le_of_ble_eq_true rfl) ?_ (fun a hf => ?_) (Nat.le_of_ble_eq_true rfl)
  rotate_left
  dsimp only [params, Nat.reduceAdd] at hf
  rotate_right
  · exact arg2 rfl rfl
  have e := Ext.rfl' W
  repeat refine seq ?_
  refine regn0 ?_
  refine tl_ldW T67 hf rfl hb (setC_size _) (by decide) fun a hf => ?_
  refine tl_alloc I67 hf (by decide) fun a b3 w e' hb3 hs3 B3 hf => ?_
  have hle3 := Nat.le_trans e.size (Nat.le_of_eq hb3.symm)
  replace e := Ext.tr e e'
  replace hb := hb.ext e'
  clear e'
  haveI hinr : ∀ G0, InR (GB W G0) (some b3) := fun G0 => InR.gb (by omega)
  refine tl_stW T67 hf rfl rfl (wordsC_one _) B3 rfl (rfl) fun w hg hsz B3 hf => ?_
  replace e := e.gr hg (by omega)
  replace hb := hb.gr hg (by omega)
  clear hg
  refine tl_nil ?_
  have k0 : I [] w := hI [] W w h0 (Kp.ext ⟨e.os, e.tape, e.output, e.size, e.block⟩) (Nat.le_refl _) (fun x hx => e.block x hx)
  obtain rfl : b3 = W.heap.size := by omega
  have hlt3 : W.heap.size < w.heap.size := by omega
  clear hb hT
  have hT := hE _ _ k0
  clear e
  repeat refine seq ?_
  refine regn 5 hf (by decide +kernel) ?_
  refine st (ldW T67 rfl (by assumption) rfl) ?_
  refine st (call1 En114 rfl (fun v w' e' h => by cases h; exact min_spec S w' (hT.ext e'))) ?_
  refine st (mv rfl) ?_
  refine st (ext_ rfl rfl) ?_
  refine st (ext_ rfl rfl) ?_
  refine en fun a w e' hf => ?_
  replace hT := hE _ _ k0
  replace k0 := hI _ _ _ k0 (Kp.ext e') (by omega) (fun x hx => e'.block x (by omega))
  replace hlt3 := Nat.lt_of_lt_of_le hlt3 e'.size
  replace B3 := B3.ext e'
  clear e'
  refine tl_as hf rfl (by decide) fun a hf => ?_
  refine tl_as hf rfl (by decide) fun a hf => ?_
  refine tl_nil ?_
  replace hf := hf.keep [0, 3, 4, 5]
  dsimp only [keep, List.filterMap, look, Nat.beq, Option.map] at hf
  repeat refine seq ?_
  refine blk (loopN (fun r a w => ∃ (T : BS) (s : List Nat), r = (elems T).length ∧ elems S = s ++ elems T ∧ Fr 25 a w [(0, E (.func (.yield l) #[] #[])), (3, E (.pointer (some ⟨W.heap.size, 0, none⟩))), (4, E (Mono.I ((minOf T).getD 0 : Nat))), (5, E (B (minOf T).isSome))] ∧
    I s w ∧ Blk w W.heap.size (setC T) 67 ∧ W.heap.size < w.heap.size) (elems S).length ⟨S, [], Eq.refl (elems S).length, (List.nil_append _).symm, hf, k0, B3, hlt3⟩ ?_)
  clear hf k0 B3 hlt3 hT
  rintro r a w ⟨T, s, hr, hs, hf, k0, B3, hlt3⟩
  have hT := hE _ _ k0
  cases hm : minOf T with
  | none =>
    rw [hm] at hf
    repeat refine seq ?_
    refine regn 1 hf (by decide +kernel) ?_
    refine st (mv rfl) ?_
    refine en fun a w e' hf => ?_
    replace hT := hE _ _ k0
    replace k0 := hI _ _ _ k0 (Kp.ext e') (by omega) (fun x hx => e'.block x (by omega))
    replace hlt3 := Nat.lt_of_lt_of_le hlt3 e'.size
    replace B3 := B3.ext e'
    clear e'
    refine tl_nil ?_
    repeat refine seq ?_
    refine ifc hf rfl (fun h => by cases h) (fun _ => wexit ?_)
    simp only [Exit.then, Exit.inBlock, ↓reduceIte]
    rw [elems_none hm, List.append_nil] at hs
    exact ret0n rfl hf ⟨rfl, .inl (hs ▸ k0)⟩
  | some k =>
    rw [hm] at hf
    have he := elems_min hm
    repeat refine seq ?_
    refine regn 1 hf (by decide +kernel) ?_
    refine st (mv rfl) ?_
    refine en fun a w e' hf => ?_
    replace hT := hE _ _ k0
    replace k0 := hI _ _ _ k0 (Kp.ext e') (by omega) (fun x hx => e'.block x (by omega))
    replace hlt3 := Nat.lt_of_lt_of_le hlt3 e'.size
    replace B3 := B3.ext e'
    clear e'
    refine tl_nil ?_
    repeat refine seq ?_
    refine ifc hf rfl (fun _ => wskip ?_) (fun h => by cases h)
    repeat refine seq ?_
    refine blk ?_
    repeat refine seq ?_
    refine regn 2 hf (by decide +kernel) ?_
    refine st (mv rfl) ?_
    refine st (mv rfl) ?_
    refine en fun a w e' hf => ?_
    replace hT := hE _ _ k0
    replace k0 := hI _ _ _ k0 (Kp.ext e') (by omega) (fun x hx => e'.block x (by omega))
    replace hlt3 := Nat.lt_of_lt_of_le hlt3 e'.size
    replace B3 := B3.ext e'
    clear e'
    refine tl_y hf rfl rfl (hy s k (elems (del T k)) w (by rw [hs, he]) k0 hlt3) fun u w2 hu => ?_
    rcases hu with ⟨rfl, kI, hsz, hrb⟩ | ⟨rfl, kX⟩
    · replace hf := (hf.pure w2).put (d := some 20) (Ext.rfl' _) (by rintro _ ⟨⟩; decide) (A := E (.bool true)) rfl
      dsimp only [push] at hf
      replace k0 := kI
      replace B3 : Blk w2 W.heap.size (setC T) 67 := hrb.trans B3
      replace hlt3 := Nat.lt_of_lt_of_le hlt3 hsz
      clear kI hrb hT
      refine tl_op hf (by decide) (notp rfl) fun a w e' hf => ?_
      replace hT := hE _ _ k0
      replace k0 := hI _ _ _ k0 (Kp.ext e') (by omega) (fun x hx => e'.block x (by omega))
      replace hlt3 := Nat.lt_of_lt_of_le hlt3 e'.size
      replace B3 := B3.ext e'
      clear e'
      refine tl_nil ?_
      repeat refine seq ?_
      refine ifc hf rfl (fun h => by cases h) (fun _ => wskip ?_)
      replace hf := hf.keep [0, 3, 4]
      dsimp only [keep, List.filterMap, look, Nat.beq, Option.map] at hf
      repeat refine seq ?_
      refine regn 2 hf (by decide +kernel) ?_
      refine st (ldW T67 rfl (by assumption) rfl) ?_
      refine st (mv rfl) ?_
      refine en fun a w e' hf => ?_
      replace hT := hE _ _ k0
      replace k0 := hI _ _ _ k0 (Kp.ext e') (by omega) (fun x hx => e'.block x (by omega))
      replace hlt3 := Nat.lt_of_lt_of_le hlt3 e'.size
      replace B3 := B3.ext e'
      clear e'
      refine tl_op hf (by decide) (call2 En117 rfl rfl (fun v u w' e' h h' => by cases h; cases h'; exact without_spec T k w')) fun a w e' hf => ?_
      replace hT := hE _ _ k0
      replace k0 := hI _ _ _ k0 (Kp.ext e') (by omega) (fun x hx => e'.block x (by omega))
      replace hlt3 := Nat.lt_of_lt_of_le hlt3 e'.size
      replace B3 := B3.ext e'
      clear e'
      refine tl_stW T67 hf rfl rfl (wordsC_one _) B3 rfl (rfl) fun w hg hsz B3 hf => ?_
      replace hT := hE _ _ k0
      replace k0 := hI _ _ _ k0 (Kp.gr hg ⟨hBW, hW3⟩) (by omega) (fun x hx => hg.block x (by omega) (by simp; omega))
      replace hlt3 := Nat.lt_of_lt_of_le hlt3 hg.size
      clear hg
      refine tl_nil ?_
      replace hf := hf.keep [0, 3]
      dsimp only [keep, List.filterMap, look, Nat.beq, Option.map] at hf
      have hT := hE _ _ k0
      repeat refine seq ?_
      refine regn 5 hf (by decide +kernel) ?_
      refine st (ldW T67 rfl (by assumption) rfl) ?_
      refine st (call1 En114 rfl (fun v w' e' h => by cases h; exact min_spec _ w' (hT.ext e'))) ?_
      refine st (mv rfl) ?_
      refine st (ext_ rfl rfl) ?_
      refine st (ext_ rfl rfl) ?_
      refine en fun a w e' hf => ?_
      replace hT := hE _ _ k0
      replace k0 := hI _ _ _ k0 (Kp.ext e') (by omega) (fun x hx => e'.block x (by omega))
      replace hlt3 := Nat.lt_of_lt_of_le hlt3 e'.size
      replace B3 := B3.ext e'
      clear e'
      refine tl_as hf rfl (by decide) fun a hf => ?_
      refine tl_as hf rfl (by decide) fun a hf => ?_
      refine tl_nil ?_
      replace hf := hf.keep [0, 3, 4, 5]
      dsimp only [keep, List.filterMap, look, Nat.beq, Option.map] at hf
      refine ⟨(elems (del T k)).length, by rw [hr, he]; exact Nat.lt_succ_self _, del T k, s ++ [k], Eq.refl (elems (del T k)).length, by rw [hs, he, List.append_assoc]; exact congrArg (s ++ ·) (List.singleton_append).symm, hf, k0, B3, hlt3⟩
    · replace hf := (hf.pure w2).put (d := some 20) (Ext.rfl' _) (by rintro _ ⟨⟩; decide) (A := E (.bool false)) rfl
      dsimp only [push] at hf
      refine tl_op hf (by decide) (notp rfl) fun a w e' hf => ?_
      replace kX := hX _ _ kX e'
      clear e'
      refine tl_nil ?_
      repeat refine seq ?_
      refine ifc hf rfl (fun _ => ?_) (fun h => by cases h)
      refine wret ?_
      simp only [Exit.then, Exit.inBlock]
      exact ret0 rfl hf ⟨rfl, .inr kX⟩
end Go.Mono

namespace Go.Mono
open Go Go.Proofs Go.RowKit

/-- what a round's body must come to -/
def Rd (J : List Nat → World → Prop) (X : Exit → World → Prop) (s : List Nat) (x B : Nat) (w3 : World) : Exit → Act → World → Prop
  | .normal, _, w => J (s ++ [x]) w ∧ Kh B w3 w
  | .ret, _, w => X .ret w ∧ Kh B w3 w
  | .exit id, _, w => X (.exit id) w ∧ Kh B w3 w
  | _, _, _ => False

def codeOf : Exit → Option Code
  | .ret => some .ret
  | .exit id => some (.exit id)
  | _ => none

section
variable {g : Operand} {p : Nat} {assign body : Code} {Q : Exit → Act → World → Prop} {n b : Nat} {ds : List Deferred} {a : Act} {w : World} {S : BS} {L : Env} {r : Option Nat}

/-- a function with such loops: its arguments as told; at its end the marks are met -/
theorem enterM {f : FuncId} {fn : Func} {c : Code} {n : Nat} {args : List Value} {As : List VA} {w : World} {R : Ending → World → Prop} (hf : Tryz.prog.funcs[f]? = some fn) (hb : fn.body = some c) (hn : fn.ntmps = n) (hl : args.length ≤ n)
    (hA : ∀ (i : Nat) (A : VA), As[i]? = some A → A.p (args.getD i undef) w) (h : ∀ a, Fr n a w (params 0 As) → c.wpIn (FW none) 0 Tryz.prog (bodyPostM (FW none) 0 Tryz.prog fn R) a w) (hlen : As.length ≤ args.length) : Calls Tryz.prog f args.toArray w R := by
  refine (callsIn_wide (n := 0)).1 (callsIn_of_wp_marks (F := Fence.wide) hf hb trivial (h _ ⟨?_, rfl, fun t A ht => ?_⟩))
  · simp [hn]; omega
  · obtain ⟨_, h2⟩ := look_params As 0 t A ht
    rw [Nat.sub_zero] at h2
    have hlt : t < As.length := (List.getElem?_eq_some_iff.1 h2).1
    have := hA t A h2
    have e : (args.toArray ++ Array.replicate (fn.ntmps - args.toArray.size) undef).getD t undef = args.getD t undef := by
      have : t < args.length := by omega
      simp [Array.getElem?_append, this]
    simp only [Act.eval, e]
    exact this
/-- the marks of loops that ran: their blocks hold nothing -/
def marks (l : List Nat) : List Deferred := l.map fun D => { target := .collected D, args := #[] }
def Ds (l : List Nat) (w : World) : Prop := l.Nodup ∧ ∀ D ∈ l, w.heap[D]? = some (.deferred (some []))
/-- the world with these blocks shut -/
def shut : List Nat → World → World
  | [], w => w
  | D :: l, w => shut l (w.putObj D (.deferred none))
theorem shut_heap : ∀ (l : List Nat) (w : World) (b : Nat), b ∉ l → (shut l w).heap[b]? = w.heap[b]?
  | [], w, b, _ => rfl
  | D :: l, w, b, h => by
    rw [shut, shut_heap l _ b (fun h' => h (by simp [h'])), World.putObj_heap_other (fun e => h (by simp [e]))]
theorem shut_os : ∀ (l : List Nat) (w : World), (shut l w).os = w.os ∧ (shut l w).tape = w.tape ∧ (shut l w).output = w.output ∧ (shut l w).heap.size = w.heap.size
  | [], w => ⟨rfl, rfl, rfl, rfl⟩
  | D :: l, w => by
    obtain ⟨h1, h2, h3, h4⟩ := shut_os l (w.putObj D (.deferred none))
    exact ⟨h1, h2, h3, by rw [shut, h4]; simp⟩
theorem Ext.shut {W w : World} {l : List Nat} (e : Ext W w) (h : ∀ D ∈ l, W.heap.size ≤ D) : Ext W (Mono.shut l w) := by
  obtain ⟨h1, h2, h3, h4⟩ := shut_os l w
  exact Below.trans e ⟨h1, h2, h3, by rw [h4]; exact Nat.le_refl _, fun b hb => shut_heap l w b (fun hm => by have := h b hm; omega)⟩
theorem leaves {fn : Func} {tmps : Array Value} {R : Ending → World → Prop} {v : Value} : ∀ (l : List Nat) (w : World), Ds l w → (results fn tmps).run Tryz.prog (shut l w) = .ok v (shut l w) → R (.returned v) (shut l w) →
    LeavesInM (FW none) 0 Tryz.prog fn tmps R (marks l) .returning w
  | [], w, _, hr, hR => ⟨v, hr, hR⟩
  | D :: l, w, hD, hr, hR => by
    have h1 := hD.2 D (by simp)
    have hnd := List.nodup_cons.1 hD.1
    refine ⟨by simp, .inl ⟨D, _, rfl, run_takeDeferred h1, leaves l _ ⟨hnd.2, fun d hd => ?_⟩ hr hR⟩⟩
    rw [World.putObj_heap_other (fun e => by subst e; exact hnd.1 hd)]
    exact hD.2 d (by simp [hd])
end
end Go.Mono

namespace Go.Mono
open Go Go.Proofs Go.RowKit

theorem OwR.neB {α : Type} {e : Enc α} {ty : TypeId} {B : Nat} {G : Nat → Prop} {w : World} {xs : List α} {v : Value} (h : OwR e ty B G w xs v) {b : Nat} {cs : Array Value} {t : TypeId} (hb : Blk w b cs t) (ht : t ≠ ty) : v.ownBlock ≠ some b := fun hv => by
  obtain ⟨cs', h1, _⟩ := h.own
  rcases h1.2 with ⟨rfl, _⟩ | ⟨g, cap, cur, rfl, _, hg, _⟩
  · simp [Value.ownBlock] at hv
  · simp only [Value.ownBlock, Option.some.injEq] at hv
    subst hv
    exact (Blk.ne hb hg ht) rfl
theorem OwR.chE {α : Type} {e : Enc α} [FlE e] {ty : TypeId} {B : Nat} {G : Nat → Prop} {w w' : World} {xs : List α} {v : Value} {S : Nat → Prop} (h : OwR e ty B G w xs v) (c : Chg S w w') (hS : ∀ b, v.ownBlock = some b → ¬S b) : OwR e ty B G w' xs v := by
  obtain ⟨cs, h1, h2⟩ := h.own
  refine ⟨⟨cs, ⟨h1.1, ?_⟩, Cells.fl h2⟩, h.av, Nat.le_trans h.base c.size⟩
  rcases h1.2 with h3 | ⟨g, cap, cur, a1, a2, a3, a4⟩
  · exact .inl h3
  · refine .inr ⟨g, cap, cur, a1, a2, ?_, a4⟩
    rw [c.block g (Array.getElem?_eq_some_iff.1 a3).1 (hS g (by rw [a1]; rfl))]
    exact a3
theorem call4 {P : Program} {w0 : World} {L : Env} {dst : Option Tmp} {ty : TypeId} {pos : String} {aft : Array Edge} {g : Option (Nat × Bool)} {f : FuncId} {x y z u : Operand} {tys : Array TypeId} {A B C D F : VA} (hf : Proofs.Enters P f) (hx : opd L x = some B) (hy : opd L y = some C) (hz : opd L z = some D) (hu : opd L u = some F)
    (h : ∀ v u s t w, Ext w0 w → B.p v w → C.p u w → D.p s w → F.p t w → Calls P f #[v, u, s, t] w (Post A w)) :
    OpC P w0 L ⟨dst, .call ⟨.value (.func f), #[x, y, z, u], tys⟩, ty, pos, aft, g⟩ A :=
  opc_call hf fun ρ w he hv => by
    simpa using h (ρ x) (ρ y) (ρ z) (ρ u) w he (hv x (by simp [Op.operands, Call.operands]) _ hx) (hv y (by simp [Op.operands, Call.operands]) _ hy) (hv z (by simp [Op.operands, Call.operands]) _ hz) (hv u (by simp [Op.operands, Call.operands]) _ hu)
/-- the end of a function: what a block holds and a slot -/
theorem ret2c {P : Program} {fn : Func} {t u s k : Nat} {R : Ending → World → Prop} {n : Nat} {a : Act} {w : World} {L : Env} {b : Nat} {cs : Array Value} {bt : TypeId} {A : VA} (hr : fn.results = #[.cell t u, .tmp s]) (ht : TI P u true k) (hf : Fr n a w L) (h : look L t = some (E (.pointer (some ⟨b, 0, none⟩)))) (h' : look L s = some A)
    (hb : Blk w b cs bt) (hs : cs.size = k) (hR : ∀ x, A.p x w → R (.returned (.tuple #[.agg cs, x])) w) : bodyPost P fn R .ret a w := by
  have hv : a.tmps.getD t undef = .pointer (some ⟨b, 0, none⟩) := hf.val t _ h
  have hv' : a.tmps[t]?.getD undef = .pointer (some ⟨b, 0, none⟩) := by simpa using hv
  obtain ⟨d, h1, h2⟩ := ht.u
  have hl := run_loadVar_row (P := P) w b bt u cs (0, 0) d hb h1 (by cases d <;> simp_all) (by rw [ht.s, hs])
  exact ⟨hf.defers, .tuple #[.agg cs, a.eval (.tmp s)], by simp [results, hr, Act.eval, hv', asAddr, hl], hR _ (hf.val s A h')⟩
theorem makeF5 {P : Program} {w0 : World} {L : Env} {dst : Option Tmp} {ty : TypeId} {pos : String} {aft : Array Edge} {g : Option (Nat × Bool)} {fn : Fn} {x1 x2 x3 x4 x5 : Operand} {v1 v2 v3 v4 v5 : Value} (h1 : opd L x1 = some (E v1)) (h2 : opd L x2 = some (E v2)) (h3 : opd L x3 = some (E v3)) (h4 : opd L x4 = some (E v4)) (h5 : opd L x5 = some (E v5)) :
    OpC P w0 L ⟨dst, .makeFunc fn #[] #[x1, x2, x3, x4, x5], ty, pos, aft, g⟩ (E (.func fn #[] #[v1, v2, v3, v4, v5])) :=
  opc_pure fun ρ w _ hv => ⟨_, by
    have a1 := opE hv (x := x1) (by simp [Op.operands]) h1
    have a2 := opE hv (x := x2) (by simp [Op.operands]) h2
    have a3 := opE hv (x := x3) (by simp [Op.operands]) h3
    have a4 := opE hv (x := x4) (by simp [Op.operands]) h4
    have a5 := opE hv (x := x5) (by simp [Op.operands]) h5
    simp [execOp, Instr.makeFunc, a1, a2, a3, a4, a5], rfl⟩
end Go.Mono

namespace Go.Mono
open Go Go.Proofs Go.RowKit

theorem Kp.chg {B : Nat} {w w' : World} (k : Kp B w w') : Chg (Hole B) w w' := ⟨k.os, k.tape, k.output, k.size, fun b hb hh => k.same b hb hh⟩
theorem chg_shut (l : List Nat) (w : World) : Chg (fun c => c ∈ l) w (shut l w) := by
  obtain ⟨h1, h2, h3, h4⟩ := shut_os l w
  exact ⟨h1, h2, h3, by rw [h4]; exact Nat.le_refl _, fun b hb hS => shut_heap l w b hS⟩
theorem Tab.gr {w w' : World} {b : Nat} (h : Tab w) (hg : w.grownBy w' (some b)) (hb : 0 < b) : Tab w' := fun i hi => (World.cell?_of_block (hg.block 0 h.lt (by simp; omega))).trans (h i hi)
theorem Tab.ch {w w' : World} {S : Nat → Prop} (h : Tab w) (c : Chg S w w') (hS : ¬S 0) : Tab w' := fun i hi => (World.cell?_of_block (c.block 0 h.lt hS)).trans (h i hi)
theorem Tab.gro {w w' : World} {row : Option Nat} (h : Tab w) (hg : w.grownBy w' row) (hb : ∀ b, row = some b → 0 < b) : Tab w' := fun i hi => (World.cell?_of_block (hg.block 0 h.lt (fun e => by have := hb 0 e.symm; omega))).trans (h i hi)
theorem Dv.gro {α : Type} {e : Enc α} {G : Nat → Prop} {x : α} {v : Value} {w w' : World} {row : Option Nat} (h : (Dv e G x).p v w) (hg : w.grownBy w' row) (hG : ∀ b, row = some b → G b) : (Dv e G x).p v w' := by
  obtain ⟨cs, h1, h2⟩ := h
  exact ⟨cs, Enc.gro h1 hg hG, h2⟩
theorem Kh.gro {B : Nat} {w w' : World} {row : Option Nat} (hg : w.grownBy w' row) (h : ∀ b, row = some b → ¬Hole B b) : Kh B w w' := ⟨hg.size, fun x hx hh => hg.block x hx (fun e => h x e.symm hh)⟩
theorem own_hole {v v' : Value} {n B : Nat} (h : v'.ownBlock = v.ownBlock ∨ v'.ownBlock = some n) (hv : ∀ g, v.ownBlock = some g → ¬Hole B g) (hn : B + 3 ≤ n) : ∀ g, v'.ownBlock = some g → ¬Hole B g := fun g hg => by
  rcases h with h | h
  · rw [h] at hg; exact hv g hg
  · rw [h] at hg
    cases hg
    intro hh
    have := hh.2
    omega
theorem Chg.tr2 {S T : Nat → Prop} {W w w' : World} (h : Chg S W w) (k : Chg T w w') (hT : ∀ b, T b → S b ∨ W.heap.size ≤ b) : Chg S W w' :=
  ⟨k.os.trans h.os, k.tape.trans h.tape, k.output.trans h.output, Nat.le_trans h.size k.size, fun b hb hS => (k.block b (Nat.lt_of_lt_of_le hb h.size) (fun ht => (hT b ht).elim hS (fun h => by omega))).trans (h.block b hb hS)⟩

theorem elems_len (S : BS) : (elems S).length ≤ 1024 := by
  have := List.length_filter_le (fun i => S.getLsbD i) (List.range 1024)
  simpa [elems] using this

theorem neqS {P : Program} {w0 : World} {L : Env} {dst : Option Tmp} {ty : TypeId} {pos : String} {aft : Array Edge} {g : Option (Nat × Bool)} {x y : Operand} {t yt e : TypeId} {S T : BS} (ht : P.underlying t = some (.array 16 e)) (he : P.underlying e = some (.int .u64)) (hs : TI P e false 1) (hm : P.eqGuardType P.depth t = false) (hx : opd L x = some (E (setV S))) (hy : opd L y = some (E (setV T))) :
    OpC P w0 L ⟨dst, .binOp .neq t x y yt, ty, pos, aft, g⟩ (E (.bool (!(S == T)))) :=
  opc_neq hx hy (fun w => eqGuard_agg _ _ _ _ _ _ hm w) rfl fun w _ => by
    rw [← all_setC]
    exact run_equalIn_words ht he hs 9998 (word S) (word T) w
theorem ins_bit (S : BS) (n : Int) (k : Nat) (hk : k < 1024) : (ins S n).getLsbD k = (S.getLsbD k || decide (n = (k : Int))) := by
  unfold ins
  by_cases hf : fitsB n = true
  · have h := fitsB_iff.1 hf
    rw [if_pos hf, BitVec.getLsbD_or, sgl_bit _ _ (by omega)]
    congr 1
    rw [decide_eq_decide]; omega
  · rw [if_neg hf]
    have : ¬ n = (k : Int) := fun h => hf (fitsB_iff.2 (by omega))
    simp [this]
theorem foldl_ins_bit (k : Nat) (hk : k < 1024) : ∀ (l : List Int) (S : BS), (l.foldl ins S).getLsbD k = (S.getLsbD k || decide ((k : Int) ∈ l))
  | [], S => by simp
  | x :: l, S => by
    rw [List.foldl_cons, foldl_ins_bit k hk l, ins_bit _ _ _ hk, Bool.or_assoc]
    congr 1
    by_cases h1 : x = (k : Int)
    · simp [h1]
    · have : ¬ (k : Int) = x := Ne.symm h1
      simp [h1, this]
theorem set_ext {S T : BS} (h : ∀ k, k < 1024 → (S.getLsbD k = true ↔ T.getLsbD k = true)) : S = T :=
  BitVec.eq_of_getLsbD_eq fun k hk => Bool.eq_iff_iff.2 (h k hk)
/-- marks do not meet cells -/
theorem Ds.ne {D : List Nat} {w : World} (h : Ds D w) {b : Nat} {cs : Array Value} {t : TypeId} (hb : Blk w b cs t) : ¬ b ∈ D := fun hm => by
  have h1 := h.2 b hm
  unfold Blk at hb
  rw [hb] at h1
  cases h1
theorem Ds.lt {D : List Nat} {w : World} (h : Ds D w) {b : Nat} (hm : b ∈ D) : b < w.heap.size := (Array.getElem?_eq_some_iff.1 (h.2 b hm)).1
theorem Ds.ch {D : List Nat} {w w' : World} {S : Nat → Prop} (h : Ds D w) (c : Chg S w w') (hS : ∀ d ∈ D, ¬S d) : Ds D w' := ⟨h.1, fun d hd => (c.block d (h.lt hd) (hS d hd)).trans (h.2 d hd)⟩
theorem Ds.ext {D : List Nat} {w w' : World} (h : Ds D w) (e : Ext w w') : Ds D w' := ⟨h.1, fun d hd => (e.block d (h.lt hd)).trans (h.2 d hd)⟩
theorem Ds.gr {D : List Nat} {w w' : World} {b : Nat} (h : Ds D w) (hg : w.grownBy w' (some b)) (hb : ¬ b ∈ D) : Ds D w' := ⟨h.1, fun d hd => (hg.block d (h.lt hd) (fun he => hb (by cases he; exact hd))).trans (h.2 d hd)⟩
theorem Ds.nil (w : World) : Ds [] w := ⟨List.nodup_nil, fun d hd => by cases hd⟩
theorem Ds.cons {D : List Nat} {w : World} {d : Nat} (h : Ds D w) (hd : w.heap[d]? = some (.deferred (some []))) (hn : ¬ d ∈ D) : Ds (d :: D) w :=
  ⟨List.nodup_cons.2 ⟨hn, h.1⟩, fun x hx => by rcases List.mem_cons.1 hx with rfl | hx; exact hd; exact h.2 x hx⟩
theorem Blk.shut {w : World} {b : Nat} {cs : Array Value} {t : TypeId} {D : List Nat} (h : Blk w b cs t) (hb : ¬ b ∈ D) : Blk (shut D w) b cs t := (shut_heap D w b hb).trans h
theorem retcM {fn : Func} {t u s : Nat} {R : Ending → World → Prop} {n : Nat} {a : Act} {w : World} {b : Nat} {cs : Array Value} {bt : TypeId} {L : Env} {D : List Nat} (hr : fn.results = #[.cell t u]) (ht : TI Tryz.prog u true s) (hf : FrD n (marks D) a w L) (h : look L t = some (E (.pointer (some ⟨b, 0, none⟩))))
    (hb : Blk w b cs bt) (hs : cs.size = s) (hD : Ds D w) (hR : R (.returned (.agg cs)) (shut D w)) : bodyPostM (FW none) 0 Tryz.prog fn R .ret a w := by
  have hv : a.tmps.getD t undef = .pointer (some ⟨b, 0, none⟩) := hf.val t _ h
  obtain ⟨d, h1, h2⟩ := ht.u
  show LeavesInM _ _ _ _ _ _ _ _ _
  rw [hf.defers]
  exact leaves D w hD (results_cell_row hr a.tmps (shut D w) b bt cs (0, 0) d hv (hb.shut (hD.ne hb)) h1 (by cases d <;> simp_all) (by rw [ht.s, hs])) hR
/-- a function's end behind such loops: its result stands in a slot -/
theorem ret1M {fn : Func} {t : Nat} {R : Ending → World → Prop} {n : Nat} {a : Act} {w : World} {v : Value} {L : Env} {D : List Nat} (hr : fn.results = #[.tmp t]) (hf : FrD n (marks D) a w L) (h : look L t = some (E v))
    (hD : Ds D w) (hR : R (.returned v) (shut D w)) : bodyPostM (FW none) 0 Tryz.prog fn R .ret a w := by
  have hv : a.tmps.getD t undef = v := hf.val t _ h
  show LeavesInM _ _ _ _ _ _ _ _ _
  rw [hf.defers]
  exact leaves D w hD (by rw [← hv]; exact results_tmp hr _ _ _) hR
theorem retc1M {fn : Func} {t u : Nat} {R : Ending → World → Prop} {n : Nat} {a : Act} {w : World} {b : Nat} {v : Value} {bt : TypeId} {L : Env} {D : List Nat} (hr : fn.results = #[.cell t u]) (ht : TI Tryz.prog u false 1) (hf : FrD n (marks D) a w L) (h : look L t = some (E (.pointer (some ⟨b, 0, none⟩))))
    (hb : Blk w b #[v] bt) (hD : Ds D w) (hR : R (.returned v) (shut D w)) : bodyPostM (FW none) 0 Tryz.prog fn R .ret a w := by
  have hv : a.tmps.getD t undef = .pointer (some ⟨b, 0, none⟩) := hf.val t _ h
  have hv' : a.tmps[t]?.getD undef = .pointer (some ⟨b, 0, none⟩) := by simpa using hv
  have hc : (shut D w).cell? ⟨b, 0, none⟩ = some v := by rw [(hb.shut (hD.ne hb)).cell 0]; rfl
  show LeavesInM _ _ _ _ _ _ _ _ _
  rw [hf.defers]
  exact leaves D w hD (by simp [results, hr, hv', asAddr, loadVar1 ht hc]) hR
theorem ret0M {fn : Func} {R : Ending → World → Prop} {n : Nat} {a : Act} {w : World} {L : Env} {D : List Nat} (hr : fn.results = #[]) (hf : FrD n (marks D) a w L) (hD : Ds D w) (hR : R (.returned (.tuple #[])) (shut D w)) : bodyPostM (FW none) 0 Tryz.prog fn R .normal a w := by
  show LeavesInM _ _ _ _ _ _ _ _ _
  rw [hf.defers]
  exact leaves D w hD (results_none hr _ _ _) hR
end Go.Mono

namespace Go.Mono
open Go Go.Proofs Go.RowKit

/-- the neighbours of bag j among the first k rows -/
def adjK (t : List (Int × BS)) (k j : Nat) : BS :=
  (List.range k).foldl (fun S i => if (bg t i).1 < 0 then S else if (bg t i).1 = (j : Int) then ins S (i : Int) else if i = j then ins S (bg t i).1 else S) 0
def adjL (t : List (Int × BS)) : List BS := (List.range t.length).map (adjK t t.length)
theorem adjK_root {t : List (Int × BS)} {k : Nat} (h : (bg t k).1 < 0) (j : Nat) : adjK t (k + 1) j = adjK t k j := by
  unfold adjK
  rw [List.range_succ, List.foldl_append, List.foldl_cons, List.foldl_nil, if_pos h]
theorem adjK_step {t : List (Int × BS)} {k q : Nat} (h : (bg t k).1 = (q : Int)) (j : Nat) : adjK t (k + 1) j = if j = q then ins (adjK t k q) (k : Int) else if j = k then ins (adjK t k k) (q : Int) else adjK t k j := by
  unfold adjK
  rw [List.range_succ, List.foldl_append, List.foldl_cons, List.foldl_nil, if_neg (by omega), h]
  by_cases h1 : j = q
  · rw [if_pos h1, if_pos (by omega), h1]
  · rw [if_neg h1, if_neg (by omega)]
    by_cases h2 : j = k
    · rw [if_pos h2, if_pos h2.symm, h2]
    · rw [if_neg h2, if_neg (Ne.symm h2)]
noncomputable def NbA (t : List (Int × BS)) (G : Nat → Prop) : VA := ⟨fun v w => (chkR (toT t) = 0 ∧ (Dv (slE setE) G (adjL t)).p v w) ∨ (chkR (toT t) ≠ 0 ∧ v = .slice none 0 0), fun v w w' e h => h.imp (fun h => ⟨h.1, Dv.ex h.2 e⟩) id⟩
theorem up_ne {xs : List RB} (V : Vals xs) {i j : Nat} (hi : i < xs.length) (h : up xs i = (j : Int)) : j ≠ i := fun hj => by
  have := depth_step V hi h
  rw [hj] at this
  omega

theorem nb_spec {G : Nat → Prop} (t : List (Int × BS)) (v : Value) (W : World) (hT : Tab W) (h : (Dv treeE G t).p v W) (hl : t.length ≤ 1000) :
    Calls Tryz.prog 54 #[v] W (Post (Tup [NbA t Go.Mono.G0, E (I (chkR (toT t)))]) W) := by
  have hd : Rng t → (rootN t).length = 1 → Dp t t.length := fun h1 h2 => Dp.mk' (by omega) h1 h2
  have hck : chkT t t.length = chkR (toT t) := chkT_eq
  refine enter (args := [v]) (As := [Dv treeE (GB W Go.Mono.G0) t]) Tryz.func54 rfl Tryz.ntmps54 (Nat.le_of_ble_eq_true rfl) ?_ (fun a hf => ?_) (Nat.le_of_ble_eq_true rfl)
  rotate_left
  dsimp only [params, Nat.reduceAdd] at hf
  rotate_right
  · exact arg1 (Dv.toB (Dv.weak h fun b _ hb => hb.elim))
  have e := Ext.rfl' W
  have hT0 := hT.lt
  repeat refine seq ?_
  refine regn0 ?_
  refine tl_as hf rfl (by decide) fun a hf => ?_
  refine tl_as hf rfl (by decide) fun a hf => ?_
  refine tl_nil ?_
  repeat refine seq ?_
  refine regn 2 hf (by decide +kernel) ?_
  refine st (mv rfl) ?_
  refine st ((call1 En25 rfl (fun v w he h => chkT_spec t t.length _ w h (by omega) hd)).eq (congrArg (Value.int .i64) hck)) ?_
  refine en fun a w e' hf => ?_
  replace hT := hT.ext e'
  replace e := Ext.tr e e'
  clear e'
  refine tl_as hf rfl (by decide) fun a hf => ?_
  refine tl_nil ?_
  repeat refine seq ?_
  refine regn 2 hf (by decide +kernel) ?_
  refine st (mv rfl) ?_
  refine st (neq rfl rfl) ?_
  refine en fun a w e' hf => ?_
  replace hT := hT.ext e'
  replace e := Ext.tr e e'
  clear e'
  refine tl_nil ?_
  repeat refine seq ?_
  refine ifc hf rfl (fun hb => ?_) (fun hb => ?_)
  · have hb' : chkR (toT t) ≠ 0 := by simpa using hb
    repeat refine seq ?_
    refine regn 1 hf (by decide +kernel) ?_
    refine st (mv rfl) ?_
    refine en fun a w e' hf => ?_
    replace hT := hT.ext e'
    replace e := Ext.tr e e'
    clear e'
    refine tl_as hf rfl (by decide) fun a hf => ?_
    refine tl_as hf rfl (by decide) fun a hf => ?_
    refine tl_nil ?_
    refine wret (ret2 rfl hf rfl rfl ?_)
    rintro _ _ rfl rfl
    exact ⟨_, rfl, e, Tup.two (.inr ⟨hb', rfl⟩) rfl⟩
  have hb' : chkR (toT t) = 0 := by simpa using hb
  obtain ⟨h0, V⟩ := chkR_ok.1 hb'
  rw [toT_len] at h0
  have hr : Rng t := fun i hi => by have := V.range i (by rw [toT_len]; exact hi); rwa [toT_up hi, toT_len] at this
  clear hb
  refine wskip ?_
  try simp only [Exit.then, Exit.inBlock, ↓reduceIte]
  repeat refine seq ?_
  refine regn 3 hf (by decide +kernel) ?_
  refine st (mv rfl) ?_
  refine st (lenD Tryz.underlying23 (isR rfl)) ?_
  refine st ((gtr rfl rfl).eq (congrArg Value.bool (decide_eq_false (by omega)))) ?_
  refine en fun a w e' hf => ?_
  replace hT := hT.ext e'
  replace e := Ext.tr e e'
  clear e'
  refine tl_nil ?_
  repeat refine seq ?_
  refine ifc hf rfl (fun h => by cases h) (fun _ => ?_)
  refine wskip ?_
  try simp only [Exit.then, Exit.inBlock, ↓reduceIte]
  have hWs := e.size
  repeat refine seq ?_
  refine regn 3 hf (by decide +kernel) ?_
  refine st (mv rfl) ?_
  refine st (lenD Tryz.underlying23 (isR rfl)) ?_
  refine st (mkS Tryz.underlying107 I67 rfl (by omega) (by decide)) ?_
  refine en fun a w e' hf => ?_
  replace hT := hT.ext e'
  replace e := Ext.tr e e'
  clear e'
  refine tl_as hf rfl (by decide) fun a hf => ?_
  refine tl_nil ?_
  obtain ⟨u, hu, hf⟩ := hf.fix 5 rfl
  obtain ⟨b5, hle5, rfl, B5⟩ := hu
  replace hf := hf.keep [0, 5]
  dsimp only [keep, List.filterMap, look, Nat.beq, Option.map] at hf
  obtain ⟨n, hnn⟩ : ∃ n, n = t.length := ⟨_, rfl⟩
  have hWb : W.heap.size ≤ b5 := Nat.le_trans hWs hle5
  have h5T : 0 < b5 := Nat.lt_of_lt_of_le hT0 hWb
  simp only [Value.cells] at B5
  have R0 : SR t.length (fun j => adjK t 0 j) t.length (madeCells (setC 0) (t.length * 16)) := SR.made t.length
  replace B5 : Blk w b5 (madeCells (setC 0) (t.length * 16)) 67 := by have := B5; rwa [zeroC] at this
  haveI hin5 : InR (GB W Go.Mono.G0) (some b5) := ⟨fun c hc => by cases hc; exact .inr hWb⟩
  haveI his5 : InS (GB W Go.Mono.G0) (fun b => b = b5) := ⟨fun c hc => by cases hc; exact .inr hWb⟩
  repeat refine seq ?_
  refine regn 3 hf (by decide +kernel) ?_
  refine st (mv rfl) ?_
  refine st (lenD Tryz.underlying23 (isR rfl)) ?_
  refine st (mv rfl) ?_
  refine en fun a w e' hf => ?_
  replace hT := hT.ext e'
  replace e := Ext.tr e e'
  replace B5 := B5.ext e'
  clear e'
  refine tl_nil ?_
  generalize hcur : madeCells (setC 0) (t.length * 16) = cur' at B5 R0
  clear hcur
  replace hf := hf.keep [5, 19, 20, 21]
  dsimp only [keep, List.filterMap, look, Nat.beq, Option.map] at hf
  repeat refine seq ?_
  refine blk (loopN (fun r0 a w => ∃ (k : Nat) (cur : Array Value), r0 = t.length - k ∧ k ≤ t.length ∧ Fr 52 a w [(5, E (.slice (some ⟨b5, 0, none⟩) t.length t.length)), (19, Dv treeE (GB W Go.Mono.G0) t), (20, E (I (t.length : Nat))), (21, E (I k))] ∧ Ext W w ∧ Blk w b5 cur 67 ∧ Tab w ∧ SR t.length (fun j => adjK t k j) t.length cur) t.length ⟨0, cur', rfl, by omega, hf, e, B5, hT, R0⟩ ?_)
  clear hf e; try clear B5; try clear hT; try clear R0
  rintro r0 a w ⟨k, cur, rfl, hk, hf, e, B5, hT, R0⟩
  repeat refine seq ?_
  refine regn 1 hf (by decide +kernel) ?_
  refine st (lss rfl rfl) ?_
  refine en fun a w e' hf => ?_
  replace hT := hT.ext e'
  replace e := Ext.tr e e'
  replace B5 := B5.ext e'
  clear e'
  refine tl_nil ?_
  repeat refine seq ?_
  refine ifc hf rfl (fun hc => wskip ?_) (fun hc => wexit ?_)
  rotate_left
  rotate_left
  · have hlt : k < t.length := by have := of_decide_eq_true hc; (try dsimp only at this); omega
    clear hc
    replace hf := hf.keep [5, 19, 20, 21]
    dsimp only [keep, List.filterMap, look, Nat.beq, Option.map] at hf
    repeat refine seq ?_
    refine blk ?_
    have hx := bg_get hlt
    have l5 := B5.lt
    repeat refine seq ?_
    refine regn0 ?_
    refine tl_op hf (by decide) (mv rfl) fun a w e' hf => ?_
    replace hT := hT.ext e'
    replace e := Ext.tr e e'
    replace B5 := B5.ext e'
    clear e'
    refine tl_op hf (by decide) (idxD Tryz.underlying23 S70 (isR rfl) rfl (by omega) (hx)) fun a w e' hf => ?_
    replace hT := hT.ext e'
    replace e := Ext.tr e e'
    replace B5 := B5.ext e'
    clear e'
    refine tl_op hf (by decide) (ldBag T70 (isR rfl)) fun a w e' hf => ?_
    replace hT := hT.ext e'
    replace e := Ext.tr e e'
    replace B5 := B5.ext e'
    clear e'
    refine tl_alloc I70 hf (by decide) fun a b7 w e' hb7 hs7 B7 hf => ?_
    have hle7 := Nat.le_trans e.size (Nat.le_of_eq hb7.symm)
    have lt7_B5 := B5.lt
    replace hT := hT.ext e'
    replace e := Ext.tr e e'
    replace B5 := B5.ext e'
    clear e'
    refine tl_as hf rfl (by decide) fun a hf => ?_
    haveI hinr : ∀ G0, InR (GB W G0) (some b7) := fun G0 => InR.gb (by omega)
    refine tl_stW T70 hf rfl rfl (bagC_one _) B7 rfl (bagC_size _) fun w hg hsz B7 hf => ?_
    replace hT := hT.gr hg (by omega)
    replace e := e.gr hg (by omega)
    replace B5 := B5.gr hg (by omega)
    clear hg
    refine tl_nil ?_
    have hne : b7 ≠ b5 := by omega
    have hri := hr k hlt
    by_cases hu : (bg t k).1 < 0
    · repeat refine seq ?_
      refine regn 3 hf (by decide +kernel) ?_
      refine st (fldA Tryz.underlying70 rfl T3 (by decide) rfl) ?_
      refine st (ld1 T3 rfl B7 (bagC_0 _)) ?_
      refine st ((geq rfl rfl).eq (congrArg Value.bool (decide_eq_false (by omega)))) ?_
      refine en fun a w e' hf => ?_
      replace hT := hT.ext e'
      replace e := Ext.tr e e'
      replace B5 := B5.ext e'
      replace B7 := B7.ext e'
      clear e'
      refine tl_nil ?_
      repeat refine seq ?_
      refine ifc hf rfl (fun h => by cases h) (fun _ => ?_)
      refine wskip ?_
      try simp only [Exit.then, Exit.inBlock, ↓reduceIte]
      replace R0 := R0.cong (f' := fun j => adjK t (k + 1) j) fun i _ => (adjK_root hu i).symm
      try simp only [Exit.then, Exit.inBlock, ↓reduceIte]
      repeat refine seq ?_
      refine regn 1 hf (by decide +kernel) ?_
      refine st ((add rfl rfl (by omega)).eq (congrArg (Value.int .i64) (show (k : Int) + 1 = ((k + 1 : Nat) : Int) from rfl))) ?_
      refine en fun a w e' hf => ?_
      replace hT := hT.ext e'
      replace e := Ext.tr e e'
      replace B5 := B5.ext e'
      clear e'
      refine tl_op hf (by decide) (mv rfl) fun a w e' hf => ?_
      replace hT := hT.ext e'
      replace e := Ext.tr e e'
      replace B5 := B5.ext e'
      clear e'
      refine tl_nil ?_
      replace hf := hf.keep [5, 19, 20, 21]
      dsimp only [keep, List.filterMap, look, Nat.beq, Option.map] at hf
      refine ⟨_, ?_, k + 1, cur, rfl, by omega, hf, e, ?_⟩
      · omega
      exact ⟨B5, hT, R0⟩
    · obtain ⟨q, hq⟩ : ∃ q : Nat, (bg t k).1 = (q : Int) := ⟨(bg t k).1.toNat, by omega⟩
      have hql : q < t.length := by omega
      have hqk : q ≠ k := up_ne V (by rw [toT_len]; exact hlt) (by rw [toT_up hlt]; exact hq)
      repeat refine seq ?_
      refine regn 3 hf (by decide +kernel) ?_
      refine st (fldA Tryz.underlying70 rfl T3 (by decide) rfl) ?_
      refine st (ld1 T3 rfl B7 (bagC_0 _)) ?_
      refine st ((geq rfl rfl).eq (congrArg Value.bool (decide_eq_true (by omega)))) ?_
      refine en fun a w e' hf => ?_
      replace hT := hT.ext e'
      replace e := Ext.tr e e'
      replace B5 := B5.ext e'
      replace B7 := B7.ext e'
      clear e'
      refine tl_nil ?_
      repeat refine seq ?_
      refine ifc hf rfl (fun _ => ?_) (fun h => by cases h)
      obtain ⟨L5, hL5⟩ : ∃ L5, L5 = W.heap.size := ⟨_, rfl⟩
      repeat refine seq ?_
      refine regQ 22 [0, 0, 1, 1, 1, 0, 0, 0, 0, 0, 0, 0, 0, 0, 0, 0, 0, 0, 2, 0] (fun b => b = b5) (fun w => Blk w b5 (cur.toList.take (0 + ((k : Nat) : Int).toNat * 16) ++ (setC (ins (adjK t k k) (q : Int))).toList ++ cur.toList.drop (0 + ((k : Nat) : Int).toNat * 16 + 16)).toArray 67) (fun w w1 k h => h.ext k) Mix.mix hf (by decide +kernel) (by decide +kernel) ?_
      refine qa (mv rfl) ?_
      refine qa (mv rfl) ?_
      refine qf (fun w1 h1 => mv rfl) ?_
      refine qf (fun w1 h1 => fldA Tryz.underlying70 rfl T3 (by decide) rfl) ?_
      refine qf (fun w1 h1 => (ld1 T3 rfl (B7.ch (S := fun b => b = b5) h1 hne) (bagC_0 _)).eq (congrArg (Value.int .i64) hq)) ?_
      refine qa (mv rfl) ?_
      refine qa (mv rfl) ?_
      refine qa (idxS Tryz.underlying107 S67 rfl rfl (by omega)) ?_
      refine qa ((ldP T67 rfl B5 (by have := R0.size; omega)).eq (R0.get hlt)) ?_
      refine qa (fldA Tryz.underlying70 rfl T3 (by decide) rfl) ?_
      refine qa ((ld1 T3 rfl B7 (bagC_0 _)).eq (congrArg (Value.int .i64) hq)) ?_
      refine qa (call2 En87 rfl rfl (fun v u w he h h' => by cases h; cases h'; exact with_spec _ _ w)) ?_
      refine qa (mv rfl) ?_
      refine qa (fldA Tryz.underlying70 rfl T3 (by decide) rfl) ?_
      refine qa ((ld1 T3 rfl B7 (bagC_0 _)).eq (congrArg (Value.int .i64) hq)) ?_
      refine qa (idxS Tryz.underlying107 S67 rfl rfl (by omega)) ?_
      refine qa ((ldP T67 rfl B5 (by rw [Int.toNat_natCast]; have := R0.size; omega)).eq (R0.get hql)) ?_
      refine qa (mv rfl) ?_
      refine qk (call2 En87 rfl rfl (fun v u w he h h' => by cases h; cases h'; exact with_spec _ _ w)) ?_
      refine qa (idxS Tryz.underlying107 S67 rfl rfl (by omega)) ?_
      refine qx (zstP T67 rfl rfl (wordsC_one _) B5 (setC_size _) (by have := R0.size; omega) rfl) ?_
      refine qp (fun w1 h1 HF1 => idxS Tryz.underlying107 S67 rfl rfl (by omega)) ?_
      refine qe ?_
      refine fun a w hc HF hf => ?_
      try dsimp only [push] at hf
      replace e := e.ch hc fun b hb => by omega
      replace hT := hT.ch hc (by omega)
      replace B5 := HF
      have R1 := R0.put hlt (ins (adjK t k k) (q : Int))
      generalize hcu : (_ : List Value).toArray = cu1 at B5 R1
      clear HF hc hcu
      refine tl_stP T67 hf rfl rfl (wordsC_one _) B5 (setC_size _) (by rw [Int.toNat_natCast]; have := R1.size; omega) fun w hg hsz B5 hf => ?_
      replace hT := hT.gr hg (by omega)
      replace e := e.gr hg (by omega)
      clear hg
      refine tl_nil ?_
      replace R1 := (R1.put hql (ins (adjK t k q) (k : Int))).cong (f' := fun j => adjK t (k + 1) j) fun i _ => by
        rw [adjK_step hq i]
      obtain ⟨cu2, B5, R1⟩ : ∃ c, Blk w b5 c 67 ∧ SR t.length (fun j => adjK t (k + 1) j) t.length c := ⟨_, B5, R1⟩
      try simp only [Exit.then, Exit.inBlock, ↓reduceIte]
      repeat refine seq ?_
      refine regn 1 hf (by decide +kernel) ?_
      refine st ((add rfl rfl (by omega)).eq (congrArg (Value.int .i64) (show (k : Int) + 1 = ((k + 1 : Nat) : Int) from rfl))) ?_
      refine en fun a w e' hf => ?_
      replace hT := hT.ext e'
      replace e := Ext.tr e e'
      replace B5 := B5.ext e'
      clear e'
      refine tl_op hf (by decide) (mv rfl) fun a w e' hf => ?_
      replace hT := hT.ext e'
      replace e := Ext.tr e e'
      replace B5 := B5.ext e'
      clear e'
      refine tl_nil ?_
      replace hf := hf.keep [5, 19, 20, 21]
      dsimp only [keep, List.filterMap, look, Nat.beq, Option.map] at hf
      refine ⟨_, ?_, k + 1, cu2, rfl, by omega, hf, e, ?_⟩
      · omega
      exact ⟨B5, hT, R1⟩
  · obtain rfl : k = t.length := by have := of_decide_eq_false hc; (try dsimp only at this); omega
    clear hc
    simp only [Exit.then, Exit.inBlock, ↓reduceIte]
    have HV : (Dv (slE setE) Go.Mono.G0 (adjL t)).p (.slice (some ⟨b5, 0, none⟩) t.length t.length) w := R0.dv B5 fun h => h.elim
    repeat refine seq ?_
    refine regn 1 hf (by decide +kernel) ?_
    refine st (mv rfl) ?_
    refine en fun a w e' hf => ?_
    replace HV := Dv.ex HV e'
    replace e := Ext.tr e e'
    clear e'
    refine tl_as hf rfl (by decide) fun a hf => ?_
    refine tl_as hf rfl (by decide) fun a hf => ?_
    refine tl_nil ?_
    refine wret (ret2 rfl hf rfl rfl ?_)
    rintro _ _ rfl rfl
    exact ⟨_, rfl, e, Tup.two (.inl ⟨hb', HV⟩) (by rw [hb']; rfl)⟩
end Go.Mono

namespace Go.Mono
open Go Go.Proofs Go.RowKit

section
variable {g : Operand} {p : Nat} {assign body : Code} {Q : Exit → Act → World → Prop} {n b : Nat} {ds : List Deferred} {a : Act} {w : World} {S : BS} {L : Env} {r : Option Nat}

theorem range_core3 (lo : Nat) [PureL L] {l : Nat} {mark : List Deferred} {df : Nat} {D : Option Nat} (hf : FrD n ds a w L) (hx : opd L g = some (E (seqV b))) (hb : Blk w b (setC S) 67) (hp : p < n)
    (J : List Nat → World → Prop) (X : Exit → World → Prop)
    (henter : ∀ fn, ∃ W1, (Instr.enterLoop fn a.tmps #[p] assign body r).run Tryz.prog w = .ok (l, mark) W1 ∧ W1.heap[l]? = some (.loop { state := .ready, pending := none, fn, tmps := a.tmps, params := #[p], assign, body, defers := df }) ∧ Ext w W1 ∧
      W1.heap.size ≤ w.heap.size + 2 ∧ w.heap.size + lo ≤ W1.heap.size ∧ w.heap.size ≤ l ∧ ∀ d, D = some d → W1.heap[d]? = some (.deferred (some [])) ∧ d ≠ l ∧ w.heap.size ≤ d)
    (hT : ∀ s w1, J s w1 → Tab w1) (h0 : J [] w)
    (hJ : ∀ s w1 w2, J s w1 → w.heap.size ≤ w1.heap.size → Kp w.heap.size w1 w2 → J s w2)
    (hX : ∀ e w1 w2, X e w1 → w.heap.size ≤ w1.heap.size → Kp w.heap.size w1 w2 → X e w2)
    (hbody : ∀ (l s x) (rest : List Nat) (a1 : Act) (w1 : World), elems S = s ++ x :: rest → J s w1 → w.heap.size + lo < w1.heap.size → FrD n [] a1 w1 ((p, E (I (x : Nat))) :: L) →
      assign.wpIn (FW (some l)) 0 Tryz.prog (Exit.then (fun a2 w2 => Kh w.heap.size w1 w2 ∧ ∀ w3, Kp w.heap.size w2 w3 → w3.heap.size = w2.heap.size → body.wpIn (FW (some l)) 0 Tryz.prog (Rd J X s x w.heap.size w3) a2 w3) (fun _ _ _ => False)) a1 w1)
    (hdone : ∀ a' w', FrD n (mark ++ ds) a' w' L → J (elems S) w' → w.heap.size ≤ w'.heap.size → (∀ d, D = some d → w'.heap[d]? = some (.deferred (some []))) → Q .normal a' w')
    (hexit : ∀ e c a' w', codeOf e = some c → FrD n (mark ++ ds) a' w' L → X e w' → w.heap.size ≤ w'.heap.size → (∀ d, D = some d → w'.heap[d]? = some (.deferred (some []))) → Q e a' w') :
    (Code.rangeFunc g #[p] assign body).wpIn (FW r) 0 Tryz.prog Q a w := by
  have hxv : a.eval g = seqV b := hf.opd g _ hx
  refine wpIn_rangeFunc fun fn _ => ?_
  obtain ⟨W1, hrun, hl, he, hsz, hlo, hwl, hD⟩ := henter fn
  have hlt : l < W1.heap.size := (Array.getElem?_eq_some_iff.1 hl).1
  have hres : (resolve a.eval (rangeCall g l) 0).run Tryz.prog W1 = .ok { target := .fn (.func 116) #[.pointer (some ⟨b, 0, none⟩)], args := #[.func (.yield l) #[] #[]] } W1 := by
    have hev : a.eval (.const (.func (.yield l) #[] #[])) = .func (.yield l) #[] #[] := rfl
    simp [resolve, hxv, hev, seqV, Deferred.ofValue]
  refine ⟨l, mark, W1, _, W1, 116, #[.func (.yield l) #[] #[], .pointer (some ⟨b, 0, none⟩)], W1, hrun, hres, fun _ _ => trivial, ?_, fun hd => (by simp [FW] at hd), ?_⟩
  · exact En116 _ W1
  generalize hrec : ({ state := .ready, pending := none, fn, tmps := a.tmps, params := #[p], assign, body, defers := df } : Loop) = rec0 at hl
  have hhole : Hole w.heap.size l := ⟨hwl, by omega⟩
  have hW3 : ∀ x, x < W1.heap.size → w.heap.size ≤ x → Hole w.heap.size x := fun x h1 h2 => ⟨h2, by omega⟩
  refine callsW r ((iter_spec S l b w.heap.size W1
    (fun s w1 => J s w1 ∧ W1.heap.size ≤ w1.heap.size ∧ w1.heap[l]? = some (.loop rec0) ∧ ∀ d, D = some d → w1.heap[d]? = some (.deferred (some [])))
    (fun w1 => ∃ e c, codeOf e = some c ∧ X e w1 ∧ W1.heap.size ≤ w1.heap.size ∧ w1.heap[l]? = some (.loop { rec0 with state := .done, pending := some c }) ∧ ∀ d, D = some d → w1.heap[d]? = some (.deferred (some [])))
    ((hT [] w h0).ext he) (hb.ext he) hb.lt he.size (by omega) ⟨hJ [] w W1 h0 (Nat.le_refl _) (Kp.ext he), Nat.le_refl _, hl, fun d hd => (hD d hd).1⟩ ?_ ?_ ?_ ?_).mono ?_)
  · rintro s w1 w2 ⟨j1, j2, j3, j4⟩ k hsz1 hsame
    refine ⟨hJ s w1 w2 j1 (Nat.le_trans he.size j2) k, Nat.le_trans j2 k.size, (hsame l hlt).trans j3, fun d hd => (hsame d ?_).trans (j4 d hd)⟩
    exact (Array.getElem?_eq_some_iff.1 (hD d hd).1).1
  · rintro w1 w2 ⟨e, c, x1, x2, x3, x4, x5⟩ k
    exact ⟨e, c, x1, hX e w1 w2 x2 (Nat.le_trans he.size x3) (Kp.ext k), Nat.le_trans x3 k.size, (k.block l (by omega)).trans x4, fun d hd => (k.block d (Array.getElem?_eq_some_iff.1 (x5 d hd)).1).trans (x5 d hd)⟩
  · rintro s w1 ⟨j1, _⟩
    exact hT s w1 j1
  · rintro s x rest w1 hs ⟨j1, j2, j3, j4⟩ hltW
    have hy := run_yield (P := Tryz.prog) (args := #[I (x : Nat)]) j3 (by subst hrec; rfl)
    have htm : (rec0.params.zip #[I (x : Nat)]).foldl (fun tmps (t, a) => tmps.setIfInBounds t a) rec0.tmps = a.tmps.setIfInBounds p (I (x : Nat)) := by
      subst hrec; simp
    have hfn : rec0.assign = assign ∧ rec0.body = body ∧ rec0.fn = fn ∧ rec0.state = .ready := by subst hrec; exact ⟨rfl, rfl, rfl, rfl⟩
    rw [htm, hfn.1, hfn.2.1] at hy
    refine ⟨_, _, _, _, hy, ?_⟩
    have hf0 : FrD n [] { tmps := a.tmps, defers := [] } w1 L := ⟨hf.size, rfl, fun t A ht => PureL.pu t A ht _ _ _ (hf.val t A ht)⟩
    have hf1 : FrD n [] { tmps := a.tmps.setIfInBounds p (I (x : Nat)), defers := [] } w1 ((p, E (I (x : Nat))) :: L) :=
      hf0.put (d := some p) (v := I (x : Nat)) (A := E (I (x : Nat))) (Ext.rfl' _) (fun k hk => by cases hk; exact hp) rfl
    refine roundIn_of_wpIn (F := Fence.wide) (n := 0) trivial ?_
    refine wpIn_mono (hbody l s x rest _ w1 hs j1 (by omega) hf1) fun e2 a2 w2 hq => ?_
    cases e2 with
    | normal =>
      obtain ⟨kh, hb2⟩ := hq
      have j3' : w2.heap[l]? = some (.loop rec0) := (kh.same l (by omega) hhole).trans j3
      refine ⟨_, run_beginRound j3' hfn.2.2.2, ?_⟩
      refine wpIn_mono (hb2 (w2.putObj l (.loop { rec0 with state := .busy })) (Kp.put hhole) (by simp)) fun e3 a3 w3 hq3 => ?_
      have hl2 : l < w2.heap.size := (Array.getElem?_eq_some_iff.1 j3').1
      have rec3 : ∀ {w3 : World}, Kh w.heap.size (w2.putObj l (.loop { rec0 with state := .busy })) w3 → w3.heap[l]? = some (.loop { rec0 with state := .busy }) := fun k =>
        (k.same l (by simpa using hl2) hhole).trans (World.putObj_heap_same hl2)
      have size3 : ∀ {w3 : World}, Kh w.heap.size (w2.putObj l (.loop { rec0 with state := .busy })) w3 → w1.heap.size ≤ w3.heap.size := fun k => by
        have h1 := k.size
        have h2 := kh.size
        simp at h1
        omega
      have d3 : ∀ {w3 : World}, Kh w.heap.size (w2.putObj l (.loop { rec0 with state := .busy })) w3 → ∀ o, ∀ d, D = some d → (w3.putObj l o).heap[d]? = some (.deferred (some [])) := fun {w3} k o d hd => by
        have h1 := hD d hd
        have hdlt : d < w1.heap.size := (Array.getElem?_eq_some_iff.1 (j4 d hd)).1
        have hdh : Hole w.heap.size d := hW3 d (Array.getElem?_eq_some_iff.1 h1.1).1 h1.2.2
        have hk2 := kh.size
        rw [World.putObj_heap_other h1.2.1, k.same d (by simp; omega) hdh, World.putObj_heap_other h1.2.1, kh.same d hdlt hdh]
        exact j4 d hd
      have rb3 : ∀ {w3 : World}, Kh w.heap.size (w2.putObj l (.loop { rec0 with state := .busy })) w3 → ∀ o, (w3.putObj l o).heap[W1.heap.size]? = w1.heap[W1.heap.size]? := fun {w3} k o => by
        have hne : W1.heap.size ≠ l := by omega
        have hr : Hole w.heap.size W1.heap.size := ⟨he.size, by omega⟩
        have hk2 := kh.size
        rw [World.putObj_heap_other hne, k.same _ (by simp; omega) hr, World.putObj_heap_other hne, kh.same _ hltW hr]
      cases e3 with
      | normal =>
        obtain ⟨q1, q2⟩ := hq3
        refine ⟨_, _, run_endRound none (rec3 q2), _, rfl, .inl ⟨rfl, ⟨hJ _ _ _ q1 (Nat.le_trans (Nat.le_trans he.size j2) (size3 q2)) (Kp.put hhole), ?_, ?_, d3 q2 _⟩, by simpa using size3 q2, rb3 q2 _⟩⟩
        · have := size3 q2; simp; omega
        · rw [World.putObj_heap_same (Array.getElem?_eq_some_iff.1 (rec3 q2)).1]
          subst hrec
          rfl
      | ret =>
        obtain ⟨q1, q2⟩ := hq3
        refine ⟨_, _, run_endRound (some .ret) (rec3 q2), _, rfl, .inr ⟨rfl, .ret, .ret, rfl, hX _ _ _ q1 (Nat.le_trans (Nat.le_trans he.size j2) (size3 q2)) (Kp.put hhole), ?_, ?_, d3 q2 _⟩⟩
        · have := size3 q2; simp; omega
        · rw [World.putObj_heap_same (Array.getElem?_eq_some_iff.1 (rec3 q2)).1]
          rfl
      | exit id =>
        obtain ⟨q1, q2⟩ := hq3
        refine ⟨_, _, run_endRound (some (.exit id)) (rec3 q2), _, rfl, .inr ⟨rfl, .exit id, .exit id, rfl, hX _ _ _ q1 (Nat.le_trans (Nat.le_trans he.size j2) (size3 q2)) (Kp.put hhole), ?_, ?_, d3 q2 _⟩⟩
        · have := size3 q2; simp; omega
        · rw [World.putObj_heap_same (Array.getElem?_eq_some_iff.1 (rec3 q2)).1]
          rfl
      | goto t => exact hq3.elim
      | panic c => exact hq3.elim
      | outgrown => exact hq3.elim
    | _ => exact hq.elim
  · rintro e w2 ⟨rfl, h | h⟩
    · obtain ⟨j1, j2, j3, j4⟩ := h
      refine ⟨none, w2.putObj l (.loop { rec0 with state := .exhausted }), ?_, hdone _ _ (⟨hf.size, by simp [hf.defers], fun t A ht => PureL.pu t A ht _ _ _ (hf.val t A ht)⟩) (hJ _ _ _ j1 (Nat.le_trans he.size j2) (Kp.put hhole)) ?_ ?_⟩
      · have := run_endLoop (P := Tryz.prog) j3 (by subst hrec; simp)
        subst hrec
        exact this
      · have := he.size; simp; omega
      · intro d hd
        rw [World.putObj_heap_other (hD d hd).2.1]
        exact j4 d hd
    · obtain ⟨ex, c, x1, x2, x3, x4, x5⟩ := h
      refine ⟨some c, _, run_endLoop (P := Tryz.prog) x4 (by simp), ?_⟩
      have hQ := hexit ex c { a with defers := mark ++ a.defers } (w2.putObj l (.loop { rec0 with state := .exhausted, pending := some c })) x1 (⟨hf.size, by simp [hf.defers], fun t A ht => PureL.pu t A ht _ _ _ (hf.val t A ht)⟩)
        (hX _ _ _ x2 (Nat.le_trans he.size x3) (Kp.put hhole)) (by have := he.size; simp; omega) (fun d hd => by
          rw [World.putObj_heap_other (hD d hd).2.1]
          exact x5 d hd)
      cases ex with
      | ret => cases x1; exact wpIn_ret hQ
      | exit id => cases x1; exact wpIn_exit hQ
      | _ => cases x1

/-- at the outermost: the block for deferred calls is D -/
theorem range_all3 [PureL L] (hf : FrD n ds a w L) (hx : opd L g = some (E (seqV b))) (hb : Blk w b (setC S) 67) (hp : p < n)
    (J : List Nat → World → Prop) (X : Exit → World → Prop)
    (hT : ∀ s w1, J s w1 → Tab w1) (h0 : J [] w)
    (hJ : ∀ s w1 w2, J s w1 → w.heap.size ≤ w1.heap.size → Kp w.heap.size w1 w2 → J s w2)
    (hX : ∀ e w1 w2, X e w1 → w.heap.size ≤ w1.heap.size → Kp w.heap.size w1 w2 → X e w2)
    (hbody : ∀ (l s x) (rest : List Nat) (a1 : Act) (w1 : World), elems S = s ++ x :: rest → J s w1 → w.heap.size + 3 ≤ w1.heap.size → FrD n [] a1 w1 ((p, E (I (x : Nat))) :: L) →
      assign.wpIn (FW (some l)) 0 Tryz.prog (Exit.then (fun a2 w2 => Kh w.heap.size w1 w2 ∧ ∀ w3, Kp w.heap.size w2 w3 → w3.heap.size = w2.heap.size → body.wpIn (FW (some l)) 0 Tryz.prog (Rd J X s x w.heap.size w3) a2 w3) (fun _ _ _ => False)) a1 w1)
    (hdone : ∀ a' w', FrD n ({ target := .collected w.heap.size, args := #[] } :: ds) a' w' L → J (elems S) w' → w.heap.size ≤ w'.heap.size → w'.heap[w.heap.size]? = some (.deferred (some [])) → Q .normal a' w')
    (hexit : ∀ e c a' w', codeOf e = some c → FrD n ({ target := .collected w.heap.size, args := #[] } :: ds) a' w' L → X e w' → w.heap.size ≤ w'.heap.size → w'.heap[w.heap.size]? = some (.deferred (some [])) → Q e a' w') :
    (Code.rangeFunc g #[p] assign body).wpIn (FW none) 0 Tryz.prog Q a w := by
  refine range_core3 2 (l := w.heap.size + 1) (mark := [{ target := .collected w.heap.size, args := #[] }]) (df := w.heap.size) (D := some w.heap.size) hf hx hb hp J X ?_ hT h0 hJ hX (fun l s x rest a1 w1 h1 h2 h3 => hbody l s x rest a1 w1 h1 h2 (by omega))
    (fun a' w' h1 h2 h3 h4 => hdone a' w' h1 h2 h3 (h4 _ rfl)) (fun e c a' w' h1 h2 h3 h4 h5 => hexit e c a' w' h1 h2 h3 h4 (h5 _ rfl))
  intro fn
  refine ⟨_, run_enterLoop_outer fn a.tmps #[p] assign body, ?_, ?_, ?_, by simp, by omega, ?_⟩
  · have := World.alloc_heap_new (w.alloc (.deferred (some []))) (.loop { state := .ready, pending := none, fn, tmps := a.tmps, params := #[p], assign, body, defers := w.heap.size })
    rwa [World.size_alloc] at this
  · exact Ext.tr (ext_alloc w _) (ext_alloc _ _)
  · simp
  · rintro d hd
    cases hd
    refine ⟨?_, by omega, Nat.le_refl _⟩
    rw [Below.heap_alloc _ _ _ (by simp)]
    exact World.alloc_heap_new w _

end
end Go.Mono

namespace Go.Mono
open Go Go.RowKit

/-- a queue in a block of its own, behind B -/
structure QR (te : TypeId) (B : Nat) (w : World) (xs : List Int) (v : Value) : Prop where
  own : ∃ g off cap cur, v = .slice (some ⟨g, off, none⟩) xs.length cap ∧ B ≤ g ∧ Blk w g cur te ∧ xs.length ≤ cap ∧ off + cap ≤ cur.size ∧ ∀ i z, xs[i]? = some z → cur[off + i]? = some (Value.int .i64 z)
theorem QR.ch {te : TypeId} {B : Nat} {w w' : World} {xs : List Int} {v : Value} (h : QR te B w xs v) {S : Nat → Prop} (c : Chg S w w') (hS : ∀ b, v.ownBlock = some b → ¬S b) : QR te B w' xs v := by
  obtain ⟨g, off, cap, cur, rfl, h1, h2, h3⟩ := h.own
  exact ⟨g, off, cap, cur, rfl, h1, h2.ch c (hS g rfl), h3⟩
theorem QR.ext {te : TypeId} {B : Nat} {w w' : World} {xs : List Int} {v : Value} (h : QR te B w xs v) (e : Ext w w') : QR te B w' xs v := by
  obtain ⟨g, off, cap, cur, rfl, h1, h2, h3⟩ := h.own
  exact ⟨g, off, cap, cur, rfl, h1, h2.ext e, h3⟩
theorem QR.gr {te : TypeId} {B : Nat} {w w' : World} {xs : List Int} {v : Value} {b : Nat} (h : QR te B w xs v) (hg : w.grownBy w' (some b)) (hb : v.ownBlock ≠ some b) : QR te B w' xs v := by
  obtain ⟨g, off, cap, cur, rfl, h1, h2, h3⟩ := h.own
  exact ⟨g, off, cap, cur, rfl, h1, h2.gr hg (fun h => hb (by rw [← h]; rfl)), h3⟩
theorem QR.one {te : TypeId} {B : Nat} {w : World} {xs : List Int} {v : Value} (h : QR te B w xs v) : v.oneCell' = true := by
  obtain ⟨g, off, cap, cur, rfl, _⟩ := h.own
  rfl
theorem QR.ne {te : TypeId} {B : Nat} {w : World} {xs : List Int} {v : Value} (h : QR te B w xs v) {b : Nat} {cs : Array Value} {t : TypeId} (hb : Blk w b cs t) (ht : t ≠ te) : v.ownBlock ≠ some b := by
  obtain ⟨g, off, cap, cur, rfl, _, h2, _⟩ := h.own
  intro he
  have : g = b := by simpa [Value.ownBlock] using he
  subst this
  exact (Blk.ne h2 hb (Ne.symm ht)) rfl
theorem QR.lt {te : TypeId} {B : Nat} {w : World} {xs : List Int} {v : Value} (h : QR te B w xs v) {b : Nat} (hb : v.ownBlock = some b) : B ≤ b ∧ b < w.heap.size := by
  obtain ⟨g, off, cap, cur, rfl, h1, h2, _⟩ := h.own
  have : g = b := by simpa [Value.ownBlock] using hb
  subst this
  exact ⟨h1, h2.lt⟩
theorem OwR.queue {te : TypeId} {B : Nat} {G : Nat → Prop} {w : World} {xs : List Int} {v : Value} (h : OwR intE te B G w xs v) (h0 : xs ≠ []) : QR te B w xs v := by
  obtain ⟨cs, ⟨hl, hrow⟩, hcs⟩ := h.own
  have hc : ∀ {l : List Int} {cs : List Value}, Cells intE (GO G v) w l cs → cs = l.map (Value.int .i64) := by
    intro l
    induction l with
    | nil => intro cs h; exact h
    | cons x l ih =>
      rintro cs ⟨c, d, h, h1, h2⟩
      have : c = [.int .i64 x] := h1
      rw [h, this, ih h2]; rfl
  have hcs' := hc hcs
  subst hcs'
  rcases hrow with ⟨_, hn⟩ | ⟨g, cap, cur, rfl, hB, hg, hn, hm, hs, ht⟩
  · exact absurd (List.eq_nil_of_length_eq_zero hn) h0
  · simp only [show (intE).k = 1 from rfl, Nat.mul_one] at hs ht
    refine ⟨g, 0, cap, cur, rfl, hB, hg, hn, by omega, fun i z hz => ?_⟩
    have hlt := (List.getElem?_eq_some_iff.1 hz).1
    have : (cur.toList.take xs.length)[i]? = (xs.map (Value.int .i64))[i]? := by rw [ht]
    rw [List.getElem?_take, if_pos hlt, List.getElem?_map, hz] at this
    simpa using this
/-- a queue as an assertion -/
def QA (te : TypeId) (B : Nat) (xs : List Int) : VA := ⟨fun v w => QR te B w xs v, fun v w w' e h => h.ext e⟩
theorem QR.dv {te : TypeId} {B : Nat} {G : Nat → Prop} {w : World} {xs : List Int} {v : Value} (h : QR te B w xs v) (hG : ∀ b, v.ownBlock = some b → ¬G b) : (Dv (slE intE) G xs).p v w := by
  obtain ⟨g, off, cap, cur, rfl, h1, h2, h3, h4, h5⟩ := h.own
  have hc : ∀ l : List Int, Cells intE G w l (l.map (Value.int .i64)) := by
    intro l
    induction l with
    | nil => rfl
    | cons x l ih => exact ⟨[.int .i64 x], _, rfl, rfl, ih⟩
  refine Dv.sl.2 (.inr ⟨⟨g, off, none⟩, cap, xs.map (Value.int .i64), rfl, h3, hG g rfl, h2.lt, hc xs, fun i u hu => ?_⟩)
  rw [Addr.add_lit, h2.cell]
  rw [List.getElem?_map] at hu
  cases hz : xs[i]? with
  | none => rw [hz] at hu; cases hu
  | some z => rw [hz] at hu; cases hu; exact h5 i z hz

section
variable {P : Program} {w0 : World} {L : Env} {dst : Option Tmp} {ty : TypeId} {pos : String} {aft : Array Edge} {g : Option (Nat × Bool)}
/-- the queue without its head -/
theorem slcQ {x y : Operand} {t te : TypeId} {B : Nat} {z : Int} {zs : List Int} {v : Value} (ht : P.underlying t = some (.slice te)) (hs : (P.info? te).map (·.size) = some 1) (hx : opd L x = some (E v)) (hy : opd L y = some (E (.int .i64 1))) (hq : QR te B w0 (z :: zs) v) :
    OpC P w0 L ⟨dst, .slice t x (some y) none none, ty, pos, aft, g⟩ (QA te B zs) := by
  refine ⟨fun ρ w he hv => ?_⟩
  have h1 := opE hv (x := x) (by simp [Op.operands]) hx
  have h2 := opE hv (x := y) (by simp [Op.operands]) hy
  obtain ⟨gb, off, cap, cur, rfl, hB, hb, hc, ho, hcell⟩ := (hq.ext he).own
  have hi' : (0 : Int) ≤ (1 : Int) ∧ (1 : Int) ≤ ((zs.length + 1 : Nat) : Int) := by omega
  have hlen : (z :: zs).length = zs.length + 1 := rfl
  rw [hlen] at h1 hc
  by_cases hcap : cap = 1
  · subst hcap
    have hz0 : zs.length = 0 := by omega
    have hzs := List.eq_nil_of_length_eq_zero hz0
    subst hzs
    have hrun : (execOp ρ ⟨dst, .slice t x (some y) none none, ty, pos, aft, g⟩).run P w = .ok (.value (.slice (some ⟨gb, off, none⟩) 0 0)) w := by
      simp [execOp, h1, h2, Instr.sliceAt, Instr.slice, Instr.sliceBounds, Instr.sliceBound, asIntOf, run_underlying ht, sz_of hs, Addr.add_lit]
    simp only [OpR, hrun]
    exact ⟨Ext.rfl' _, gb, off, 0, cur, rfl, hB, hb, Nat.le_refl _, by omega, fun i z hz => by simp at hz⟩
  · have hne : ¬ cap = 1 := hcap
    have hrun : (execOp ρ ⟨dst, .slice t x (some y) none none, ty, pos, aft, g⟩).run P w = .ok (.value (.slice (some ⟨gb, off + 1, none⟩) zs.length (cap - 1))) w := by
      have hle : (1 : Int) ≤ (zs.length : Int) + 1 := by omega
      simp [execOp, h1, h2, Instr.sliceAt, Instr.slice, Instr.sliceBounds, Instr.sliceBound, asIntOf, run_underlying ht, sz_of hs, hne, hle, Addr.add_lit]
    simp only [OpR, hrun]
    refine ⟨Ext.rfl' _, gb, off + 1, cap - 1, cur, rfl, hB, hb, by omega, by omega, fun i z' hz => ?_⟩
    rw [show off + 1 + i = off + (i + 1) by omega]
    exact hcell (i + 1) z' (by simpa using hz)
end
section tail
variable {P : Program} {L : Env} {ty : TypeId} {pos : String} {aft : Array Edge} {r : Option Nat} {ds : List Deferred}
variable {ops : Array Oper} {rest : List Oper} {Q : Exit → Act → World → Prop} {n : Nat} {a : Act} {w : World} {x y : Operand}
theorem run_appQ {t te : TypeId} {z0 : Value} {bz B : Nat} {xs : List Int} {v u : Value} {z : Int} {G : Nat → Prop} (ht : P.underlying t = some (.slice te)) (hi : (P.info? te).map (fun i => (i.zero, i.size, i.bytes)) = some (some z0, 1, bz)) (hz0 : z0.cells.size = 1)
    (hq : QR te B w xs v) (hy : (Dv (slE intE) G [z]).p u w) (hB : B ≤ w.heap.size) (h63 : xs.length + 1 ≤ maxLen) (hb : (xs.length + 1) * bz ≤ 140737488355328) :
    ∃ v' w', (Builtin.append_ #[t, t] ty #[v, u]).run P w = .ok v' w' ∧ QR te B w' (xs ++ [z]) v' ∧ w.grownBy w' v.ownBlock ∧ (v'.ownBlock = v.ownBlock ∨ ∃ gb, v'.ownBlock = some gb ∧ w.heap.size ≤ gb) := by
  obtain ⟨it, hit, hiz, hsz', hbz⟩ := info_parts hi
  obtain ⟨g, off, cap, cur, rfl, h1, h2, h3, h4, h5⟩ := hq.own
  rcases Dv.sl.1 hy with ⟨_, h⟩ | ⟨ad, cap', ds', rfl, _, k3, k4, k5, k6⟩
  · cases h
  have hds : ds' = [.int .i64 z] := by
    obtain ⟨c, d, h, h1, h2⟩ := k5
    have e1 : c = [.int .i64 z] := h1
    have e2 : d = [] := h2
    rw [h, e1, e2]; rfl
  subst hds
  have hnews : ∀ j u, [Value.int .i64 z][j]? = some u → w.cell? (ad.add j) = some u := fun j u hu => k6 j u hu
  by_cases hroom : xs.length + 1 ≤ cap
  · have hf := run_firstCells_some (P := P) w it.size 1 ad 1 cap' [.int .i64 z] (by simp [hsz']) hnews
    have hst := run_storeCells_at (P := P) g (off + xs.length) te [.int .i64 z] 0 cur w h2 (by simp; omega) (by simp [Value.oneCell'])
    simp only [Nat.add_zero, List.length_singleton] at hst
    have hrun : (Builtin.append_ #[t, t] ty #[.slice (some ⟨g, off, none⟩) xs.length cap, .slice (some ad) 1 cap']).run P w = .ok (.slice (some ⟨g, off, none⟩) (xs.length + 1) cap) (w.setRow g (cur.toList.take (off + xs.length) ++ [Value.int .i64 z] ++ cur.toList.drop (off + xs.length + 1)).toArray) := by
      simp only [hsz'] at hf
      simp [-List.append_assoc, Builtin.append_, run_underlying ht, sizeOf, typeInfo, hit, hsz', Builtin.lenOf, hroom, hf, Addr.add_lit, hst]
    have hcl : cur.toList.length = cur.size := Array.length_toList
    have htk : (cur.toList.take (off + xs.length)).length = off + xs.length := by rw [List.length_take]; omega
    refine ⟨_, _, hrun, ⟨g, off, cap, _, by rw [List.length_append]; rfl, h1, setRow_heap _ _ _ _ _ _ h2, by rw [List.length_append]; exact hroom, ?_, fun i z' hz => ?_⟩, grownBy_setRow _ _ _, .inl rfl⟩
    · rw [List.size_toArray, List.length_append, List.length_append, htk, List.length_drop, List.length_singleton]; omega
    · rw [List.getElem?_toArray]
      by_cases hi : i < xs.length
      · rw [List.getElem?_append_left hi] at hz
        rw [List.append_assoc, List.getElem?_append_left (by omega), List.getElem?_take, if_pos (by omega), Array.getElem?_toList]
        exact h5 i z' hz
      · have hlt := (List.getElem?_eq_some_iff.1 hz).1
        rw [List.length_append, List.length_singleton] at hlt
        obtain rfl : i = xs.length := by omega
        rw [List.getElem?_append_right (Nat.le_refl _), Nat.sub_self] at hz
        cases hz
        rw [List.append_assoc, List.getElem?_append_right (by omega), htk, Nat.sub_self]
        rfl
  · obtain ⟨v', w', r1, r2, r3⟩ := run_append_arg_grows (P := P) w t ty te it z0 1 bz ht hit hiz hsz' hbz hz0 (by decide) ⟨g, off, none⟩ xs.length cap (xs.map (Value.int .i64)) (by simp) (fun j u hu => by
      rw [Addr.add_lit, h2.cell]
      rw [List.getElem?_map] at hu
      cases hz : xs[j]? with
      | none => rw [hz] at hu; cases hu
      | some z => rw [hz] at hu; cases hu; exact h5 j z hz) ad 1 cap' [.int .i64 z] (by simp) hnews (by omega) h63 hb
    obtain ⟨q1, q2⟩ := r2
    rcases q2 with ⟨_, hn⟩ | ⟨g', cap2, cur2, rfl, hB2, hg2, hn2, hm2, hs2, ht2⟩
    · omega
    refine ⟨_, _, r1, ⟨g', 0, cap2, cur2, by rw [List.length_append]; rfl, Nat.le_trans hB hB2, hg2, by rw [List.length_append]; exact hn2, by omega, fun i z' hz => ?_⟩, ⟨r3.os, r3.tape, r3.output, r3.size, fun b hb _ => r3.block b hb (by simp)⟩, ?_⟩
    · have hlt := (List.getElem?_eq_some_iff.1 hz).1
      rw [List.length_append, List.length_singleton] at hlt
      have : (cur2.toList.take ((xs.length + 1) * 1))[i]? = (xs.map (Value.int .i64) ++ [.int .i64 z])[i]? := by rw [ht2]
      rw [List.getElem?_take, if_pos (by omega), ← List.map_singleton, ← List.map_append, List.getElem?_map, hz] at this
      rw [Nat.zero_add]
      simpa using this
    · exact .inr ⟨g', rfl, hB2⟩
theorem tl_appQ {t te : TypeId} {z0 : Value} {d bz B : Nat} {xs : List Int} {v : Value} {z : Int} {G : Nat → Prop} (ht : P.underlying t = some (.slice te)) (hi : (P.info? te).map (fun i => (i.zero, i.size, i.bytes)) = some (some z0, 1, bz)) (hz0 : z0.cells.size = 1)
    (hf : FrD n ds a w L) [hL : AvRL v.ownBlock L] (hd : d < n) (hx : opd L x = some (E v)) (hq : QR te B w xs v) (hy : Is L w y (Dv (slE intE) G [z])) (hB : B ≤ w.heap.size) (h63 : xs.length + 1 ≤ maxLen) (hb : (xs.length + 1) * bz ≤ 140737488355328)
    (k : ∀ a' v' w', w.grownBy w' v.ownBlock → (v'.ownBlock = v.ownBlock ∨ ∃ gb, v'.ownBlock = some gb ∧ w.heap.size ≤ gb) → QR te B w' (xs ++ [z]) v' → FrD n ds a' w' ((d, E v') :: L) → wpListIn (FW r) 0 P ops Q rest a' w') :
    wpListIn (FW r) 0 P ops Q (⟨some d, .call ⟨.builtin .append, #[x, y], #[t, t]⟩, ty, pos, aft, none⟩ :: rest) a w :=
  wpListIn_plain rfl fun K hK => by
    have hxv : a.eval x = v := hf.opd x _ hx
    obtain ⟨C, hy1, hy2⟩ := hy
    have hyv := hy2 _ _ (Ext.rfl' _) (hf.opd y _ hy1)
    obtain ⟨v', w', h1, h2, h3, h4⟩ := run_appQ (P := P) (ty := ty) ht hi hz0 hq hyv hB h63 hb
    refine OpR.wp (R := fun u w1 => u = v' ∧ w1 = w') ?_ ?_
    · simp only [OpR, execOp, resolve, invoke, builtin, Sem.run_bind, Sem.run_pure, Result.andThen_ok, List.map_toArray, List.map_cons, List.map_nil, hxv, h1]
      trivial
    · rintro u w1 ⟨rfl, rfl⟩
      refine hK _ _ (k _ _ _ h3 h4 h2 ?_)
      exact (hf.gro h3).put (d := some d) (A := E u) (Ext.rfl' _) (fun k hk => by cases hk; exact hd) rfl
end tail
end Go.Mono

namespace Go.Mono
open Go Go.Proofs Go.RowKit

end Go.Mono

namespace Go.Mono
open Go Go.Proofs Go.RowKit

theorem of_spec {G : Nat → Prop} (r : List Int) (v : Value) (W : World) (h : (Dv (slE intE) G r).p v W) (hl : r.length ≤ 4096) :
    Calls Tryz.prog 29 #[v] W (Post (E (setV (r.foldl ins 0))) W) := by
  refine enter (args := [v]) (As := [Dv (slE intE) (GB W G) r]) Tryz.func29 rfl Tryz.ntmps29 (Nat.le_of_ble_eq_true rfl) ?_ (fun a hf => ?_) (Nat.le_of_ble_eq_true rfl)
  rotate_left
  dsimp only [params, Nat.reduceAdd] at hf
  rotate_right
  · exact arg1 (Dv.toB h)
  have e := Ext.rfl' W
  repeat refine seq ?_
  refine regn0 ?_
  refine tl_alloc I67 hf (by decide) fun a b2 w e' hb2 hs2 B2 hf => ?_
  have hle2 := Nat.le_trans e.size (Nat.le_of_eq hb2.symm)
  replace e := Ext.tr e e'
  clear e'
  refine tl_nil ?_
  repeat refine seq ?_
  refine regn0 ?_
  refine tl_alloc I67 hf (by decide) fun a b3 w e' hb3 hs3 B3 hf => ?_
  have hle3 := Nat.le_trans e.size (Nat.le_of_eq hb3.symm)
  have lt3_B2 := B2.lt
  replace e := Ext.tr e e'
  replace B2 := B2.ext e'
  clear e'
  refine tl_nil ?_
  have hne : b2 ≠ b3 := by omega
  simp only [Value.cells, zeroC] at B2 B3
  repeat refine seq ?_
  refine regn 3 hf (by decide +kernel) ?_
  refine st (mv rfl) ?_
  refine st (lenD Tryz.underlying59 (isR rfl)) ?_
  refine st (mv rfl) ?_
  refine en fun a w e' hf => ?_
  replace e := Ext.tr e e'
  replace B2 := B2.ext e'
  replace B3 := B3.ext e'
  clear e'
  refine tl_nil ?_
  replace hf := hf.keep [2, 3, 6, 7, 8]
  dsimp only [keep, List.filterMap, look, Nat.beq, Option.map] at hf
  repeat refine seq ?_
  refine blk (loopN (fun r0 a w => ∃ (k : Nat) , r0 = r.length - k ∧ k ≤ r.length ∧ Fr 17 a w [(2, E (.pointer (some ⟨b2, 0, none⟩))), (3, E (.pointer (some ⟨b3, 0, none⟩))), (6, Dv (slE intE) (GB W G) r), (7, E (I (r.length : Nat))), (8, E (I k))] ∧ Ext W w ∧ Blk w b2 (setC 0) 67 ∧ Blk w b3 (setC ((r.take k).foldl ins 0)) 67) r.length ⟨0, rfl, by omega, hf, e, B2, B3⟩ ?_)
  clear hf e; try clear B2; try clear B3
  rintro r0 a w ⟨k, rfl, hk, hf, e, B2, B3⟩
  repeat refine seq ?_
  refine regn 1 hf (by decide +kernel) ?_
  refine st (lss rfl rfl) ?_
  refine en fun a w e' hf => ?_
  replace e := Ext.tr e e'
  replace B2 := B2.ext e'
  replace B3 := B3.ext e'
  clear e'
  refine tl_nil ?_
  repeat refine seq ?_
  refine ifc hf rfl (fun hc => wskip ?_) (fun hc => wexit ?_)
  rotate_left
  rotate_left
  · have hlt : k < r.length := by have := of_decide_eq_true hc; (try dsimp only at this); omega
    clear hc
    replace hf := hf.keep [2, 3, 6, 7, 8]
    dsimp only [keep, List.filterMap, look, Nat.beq, Option.map] at hf
    repeat refine seq ?_
    refine blk ?_
    have hx := gi_get hlt
    have hS : (r.take (k + 1)).foldl ins 0 = ins ((r.take k).foldl ins 0) (gi r k) := by rw [gi_take hlt, List.foldl_append]; rfl
    repeat refine seq ?_
    refine regn 2 hf (by decide +kernel) ?_
    refine st (idxD Tryz.underlying59 S3 (isR rfl) rfl (by omega) (hx)) ?_
    refine st (ldI T3 (isR rfl)) ?_
    refine en fun a w e' hf => ?_
    replace e := Ext.tr e e'
    replace B2 := B2.ext e'
    replace B3 := B3.ext e'
    clear e'
    refine tl_as hf rfl (by decide) fun a hf => ?_
    refine tl_nil ?_
    repeat refine seq ?_
    refine regn 3 hf (by decide +kernel) ?_
    refine st (ldW T67 rfl (by assumption) rfl) ?_
    refine st (mv rfl) ?_
    refine st (call2 En87 rfl rfl (fun v u w he h h' => by cases h; cases h'; exact with_spec _ _ w)) ?_
    refine en fun a w e' hf => ?_
    replace e := Ext.tr e e'
    replace B2 := B2.ext e'
    replace B3 := B3.ext e'
    clear e'
    haveI hinr : ∀ G0, InR (GB W G0) (some b3) := fun G0 => InR.gb (by omega)
    refine tl_stW T67 hf rfl rfl (wordsC_one _) B3 rfl (rfl) fun w hg hsz B3 hf => ?_
    replace e := e.gr hg (by omega)
    replace B2 := B2.gr hg (by omega)
    clear hg
    refine tl_nil ?_
    try simp only [Exit.then, Exit.inBlock, ↓reduceIte]
    rw [← hS] at B3
    try simp only [Exit.then, Exit.inBlock, ↓reduceIte]
    repeat refine seq ?_
    refine regn 1 hf (by decide +kernel) ?_
    refine st ((add rfl rfl (by omega)).eq (congrArg (Value.int .i64) (show (k : Int) + 1 = ((k + 1 : Nat) : Int) from rfl))) ?_
    refine en fun a w e' hf => ?_
    replace e := Ext.tr e e'
    replace B2 := B2.ext e'
    replace B3 := B3.ext e'
    clear e'
    refine tl_op hf (by decide) (mv rfl) fun a w e' hf => ?_
    replace e := Ext.tr e e'
    replace B2 := B2.ext e'
    replace B3 := B3.ext e'
    clear e'
    refine tl_nil ?_
    replace hf := hf.keep [2, 3, 6, 7, 8]
    dsimp only [keep, List.filterMap, look, Nat.beq, Option.map] at hf
    refine ⟨_, ?_, k + 1, rfl, by omega, hf, e, ?_⟩
    · omega
    exact ⟨B2, B3⟩
  · obtain rfl : k = r.length := by have := of_decide_eq_false hc; (try dsimp only at this); omega
    clear hc
    simp only [Exit.then, Exit.inBlock, ↓reduceIte]
    rw [List.take_length] at B3
    replace hf := hf.keep [2, 3]
    dsimp only [keep, List.filterMap, look, Nat.beq, Option.map] at hf
    repeat refine seq ?_
    refine regn 1 hf (by decide +kernel) ?_
    refine st (ldW T67 rfl (by assumption) rfl) ?_
    refine en fun a w e' hf => ?_
    replace e := Ext.tr e e'
    replace B2 := B2.ext e'
    replace B3 := B3.ext e'
    clear e'
    haveI hinr : ∀ G0, InR (GB W G0) (some b2) := fun G0 => InR.gb (by omega)
    refine tl_stW T67 hf rfl rfl (wordsC_one _) B2 rfl (rfl) fun w hg hsz B2 hf => ?_
    replace e := e.gr hg (by omega)
    replace B3 := B3.gr hg (by omega)
    clear hg
    refine tl_nil ?_
    refine wret (retS rfl T67 hf rfl B2 e rfl)
end Go.Mono

namespace Go.Mono
open Go Go.Proofs Go.RowKit

/-- set j of a forest -/
def sg (fs : List BS) (j : Nat) : BS := match fs[j]? with
  | some S => S
  | none => 0
theorem sg_get {fs : List BS} {j : Nat} (h : j < fs.length) : fs[j]? = some (sg fs j) := by simp [sg, h]
def elI (S : BS) : List Int := (elems S).map fun i : Nat => (i : Int)
/-- the search: what has been seen, whose neighbours are still to be looked at -/
def compF (fs : List BS) (inn : BS) : Nat → BS → List Int → Option BS
  | _, S, [] => some S
  | 0, _, _ :: _ => none
  | f + 1, S, r :: R => let X := (sg fs r.toNat &&& inn) &&& ~~~S; compF fs inn f (S ||| X) (R ++ elI X)
theorem mem_elI {S : BS} {k : Nat} (hk : k < 1024) : ((k : Int) ∈ elI S) ↔ S.getLsbD k = true := by
  rw [elI, List.mem_map]
  constructor
  · rintro ⟨i, h1, h2⟩
    obtain rfl : k = i := by omega
    exact (mem_elems.1 h1).2
  · intro h; exact ⟨k, mem_elems.2 ⟨hk, h⟩, rfl⟩
theorem ins_elems (S X : BS) : (elI X).foldl ins S = S ||| X := by
  refine set_ext fun k hk => ?_
  rw [foldl_ins_bit k hk, BitVec.getLsbD_or, Bool.or_eq_true, Bool.or_eq_true, decide_eq_true_eq, mem_elI hk]
theorem fold1 (p : Int) (S : BS) : [p].foldl ins S = ins S p := by rw [List.foldl_cons, List.foldl_nil]
def natI (s : List Nat) : List Int := s.map fun i : Nat => (i : Int)

/-- where the loop over new neighbours stands -/
structure CMJ (G : Nat → Prop) (W : World) (fs : List BS) (fv : Value) (b5 b6 b7 b8 B : Nat) (inn S : BS) (R : List Int) (D : List Nat) (s : List Nat) (w : World) : Prop where
  e : Ext W w
  t : Tab w
  hv : (Dv (slE setE) (GB W G) fs).p fv w
  b5 : Blk w b5 (setC inn) 67
  b6 : Blk w b6 (setC 0) 67
  b7 : Blk w b7 (setC ((natI s).foldl ins S)) 67
  q : ∃ v, Blk w b8 #[v] 59 ∧ QR 3 W.heap.size w (R ++ natI s) v ∧ ∀ g, v.ownBlock = some g → ¬Hole B g
  ds : Ds D w
theorem CMJ.kp {G : Nat → Prop} {W : World} {fs : List BS} {fv : Value} {b5 b6 b7 b8 B : Nat} {inn S : BS} {R : List Int} {D : List Nat} {s : List Nat} {w w' : World} (h : CMJ G W fs fv b5 b6 b7 b8 B inn S R D s w) (k : Kp B w w')
    (hW : W.heap.size ≤ B) (h0 : 0 < B) (l5 : b5 < B) (l6 : b6 < B) (l7 : b7 < B) (l8 : b8 < B) (lD : ∀ d ∈ D, d < B) : CMJ G W fs fv b5 b6 b7 b8 B inn S R D s w' := by
  have no : ∀ {b}, b < B → ¬Hole B b := fun h hh => by have := hh.1; omega
  obtain ⟨v, q1, q2, q3⟩ := h.q
  exact ⟨h.e.kp k hW, h.t.kp k h0, Dv.ch h.hv k.chg (fun b hb => .inr (by have := hb.1; omega)), h.b5.kp k (no l5), h.b6.kp k (no l6), h.b7.kp k (no l7), ⟨v, q1.kp k (no l8), q2.ch k.chg q3, q3⟩, h.ds.ch k.chg fun d hd => no (lD d hd)⟩
/-- .. and the loop over what is still to be looked at -/
structure CML (G : Nat → Prop) (W : World) (fs : List BS) (fv : Value) (b5 b6 b7 : Nat) (inn Z : BS) (f : Nat) (a : Act) (w : World) : Prop where
  ex : ∃ (S : BS) (R : List Int) (b8 : Nat) (v : Value) (D : List Nat), compF fs inn f S R = some Z ∧ FrD 41 (marks D) a w [(0, E fv), (5, E (.pointer (some ⟨b5, 0, none⟩))), (6, E (.pointer (some ⟨b6, 0, none⟩))), (7, E (.pointer (some ⟨b7, 0, none⟩))), (8, E (.pointer (some ⟨b8, 0, none⟩)))] ∧
    (Ext W w ∧ Tab w ∧ (Dv (slE setE) (GB W G) fs).p fv w) ∧ Blk w b5 (setC inn) 67 ∧ Blk w b6 (setC 0) 67 ∧ Blk w b7 (setC S) 67 ∧ Blk w b8 #[v] 59 ∧ QR 3 W.heap.size w R v ∧ Ds D w ∧ (∀ d ∈ D, W.heap.size ≤ d) ∧ W.heap.size ≤ b8 ∧
    (∀ r ∈ R, ∃ q : Nat, r = (q : Int) ∧ q < fs.length) ∧ R.length + 1024 * f ≤ 3000000

theorem comp_spec {G : Nat → Prop} (fs : List BS) (p : Nat) (inn Z : BS) (f : Nat) (fv : Value) (W : World) (hT : Tab W) (h : (Dv (slE setE) G fs).p fv W) (hZ : compF fs inn f (ins 0 (p : Int)) [(p : Int)] = some Z) (hf1 : f ≤ 1100) (hp : p < fs.length) (hF : ∀ j, j < fs.length → ∀ i, (sg fs j).getLsbD i = true → i < fs.length) (hl : fs.length ≤ 1024) :
    Calls Tryz.prog 118 #[fv, I (p : Nat), setV inn] W (Post (E (setV Z)) W) := by
  have HV : (Dv (slE setE) (GB W Go.Mono.G0) fs).p fv W := Dv.toB (Dv.weak h fun b _ hb => hb.elim)
  clear h
  have hT0 := hT.lt
  refine enterM (args := [fv, I (p : Nat), setV inn]) (As := [E fv, E (I (p : Nat)), E (setV inn)]) Tryz.func118 rfl Tryz.ntmps118 (Nat.le_of_ble_eq_true rfl) ?_ (fun a hf => ?_) (Nat.le_of_ble_eq_true rfl)
  · exact arg3 rfl rfl rfl
  dsimp only [params, Nat.reduceAdd] at hf
  have e := Ext.rfl' W
  repeat refine seq ?_
  refine regn0 ?_
  refine tl_box hf rfl (by decide) fun a b5 w v5 hv5 e' hb5 hs5 B5 hf => ?_
  have hle5 := Nat.le_trans e.size (Nat.le_of_eq hb5.symm)
  replace hT := hT.ext e'
  replace HV := Dv.ex HV e'
  replace e := Ext.tr e e'
  clear e'
  refine tl_alloc I67 hf (by decide) fun a b6 w e' hb6 hs6 B6 hf => ?_
  have hle6 := Nat.le_trans e.size (Nat.le_of_eq hb6.symm)
  have lt6_B5 := B5.lt
  replace hT := hT.ext e'
  replace HV := Dv.ex HV e'
  replace e := Ext.tr e e'
  replace B5 := B5.ext e'
  clear e'
  refine tl_nil ?_
  cases hv5
  replace B5 : Blk w b5 (setC inn) 67 := B5
  simp only [Value.cells, zeroC] at B6
  have hW5 := hle5
  have n65 : b6 ≠ b5 := by omega
  replace hf := hf.keep [0, 1, 5, 6]
  dsimp only [keep, List.filterMap, look, Nat.beq, Option.map] at hf
  repeat refine seq ?_
  refine regn 3 hf (by decide +kernel) ?_
  refine st (mv rfl) ?_
  refine st (bsl1 (e := intE) (G := Go.Mono.G0) Tryz.underlying59 I3 rfl (by decide) rfl (fun b hb => hb.elim) (isI rfl)) ?_
  refine st ((call1 En29 rfl (fun v w he h => of_spec [(p : Int)] v w h (by simp))).eq (congrArg setV (fold1 (p : Int) 0))) ?_
  refine en fun a w e' hf => ?_
  replace hT := hT.ext e'
  replace HV := Dv.ex HV e'
  replace e := Ext.tr e e'
  replace B5 := B5.ext e'
  replace B6 := B6.ext e'
  clear e'
  replace hf := hf.keep [0, 1, 5, 6, 12]
  dsimp only [keep, List.filterMap, look, Nat.beq, Option.map] at hf
  refine tl_alloc I67 hf (by decide) fun a b7 w e' hb7 hs7 B7 hf => ?_
  have hle7 := Nat.le_trans e.size (Nat.le_of_eq hb7.symm)
  have lt7_B5 := B5.lt
  have lt7_B6 := B6.lt
  replace hT := hT.ext e'
  replace HV := Dv.ex HV e'
  replace e := Ext.tr e e'
  replace B5 := B5.ext e'
  replace B6 := B6.ext e'
  clear e'
  haveI hinr : ∀ G0, InR (GB W G0) (some b7) := fun G0 => InR.gb (by omega)
  refine tl_stW T67 hf rfl rfl (wordsC_one _) B7 rfl (rfl) fun w hg hsz B7 hf => ?_
  replace hT := hT.gr hg (by omega)
  replace HV := Dv.gr HV hg (.inr (by omega))
  replace e := e.gr hg (by omega)
  replace B5 := B5.gr hg (by omega)
  replace B6 := B6.gr hg (by omega)
  clear hg
  refine tl_nil ?_
  replace hf := hf.keep [0, 1, 5, 6, 7]
  dsimp only [keep, List.filterMap, look, Nat.beq, Option.map] at hf
  have n75 : b7 ≠ b5 ∧ b7 ≠ b6 := by omega
  have l5 := B5.lt
  have l6 := B6.lt
  have l7 := B7.lt
  repeat refine seq ?_
  refine regn 2 hf (by decide +kernel) ?_
  refine st (mv rfl) ?_
  refine st (bslO1 (B := W.heap.size) (G := Go.Mono.G0) Tryz.underlying59 I3 rfl rfl e.size (fun b hb => hb.elim)) ?_
  refine en fun a w e' hf => ?_
  replace hT := hT.ext e'
  replace HV := Dv.ex HV e'
  replace e := Ext.tr e e'
  replace B5 := B5.ext e'
  replace B6 := B6.ext e'
  replace B7 := B7.ext e'
  clear e'
  obtain ⟨v, ho, hf⟩ := hf.fix 14 rfl
  have hq : QR 3 W.heap.size w [(p : Int)] v := OwR.queue (G := Go.Mono.G0) ho (by simp)
  replace hf := hf.keep [0, 5, 6, 7, 14]
  dsimp only [keep, List.filterMap, look, Nat.beq, Option.map] at hf
  have hql : ∀ b, v.ownBlock = some b → b < w.heap.size := fun b hb => (hq.lt hb).2
  refine tl_alloc I59 hf (by decide) fun a b8 w e' hb8 hs8 B8 hf => ?_
  have hle8 := Nat.le_trans e.size (Nat.le_of_eq hb8.symm)
  have lt8_B5 := B5.lt
  have lt8_B6 := B6.lt
  have lt8_B7 := B7.lt
  replace hT := hT.ext e'
  replace HV := Dv.ex HV e'
  replace hq := hq.ext e'
  replace e := Ext.tr e e'
  replace B5 := B5.ext e'
  replace B6 := B6.ext e'
  replace B7 := B7.ext e'
  clear e'
  haveI hinr : ∀ G0, InR (GB W G0) (some b8) := fun G0 => InR.gb (by omega)
  refine tl_st1 T59 hf rfl rfl (hq.one) B8 (by decide) fun w hg hsz B8 hf => ?_
  replace hT := hT.gr hg (by omega)
  replace HV := Dv.gr HV hg (.inr (by omega))
  replace hq := hq.gr hg (fun h => absurd (hql _ h) (by omega))
  replace e := e.gr hg (by omega)
  replace B5 := B5.gr hg (by omega)
  replace B6 := B6.gr hg (by omega)
  replace B7 := B7.gr hg (by omega)
  clear hg
  refine tl_nil ?_
  replace B8 : Blk w b8 #[v] 59 := B8
  replace hf := hf.keep [0, 5, 6, 7, 8]
  dsimp only [keep, List.filterMap, look, Nat.beq, Option.map] at hf
  have n85 : b8 ≠ b5 ∧ b8 ≠ b6 ∧ b8 ≠ b7 := by omega
  repeat refine seq ?_
  refine blk (loopN (fun r0 a w => CML Go.Mono.G0 W fs fv b5 b6 b7 inn Z r0 a w) f ⟨_, _, _, _, [], hZ, hf, ⟨e, hT, HV⟩, B5, B6, B7, B8, hq, Ds.nil _, (fun d hd => by cases hd), by omega, (fun r hr => ⟨p, by simpa using hr, hp⟩), by simp; omega⟩ ?_)
  clear hf e hT HV B5 B6 B7 B8 hq hZ hql
  rintro r0 a w ⟨S, R, b8', v', D, hZ, hf, ⟨e, hT, HV⟩, B5, B6, B7, B8, hq, hD, hDW, hW8, hR, hRl⟩
  clear n85 l5 l6 l7 ho
  obtain ⟨gb, off, cap, cur, rfl, hgB, hgb, hgc, hgo, hgcell⟩ := hq.own
  repeat refine seq ?_
  refine regn 3 hf (by decide +kernel) ?_
  refine st (ld1 T59 rfl B8 rfl) ?_
  refine st (lenE Tryz.underlying59 rfl) ?_
  refine st (gtr rfl rfl) ?_
  refine en fun a w e' hf => ?_
  replace hT := hT.ext e'
  replace HV := Dv.ex HV e'
  replace e := Ext.tr e e'
  replace B5 := B5.ext e'
  replace B6 := B6.ext e'
  replace B7 := B7.ext e'
  replace B8 := B8.ext e'
  replace hgb := hgb.ext e'
  replace hD := hD.ext e'
  replace hq := hq.ext e'
  clear e'
  refine tl_nil ?_
  repeat refine seq ?_
  refine ifc hf rfl (fun hc => wskip ?_) (fun hc => wexit ?_)
  rotate_left
  · have hR0 : R = [] := List.eq_nil_of_length_eq_zero (by have := of_decide_eq_false hc; omega)
    subst hR0
    obtain rfl : S = Z := by
      have := hZ
      cases r0 <;> simpa [compF] using this
    simp only [Exit.then, Exit.inBlock, ↓reduceIte]
    have n67 : b6 ≠ b7 := Ne.symm n75.2
    have hD6 : ¬ b6 ∈ D := hD.ne B6
    replace hf := hf.keep [6, 7]
    dsimp only [keep, List.filterMap, look, Nat.beq, Option.map] at hf
    repeat refine seq ?_
    refine regn 1 hf (by decide +kernel) ?_
    refine st (ldW T67 rfl B7 rfl) ?_
    refine en fun a w e' hf => ?_
    replace hT := hT.ext e'
    replace e := Ext.tr e e'
    replace B6 := B6.ext e'
    replace B7 := B7.ext e'
    replace hD := hD.ext e'
    clear e'
    refine tl_stW T67 hf rfl rfl (wordsC_one _) B6 rfl (setC_size _) fun w hg hsz B6 hf => ?_
    replace e := e.gr hg (by omega)
    replace hD := hD.gr hg hD6
    clear hg
    refine tl_nil ?_
    refine wret ?_
    try simp only [Exit.then, Exit.inBlock]
    exact retcM rfl T67 hf rfl B6 (setC_size _) hD ⟨_, rfl, e.shut hDW, rfl⟩
  have hRne : R ≠ [] := by rintro rfl; simp at hc
  obtain ⟨z, R', rfl⟩ := List.exists_cons_of_ne_nil hRne
  obtain ⟨q, rfl, hqf⟩ := hR z (by simp)
  clear hc hRne
  obtain ⟨f', rfl⟩ : ∃ f', r0 = f' + 1 := by
    cases r0 with
    | zero => simp [compF] at hZ
    | succ f' => exact ⟨f', rfl⟩
  rw [compF, Int.toNat_natCast] at hZ
  obtain ⟨X, hX⟩ : ∃ X, X = (sg fs q &&& inn) &&& ~~~S := ⟨_, rfl⟩
  rw [← hX] at hZ
  have hXs : ∀ i ∈ elems X, i < fs.length := fun i hi => by
    have := (mem_elems.1 hi).2
    rw [hX, BitVec.getLsbD_and, BitVec.getLsbD_and, Bool.and_eq_true, Bool.and_eq_true] at this
    exact hF q hqf i this.1.1
  have hg0 := hgcell 0 (q : Int) rfl
  simp only [Exit.then, Exit.inBlock, ↓reduceIte]
  obtain ⟨Nz, hNz⟩ : ∃ Nz, Nz = w.heap.size := ⟨_, rfl⟩
  repeat refine seq ?_
  refine blk ?_
  replace hf := hf.keep [0, 5, 6, 7, 8]
  dsimp only [keep, List.filterMap, look, Nat.beq, Option.map] at hf
  repeat refine seq ?_
  refine reg 11 Mix.mix hf (by decide +kernel) ?_
  refine st (mv rfl) ?_
  refine st (ld1 T59 rfl B8 rfl) ?_
  refine st (idxS Tryz.underlying59 S3 rfl rfl (by simp)) ?_
  refine st (ld1 T3 rfl hgb hg0) ?_
  refine st (idxD Tryz.underlying107 S67 (isE rfl HV) rfl (by omega) (sg_get hqf)) ?_
  refine st (ldS T67 (isR rfl)) ?_
  refine st (ldW T67 rfl B5 rfl) ?_
  refine st (call2 En70 rfl rfl (fun v u w he h h' => by cases h; cases h'; exact inter_spec _ _ w)) ?_
  refine st (ldW T67 rfl B7 rfl) ?_
  refine st (call2 En82 rfl rfl (fun v u w he h h' => by cases h; cases h'; exact minus_spec _ _ w)) ?_
  refine st (call1 (A := SeqA Nz X) En58 rfl (fun v w' he h => by cases h; rw [← hX]; exact Calls.mono (all_spec _ w') (fun en w2 ⟨u, h1, h2, b', h3, h4, h5⟩ => ⟨u, h1, h2, b', by have := he.size; omega, h4, h5⟩))) ?_
  refine en fun a w e' hf => ?_
  replace hT := hT.ext e'
  replace HV := Dv.ex HV e'
  replace e := Ext.tr e e'
  replace B5 := B5.ext e'
  replace B6 := B6.ext e'
  replace B7 := B7.ext e'
  replace B8 := B8.ext e'
  replace hgb := hgb.ext e'
  replace hD := hD.ext e'
  replace hq := hq.ext e'
  clear e'
  refine tl_nil ?_
  obtain ⟨vv, ⟨b30, h30, rfl, BS⟩, hf⟩ := hf.fix 30 rfl
  replace hf := hf.keep [0, 5, 6, 7, 8, 30]
  dsimp only [keep, List.filterMap, look, Nat.beq, Option.map] at hf
  have lq : gb < w.heap.size := (hq.lt rfl).2
  have l5 := B5.lt
  have l6 := B6.lt
  have l7 := B7.lt
  have l8 := B8.lt
  have lD : ∀ d ∈ D, d < w.heap.size := fun d hd => hD.lt hd
  have hBW : W.heap.size ≤ w.heap.size := e.size
  have h0w : 0 < w.heap.size := hT.lt
  have hXl : (elems X).length ≤ 1024 := elems_len X
  repeat refine seq ?_
  refine blk ?_
  refine range_all3 (S := X) hf rfl BS (by decide) (fun s w1 => CMJ Go.Mono.G0 W fs fv b5 b6 b7 b8' w.heap.size inn S ((q : Int) :: R') D s w1) (fun _ _ => False) (fun s w1 h => h.t)
    ⟨e, hT, HV, B5, B6, by simpa [natI] using B7, ⟨_, B8, by simpa [natI] using hq, fun g hg hh => by have h1 : gb = g := Option.some.inj hg; have := hh.1; omega⟩, hD⟩ (fun s w1 w2 h hs k => h.kp k hBW h0w l5 l6 l7 l8 lD) (fun _ _ _ h => h.elim) ?_ ?_ (fun _ _ _ _ _ _ h => h.elim)
  · intro l s x rest a1 w1 hs hJ hlw hf
    have hx1024 : x < 1024 := (mem_elems.1 (by rw [hs]; simp)).1
    have hsl : s.length ≤ 1024 := by rw [hs] at hXl; simp at hXl; omega
    generalize hBz : w.heap.size = Bz at *
    refine regn0 ?_
    refine tl_as hf rfl (by decide) fun a hf => ?_
    refine tl_nil ?_
    simp only [Exit.then]
    refine ⟨Kh.rfl' _ _, fun w3 k3 hsz3 => ?_⟩
    have hJ3 := hJ.kp k3 hBW h0w l5 l6 l7 l8 lD
    have hw3 : Bz + 3 ≤ w3.heap.size := by omega
    clear e hT HV B5 B6 B7 B8 BS hq hD hgb
    replace hf := hf.pure w3
    obtain ⟨e, hT, HV, B5, B6, B7, ⟨v, B8, hq, hgh⟩, hD⟩ := hJ3
    have kh := Kh.rfl' Bz w3
    replace hf := hf.keep [7, 8, 9]
    dsimp only [keep, List.filterMap, look, Nat.beq, Option.map] at hf
    repeat refine seq ?_
    refine blk ?_
    repeat refine seq ?_
    refine regn 3 hf (by decide +kernel) ?_
    refine st (ldW T67 rfl B7 rfl) ?_
    refine st (mv rfl) ?_
    refine st (call2 En87 rfl rfl (fun v u w he h h' => by cases h; cases h'; exact with_spec _ _ w)) ?_
    refine en fun a w e' hf => ?_
    replace hT := hT.ext e'
    replace HV := Dv.ex HV e'
    replace kh := kh.tr (Kh.ext e')
    replace e := Ext.tr e e'
    replace B5 := B5.ext e'
    replace B6 := B6.ext e'
    replace B7 := B7.ext e'
    replace B8 := B8.ext e'
    replace hD := hD.ext e'
    replace hq := hq.ext e'
    clear e'
    have noH : ∀ {c : Nat}, c < Bz → ¬Hole Bz c := fun h hh => by have := hh.1; omega
    have hD7 : ¬ b7 ∈ D := hD.ne B7
    have hD8 : ¬ b8' ∈ D := hD.ne B8
    have n78 : b8' ≠ b7 := Blk.ne B8 B7 (by decide)
    have n58 : b5 ≠ b8' := Blk.ne B5 B8 (by decide)
    have n68 : b6 ≠ b8' := Blk.ne B6 B8 (by decide)
    have hq7 : v.ownBlock ≠ some b7 := hq.ne B7 (by decide)
    have hq8 : v.ownBlock ≠ some b8' := hq.ne B8 (by decide)
    refine tl_stW T67 hf rfl rfl (wordsC_one _) B7 rfl (setC_size _) fun w hg hsz B7 hf => ?_
    replace hT := hT.gr hg (by omega)
    replace HV := Dv.gr HV hg (.inr (by omega))
    replace e := e.gr hg (by omega)
    replace hD := hD.gr hg hD7
    replace hq := hq.gr hg hq7
    replace B5 := B5.gr hg (Ne.symm n75.1)
    replace B6 := B6.gr hg (Ne.symm n75.2)
    replace B8 := B8.gr hg n78
    replace kh := kh.tr (Kh.gr hg (noH l7))
    have hw3' := hsz
    clear hg
    refine tl_nil ?_
    have hsz4 : Bz + 3 ≤ w.heap.size := Nat.le_trans hw3 kh.size
    replace hf := hf.keep [7, 8, 9]
    dsimp only [keep, List.filterMap, look, Nat.beq, Option.map] at hf
    repeat refine seq ?_
    refine regn 3 hf (by decide +kernel) ?_
    refine st (ld1 (v := v) T59 rfl B8 rfl) ?_
    refine st (mv rfl) ?_
    refine st (bsl1 (e := intE) (G := Go.Mono.G0) Tryz.underlying59 I3 rfl (by decide) rfl (fun b hb => hb.elim) (isI rfl)) ?_
    refine en fun a w e' hf => ?_
    replace hT := hT.ext e'
    replace HV := Dv.ex HV e'
    replace kh := kh.tr (Kh.ext e')
    replace e := Ext.tr e e'
    replace B5 := B5.ext e'
    replace B6 := B6.ext e'
    replace B7 := B7.ext e'
    replace B8 := B8.ext e'
    replace hD := hD.ext e'
    replace hq := hq.ext e'
    clear e'
    have hsz5 : Bz + 3 ≤ w.heap.size := Nat.le_trans hw3 kh.size
    obtain ⟨y, hy, hf⟩ := hf.fix 37 rfl
    replace hf := hf.keep [7, 8, 9, 35, 37]
    dsimp only [keep, List.filterMap, look, Nat.beq, Option.map] at hf
    have own3 : ∀ gc, v.ownBlock = some gc → W.heap.size ≤ gc := fun gc h => (hq.lt h).1
    have hqB5 : v.ownBlock ≠ some b5 := hq.ne B5 (by decide)
    have hqB6 : v.ownBlock ≠ some b6 := hq.ne B6 (by decide)
    have hqD : ∀ gc, v.ownBlock = some gc → ¬ gc ∈ D := fun gc h hm => by
      obtain ⟨g2, o2, c2, cu2, rfl, _, hb2, _⟩ := hq.own
      cases h
      exact hD.ne hb2 hm
    obtain ⟨gc, hgc⟩ : ∃ gc, v.ownBlock = some gc := by
      obtain ⟨g2, o2, c2, cu2, rfl, _⟩ := hq.own
      exact ⟨g2, rfl⟩
    have hRl3 : ((q : Int) :: R' ++ natI s).length ≤ 3001024 := by
      have h1 : (natI s).length = s.length := by simp [natI]
      rw [List.length_append, h1]; omega
    refine tl_appQ Tryz.underlying59 I3 rfl hf (by decide) rfl hq (isE rfl hy) e.size (by simp only [maxLen]; omega) (by omega) fun a v2 w hg hat hq2 hf => ?_
    rw [hgc] at hg
    replace hT := hT.gr hg (by have := own3 gc hgc; omega)
    replace HV := Dv.gr HV hg (.inr (own3 gc hgc))
    replace e := e.gr hg (own3 gc hgc)
    replace hD := hD.gr hg (hqD gc hgc)
    replace B5 := B5.gr hg (fun h => hqB5 (by rw [hgc, h]))
    replace B6 := B6.gr hg (fun h => hqB6 (by rw [hgc, h]))
    replace B7 := B7.gr hg (fun h => hq7 (by rw [hgc, h]))
    replace B8 := B8.gr hg (fun h => hq8 (by rw [hgc, h]))
    replace kh := kh.tr (Kh.gr hg (hgh gc hgc))
    have hgh2 : ∀ g, v2.ownBlock = some g → ¬Hole Bz g := fun g hg2 => by
      rcases hat with h | ⟨g', h, h'⟩
      · rw [h] at hg2; exact hgh g hg2
      · rw [h] at hg2; cases hg2
        intro hh
        have := hh.2
        omega
    have hqB8 : v2.ownBlock ≠ some b8' := hq2.ne B8 (by decide)
    clear hg hq hat hy
    refine tl_st1 T59 hf rfl rfl hq2.one B8 Nat.zero_lt_one fun w hg hsz B8 hf => ?_
    replace B8 : Blk w b8' #[v2] 59 := B8
    replace hT := hT.gr hg (by omega)
    replace HV := Dv.gr HV hg (.inr (by omega))
    replace e := e.gr hg (by omega)
    replace hD := hD.gr hg hD8
    replace B5 := B5.gr hg n58
    replace B6 := B6.gr hg n68
    replace B7 := B7.gr hg (Ne.symm n78)
    replace hq2 := hq2.gr hg hqB8
    replace kh := kh.tr (Kh.gr hg (noH l8))
    clear hg
    refine tl_nil ?_
    simp only [Exit.inBlock]
    have en : natI (s ++ [x]) = natI s ++ [(x : Int)] := by simp [natI]
    exact ⟨⟨e, hT, HV, B5, B6, by rw [en, List.foldl_append, List.foldl_cons, List.foldl_nil]; exact B7, ⟨v2, B8, by rw [en, ← List.append_assoc]; exact hq2, hgh2⟩, hD⟩, kh⟩
  · intro a' w' hf' hJ hsz hDn
    simp only [Exit.inBlock, ↓reduceIte, Exit.then]
    have hD2 : Ds (w.heap.size :: D) w' := hJ.ds.cons hDn fun hm => Nat.lt_irrefl _ (lD _ hm)
    have hf : FrD 41 (marks (w.heap.size :: D)) a' w' [(0, E fv), (5, E (.pointer (some ⟨b5, 0, none⟩))), (6, E (.pointer (some ⟨b6, 0, none⟩))), (7, E (.pointer (some ⟨b7, 0, none⟩))), (8, E (.pointer (some ⟨b8', 0, none⟩)))] := hf'.keep [0, 5, 6, 7, 8]
    have hDW2 : ∀ d ∈ w.heap.size :: D, W.heap.size ≤ d := fun d hd => by
      rcases List.mem_cons.1 hd with rfl | hd
      · exact hBW
      · exact hDW d hd
    clear hf' e hT HV B5 B6 B7 B8 BS hq hD hgb hDn hDW
    obtain ⟨e, hT, HV, B5, B6, B7, ⟨v, B8, hq, _⟩, _⟩ := hJ
    rw [natI] at hq B7
    replace hD := hD2
    replace hq : QR 3 W.heap.size w' ((q : Int) :: (R' ++ elI X)) v := hq
    replace B7 : Blk w' b7 (setC ((elI X).foldl ins S)) 67 := B7
    rw [ins_elems] at B7
    clear hD2
    generalize w.heap.size :: D = D2 at *
    generalize w' = w at *
    have e := e
    repeat refine seq ?_
    refine regn 1 hf (by decide +kernel) ?_
    refine st (ld1 (v := v) T59 rfl B8 rfl) ?_
    refine en fun a w e' hf => ?_
    replace hT := hT.ext e'
    replace HV := Dv.ex HV e'
    replace e := Ext.tr e e'
    replace B5 := B5.ext e'
    replace B6 := B6.ext e'
    replace B7 := B7.ext e'
    replace B8 := B8.ext e'
    replace hD := hD.ext e'
    replace hq := hq.ext e'
    clear e'
    refine tl_nil ?_
    replace hf := hf.keep [0, 5, 6, 7, 39]
    dsimp only [keep, List.filterMap, look, Nat.beq, Option.map] at hf
    clear B8
    have hqlt : ∀ b, v.ownBlock = some b → b < w.heap.size := fun b hb => (hq.lt hb).2
    have hDlt : ∀ d ∈ D2, d < w.heap.size := fun d hd => hD.lt hd
    have k5 := B5.lt
    have k6 := B6.lt
    have k7 := B7.lt
    have kW := e.size
    repeat refine seq ?_
    refine regn0 ?_
    refine tl_alloc I59 hf (by decide) fun a b8 w e' hb8 hs8 B8 hf => ?_
    have hle8 := Nat.le_trans e.size (Nat.le_of_eq hb8.symm)
    have lt8_B5 := B5.lt
    have lt8_B6 := B6.lt
    have lt8_B7 := B7.lt
    replace hT := hT.ext e'
    replace HV := Dv.ex HV e'
    replace e := Ext.tr e e'
    replace B5 := B5.ext e'
    replace B6 := B6.ext e'
    replace B7 := B7.ext e'
    replace hD := hD.ext e'
    replace hq := hq.ext e'
    clear e'
    have hDn8 : ¬ b8 ∈ D2 := fun h => by have := hDlt _ h; omega
    have hqn8 : v.ownBlock ≠ some b8 := fun h => by have := hqlt _ h; omega
    have hW8n : W.heap.size ≤ b8 := by omega
    refine tl_st1 T59 hf rfl rfl hq.one B8 (by decide) fun w hg hsz B8 hf => ?_
    replace B8 : Blk w b8 #[v] 59 := B8
    replace hT := hT.gr hg (by omega)
    replace HV := Dv.gr HV hg (.inr hW8n)
    replace e := e.gr hg hW8n
    replace hD := hD.gr hg hDn8
    replace B5 := B5.gr hg (by omega)
    replace B6 := B6.gr hg (by omega)
    replace B7 := B7.gr hg (by omega)
    replace hq := hq.gr hg hqn8
    clear hg
    refine tl_nil ?_
    replace hf := hf.keep [0, 5, 6, 7, 8]
    dsimp only [keep, List.filterMap, look, Nat.beq, Option.map] at hf
    repeat refine seq ?_
    refine regn 2 hf (by decide +kernel) ?_
    refine st (ld1 (v := v) T59 rfl B8 rfl) ?_
    refine st (slcQ (te := 3) (B := W.heap.size) Tryz.underlying59 S3 rfl rfl hq) ?_
    refine en fun a w e' hf => ?_
    replace hT := hT.ext e'
    replace HV := Dv.ex HV e'
    replace e := Ext.tr e e'
    replace B5 := B5.ext e'
    replace B6 := B6.ext e'
    replace B7 := B7.ext e'
    replace B8 := B8.ext e'
    replace hD := hD.ext e'
    replace hq := hq.ext e'
    clear e'
    obtain ⟨v2, hq2, hf⟩ := hf.fix 19 rfl
    have hq2 : QR 3 W.heap.size w (R' ++ elI X) v2 := hq2
    have hqn : v2.ownBlock ≠ some b8 := hq2.ne B8 (by decide)
    replace hf := hf.keep [0, 5, 6, 7, 8, 19]
    dsimp only [keep, List.filterMap, look, Nat.beq, Option.map] at hf
    refine tl_st1 T59 hf rfl rfl hq2.one B8 Nat.zero_lt_one fun w hg hsz B8 hf => ?_
    replace B8 : Blk w b8 #[v2] 59 := B8
    replace hT := hT.gr hg (by omega)
    replace HV := Dv.gr HV hg (.inr hW8n)
    replace e := e.gr hg hW8n
    replace hD := hD.gr hg hDn8
    replace B5 := B5.gr hg (by omega)
    replace B6 := B6.gr hg (by omega)
    replace B7 := B7.gr hg (by omega)
    replace hq2 := hq2.gr hg hqn
    clear hg
    refine tl_nil ?_
    replace hf := hf.keep [0, 5, 6, 7, 8]
    dsimp only [keep, List.filterMap, look, Nat.beq, Option.map] at hf
    refine ⟨f', Nat.lt_succ_self _, S ||| X, R' ++ elI X, b8, v2, D2, hZ, hf, ⟨e, hT, HV⟩, B5, B6, B7, B8, hq2, hD, hDW2, hW8n, fun r hr => ?_, ?_⟩
    · rcases List.mem_append.1 hr with h | h
      · exact hR r (by simp [h])
      · rw [elI, List.mem_map] at h
        obtain ⟨i, hi, rfl⟩ := h
        exact ⟨i, rfl, hXs i hi⟩
    · have h1 : (elI X).length = (elems X).length := by simp [elI]
      rw [List.length_append, h1]
      rw [List.length_cons] at hRl
      omega
end Go.Mono

namespace Go.Mono.Pop

theorem land_step (k M c z : Nat) (hc : c < 2 ^ k) : z &&& (2 ^ k * M + c) = 2 ^ k * ((z / 2 ^ k) &&& M) + ((z % 2 ^ k) &&& c) := by
  have h1 : (z % 2 ^ k) &&& c < 2 ^ k := Nat.lt_of_le_of_lt Nat.and_le_right hc
  apply Nat.eq_of_testBit_eq
  intro i
  rw [Nat.testBit_and, Nat.testBit_two_pow_mul_add _ hc, Nat.testBit_two_pow_mul_add _ h1]
  split
  · rename_i hi
    rw [Nat.testBit_and, Nat.testBit_mod_two_pow]
    simp [hi]
  · rename_i hi
    rw [Nat.testBit_and, Nat.testBit_div_two_pow]
    congr 2
    omega
theorem land256 (M c z : Nat) (hc : c < 256) : z &&& (256 * M + c) = 256 * ((z / 256) &&& M) + ((z % 256) &&& c) := land_step 8 M c z hc

def mask (c : Nat) : Nat → Nat
  | 0 => 0
  | n + 1 => 256 * mask c n + c
def pc (b : Nat) : Nat := (List.range 8).countP fun i => b.testBit i
/-- the bytes' counts, each in its byte -/
def F : Nat → Nat → Nat
  | 0, _ => 0
  | n + 1, x => pc (x % 256) + 256 * F n (x / 256)
def sA (m x : Nat) : Nat := ((x / 2) &&& m) + (x &&& m)
def sB (m x : Nat) : Nat := ((x / 4) &&& m) + (x &&& m)
def sC (m x : Nat) : Nat := (x / 16 + x) &&& m

theorem kA : ∀ b, b < 256 → ∀ e, e < 2 → (b / 2 + 128 * e) &&& 85 = (b / 2) &&& 85 := by decide +kernel
theorem kA2 : ∀ b, b < 256 → sA 85 b < 256 := by decide +kernel
theorem kB : ∀ b, b < 256 → ∀ e, e < 4 → (b / 4 + 64 * e) &&& 51 = (b / 4) &&& 51 := by decide +kernel
theorem kB2 : ∀ b, b < 256 → sB 51 (sA 85 b) < 256 ∧ sB 51 (sA 85 b) % 16 < 5 := by decide +kernel
theorem kC : ∀ b, b < 256 → ∀ e, e < 5 → e * 16 + (sB 51 (sA 85 b) / 16 + sB 51 (sA 85 b)) < 256 ∧ (e * 16 + (sB 51 (sA 85 b) / 16 + sB 51 (sA 85 b))) &&& 15 = pc b := by decide +kernel
theorem pc_le : ∀ b, b < 256 → pc b ≤ 8 := by decide +kernel

theorem stepA (n x : Nat) : sA (mask 85 (n + 1)) x = sA 85 (x % 256) + 256 * sA (mask 85 n) (x / 256) := by
  unfold sA
  rw [mask, land256 _ _ _ (by decide), land256 _ _ _ (by decide)]
  have h1 : x / 2 / 256 = x / 256 / 2 := by omega
  have h2 : x / 2 % 256 = x % 256 / 2 + 128 * (x / 256 % 2) := by omega
  rw [h1, h2, kA _ (Nat.mod_lt _ (by decide)) _ (Nat.mod_lt _ (by decide))]
  omega
theorem stepB (n y : Nat) : sB (mask 51 (n + 1)) y = sB 51 (y % 256) + 256 * sB (mask 51 n) (y / 256) := by
  unfold sB
  rw [mask, land256 _ _ _ (by decide), land256 _ _ _ (by decide)]
  have h1 : y / 4 / 256 = y / 256 / 4 := by omega
  have h2 : y / 4 % 256 = y % 256 / 4 + 64 * (y / 256 % 4) := by omega
  rw [h1, h2, kB _ (Nat.mod_lt _ (by decide)) _ (Nat.mod_lt _ (by decide))]
  omega
theorem AB (n x : Nat) : sB (mask 51 (n + 1)) (sA (mask 85 (n + 1)) x) = sB 51 (sA 85 (x % 256)) + 256 * sB (mask 51 n) (sA (mask 85 n) (x / 256)) := by
  have h := kA2 (x % 256) (Nat.mod_lt _ (by decide))
  rw [stepA, stepB]
  have h1 : (sA 85 (x % 256) + 256 * sA (mask 85 n) (x / 256)) % 256 = sA 85 (x % 256) := by omega
  have h2 : (sA 85 (x % 256) + 256 * sA (mask 85 n) (x / 256)) / 256 = sA (mask 85 n) (x / 256) := by omega
  rw [h1, h2]
theorem AB_low : ∀ (n x : Nat), sB (mask 51 n) (sA (mask 85 n) x) % 16 < 5
  | 0, x => by simp [sB, sA, mask]
  | n + 1, x => by
    rw [AB]
    have := (kB2 (x % 256) (Nat.mod_lt _ (by decide))).2
    omega
theorem ABC : ∀ (n x : Nat), sC (mask 15 n) (sB (mask 51 n) (sA (mask 85 n) x)) = F n x
  | 0, x => by simp [sC, mask, F]
  | n + 1, x => by
    have hb := Nat.mod_lt x (show 256 > 0 by decide)
    have hq := AB_low n (x / 256)
    have ih := ABC n (x / 256)
    obtain ⟨k1, k2⟩ := kC _ hb _ hq
    have k3 := (kB2 _ hb).1
    rw [AB, F, ← ih]
    generalize sB (mask 51 n) (sA (mask 85 n) (x / 256)) = q at *
    generalize sB 51 (sA 85 (x % 256)) = b at *
    unfold sC
    rw [mask, land256 _ _ _ (by decide)]
    have h1 : (b + 256 * q) / 16 + (b + 256 * q) = 256 * (q / 16 + q) + (q % 16 * 16 + (b / 16 + b)) := by omega
    rw [h1]
    have h2 : (256 * (q / 16 + q) + (q % 16 * 16 + (b / 16 + b))) / 256 = q / 16 + q := by omega
    have h3 : (256 * (q / 16 + q) + (q % 16 * 16 + (b / 16 + b))) % 256 = q % 16 * 16 + (b / 16 + b) := by omega
    rw [h2, h3, k2]
    omega
theorem masks : mask 85 8 = 6148914691236517205 ∧ mask 51 8 = 3689348814741910323 ∧ mask 15 8 = 1085102592571150095 := by decide

/-- the bytes' sum -/
def G : Nat → Nat → Nat
  | 0, _ => 0
  | n + 1, x => pc (x % 256) + G n (x / 256)
def V : List Nat → Nat
  | [] => 0
  | a :: l => a + 256 * V l
def addL : List Nat → List Nat → List Nat
  | [], m => m
  | l, [] => l
  | a :: l, b :: m => (a + b) :: addL l m
theorem V_add : ∀ l m, V (addL l m) = V l + V m
  | [], m => by simp [addL, V]
  | a :: l, [] => by simp [addL, V]
  | a :: l, b :: m => by simp only [addL, V, V_add l m]; omega
theorem V_div : ∀ (k : Nat) (l : List Nat), (∀ a ∈ l, a < 256) → V l / 256 ^ k = V (l.drop k)
  | 0, l, _ => by simp
  | k + 1, [], _ => by simp [V]
  | k + 1, a :: l, h => by
    have h1 : V (a :: l) / 256 = V l := by
      have := h a (by simp)
      simp only [V]
      omega
    rw [Nat.pow_succ, Nat.mul_comm, ← Nat.div_div_eq_div_mul, h1, V_div k l (fun x hx => h x (by simp [hx]))]
    simp
theorem V_lt : ∀ (l : List Nat), (∀ a ∈ l, a < 256) → V l < 256 ^ l.length
  | [], _ => by simp [V]
  | a :: l, h => by
    have h1 := h a (by simp)
    have h2 := V_lt l (fun x hx => h x (by simp [hx]))
    simp only [V, List.length_cons, Nat.pow_succ]
    omega
theorem addL_le (x y : Nat) : ∀ (l m : List Nat), (∀ a ∈ l, a ≤ x) → (∀ a ∈ m, a ≤ y) → ∀ a ∈ addL l m, a ≤ x + y
  | [], m, _, h2 => fun a ha => by have := h2 a (by simpa [addL] using ha); omega
  | a :: l, [], h1, _ => fun b hb => by have := h1 b (by simpa [addL] using hb); omega
  | a :: l, b :: m, h1, h2 => fun c hc => by
    simp only [addL, List.mem_cons] at hc
    rcases hc with rfl | hc
    · have := h1 a (by simp); have := h2 b (by simp); omega
    · exact addL_le x y l m (fun x hx => h1 x (by simp [hx])) (fun x hx => h2 x (by simp [hx])) c hc
theorem addL_len : ∀ (l m : List Nat), m.length ≤ l.length → (addL l m).length = l.length
  | [], [], _ => rfl
  | a :: l, [], _ => rfl
  | a :: l, b :: m, h => by simp only [addL, List.length_cons] at h ⊢; rw [addL_len l m (by omega)]
/-- one step: a number of eight bytes, no more than b each, and itself shifted down by k bytes -/
theorem stepV (k b : Nat) (l : List Nat) (hl : l.length = 8) (hb : ∀ a ∈ l, a ≤ b) (h : b + b < 256) :
    (V l + V l / 256 ^ k) % 18446744073709551616 = V (addL l (l.drop k)) ∧ (addL l (l.drop k)).length = 8 ∧ ∀ a ∈ addL l (l.drop k), a ≤ b + b := by
  have hd : ∀ a ∈ l.drop k, a ≤ b := fun a ha => hb a (List.mem_of_mem_drop ha)
  have h3 := addL_le b b l (l.drop k) hb hd
  have h2 := addL_len l (l.drop k) (by simp)
  refine ⟨?_, by omega, h3⟩
  rw [V_div k l (fun a ha => by have := hb a ha; omega), ← V_add]
  refine Nat.mod_eq_of_lt ?_
  have := V_lt (addL l (l.drop k)) (fun a ha => by have := h3 a ha; omega)
  rw [h2, hl] at this
  exact this
def bytes (x : Nat) : List Nat := [pc (x % 256), pc (x / 256 % 256), pc (x / 256 / 256 % 256), pc (x / 256 / 256 / 256 % 256), pc (x / 256 / 256 / 256 / 256 % 256), pc (x / 256 / 256 / 256 / 256 / 256 % 256),
  pc (x / 256 / 256 / 256 / 256 / 256 / 256 % 256), pc (x / 256 / 256 / 256 / 256 / 256 / 256 / 256 % 256)]
theorem F_V (x : Nat) : F 8 x = V (bytes x) := rfl
theorem bytes_le (x : Nat) : ∀ a ∈ bytes x, a ≤ 8 := by
  intro a ha
  simp only [bytes, List.mem_cons, List.not_mem_nil, or_false] at ha
  rcases ha with rfl | rfl | rfl | rfl | rfl | rfl | rfl | rfl <;> exact pc_le _ (Nat.mod_lt _ (by decide))
theorem head_sum : ∀ p0 p1 p2 p3 p4 p5 p6 p7 : Nat, ∃ t, addL (addL (addL [p0, p1, p2, p3, p4, p5, p6, p7] [p1, p2, p3, p4, p5, p6, p7]) ((addL [p0, p1, p2, p3, p4, p5, p6, p7] [p1, p2, p3, p4, p5, p6, p7]).drop 2)) ((addL (addL [p0, p1, p2, p3, p4, p5, p6, p7] [p1, p2, p3, p4, p5, p6, p7]) ((addL [p0, p1, p2, p3, p4, p5, p6, p7] [p1, p2, p3, p4, p5, p6, p7]).drop 2)).drop 4) = (p0 + p1 + (p2 + p3) + (p4 + p5 + (p6 + p7))) :: t := by
  intros
  exact ⟨_, rfl⟩
theorem fold8 (x y4 y5 y6 : Nat) (h4 : y4 = (F 8 x + F 8 x / 256) % 18446744073709551616) (h5 : y5 = (y4 + y4 / 65536) % 18446744073709551616) (h6 : y6 = (y5 + y5 / 4294967296) % 18446744073709551616) :
    y6 % 128 = G 8 x := by
  rw [F_V] at h4
  obtain ⟨a1, a2, a3⟩ := stepV 1 8 (bytes x) rfl (bytes_le x) (by decide)
  rw [Nat.pow_one] at a1
  rw [a1] at h4
  obtain ⟨b1, b2, b3⟩ := stepV 2 16 _ a2 a3 (by decide)
  rw [h4, show (65536 : Nat) = 256 ^ 2 from rfl, b1] at h5
  obtain ⟨c1, c2, c3⟩ := stepV 4 32 _ b2 b3 (by decide)
  rw [h5, show (4294967296 : Nat) = 256 ^ 4 from rfl, c1] at h6
  obtain ⟨t, ht⟩ := head_sum (pc (x % 256)) (pc (x / 256 % 256)) (pc (x / 256 / 256 % 256)) (pc (x / 256 / 256 / 256 % 256)) (pc (x / 256 / 256 / 256 / 256 % 256)) (pc (x / 256 / 256 / 256 / 256 / 256 % 256))
    (pc (x / 256 / 256 / 256 / 256 / 256 / 256 % 256)) (pc (x / 256 / 256 / 256 / 256 / 256 / 256 / 256 % 256))
  have hb := bytes_le x
  simp only [bytes, List.mem_cons, List.not_mem_nil, or_false, forall_eq_or_imp, forall_eq] at hb
  have h7 : y6 = V ((pc (x % 256) + pc (x / 256 % 256) + (pc (x / 256 / 256 % 256) + pc (x / 256 / 256 / 256 % 256)) + (pc (x / 256 / 256 / 256 / 256 % 256) + pc (x / 256 / 256 / 256 / 256 / 256 % 256) +
    (pc (x / 256 / 256 / 256 / 256 / 256 / 256 % 256) + pc (x / 256 / 256 / 256 / 256 / 256 / 256 / 256 % 256)))) :: t) := by
    rw [h6, ← ht]
    rfl
  rw [h7]
  simp only [V, G]
  obtain ⟨g0, g1, g2, g3, g4, g5, g6, g7⟩ := hb
  generalize pc (x % 256) = p0 at *
  generalize pc (x / 256 % 256) = p1 at *
  generalize pc (x / 256 / 256 % 256) = p2 at *
  generalize pc (x / 256 / 256 / 256 % 256) = p3 at *
  generalize pc (x / 256 / 256 / 256 / 256 % 256) = p4 at *
  generalize pc (x / 256 / 256 / 256 / 256 / 256 % 256) = p5 at *
  generalize pc (x / 256 / 256 / 256 / 256 / 256 / 256 % 256) = p6 at *
  generalize pc (x / 256 / 256 / 256 / 256 / 256 / 256 / 256 % 256) = p7 at *
  clear a1 a2 a3 b1 b2 b3 c1 c2 c3 h4 h5 h6 h7 ht
  generalize V t = z
  omega
theorem range_split (n : Nat) (f : Nat → Bool) : (List.range (8 * (n + 1))).countP f = (List.range 8).countP f + (List.range (8 * n)).countP (fun i => f (i + 8)) := by
  rw [show 8 * (n + 1) = 8 + 8 * n by omega, List.range_add, List.countP_append, List.countP_map]
  congr 1
  refine List.countP_congr fun i _ => ?_
  simp [Function.comp, Nat.add_comm]
theorem count_G : ∀ (n x : Nat), (List.range (8 * n)).countP (fun i => x.testBit i) = G n x
  | 0, x => rfl
  | n + 1, x => by
    rw [range_split, G, ← count_G n (x / 256)]
    congr 1
    · unfold pc
      refine List.countP_congr fun i hi => ?_
      have := List.mem_range.1 hi
      rw [show (256 : Nat) = 2 ^ 8 from rfl, Nat.testBit_mod_two_pow]
      simp [this]
    · refine List.countP_congr fun i _ => ?_
      rw [show (256 : Nat) = 2 ^ 8 from rfl, Nat.testBit_div_two_pow]
end Go.Mono.Pop

namespace Go.Mono
open Go Go.Proofs Go.RowKit

def popw (x : BitVec 64) : Nat := (List.range 64).countP fun i => x.getLsbD i
theorem popw_le (x : BitVec 64) : popw x ≤ 64 := by
  have := List.countP_le_length (p := fun i => x.getLsbD i) (l := List.range 64)
  simpa [popw] using this
theorem popw_G (x : BitVec 64) : popw x = Pop.G 8 x.toNat := by
  rw [← Pop.count_G 8 x.toNat]
  rfl
theorem pop_calc (x x1 x2 x3 x4 x5 x6 : BitVec 64) (h1 : x1 = ((x >>> 1) &&& 6148914691236517205#64) + (x &&& 6148914691236517205#64)) (h2 : x2 = ((x1 >>> 2) &&& 3689348814741910323#64) + (x1 &&& 3689348814741910323#64))
    (h3 : x3 = ((x2 >>> 4) + x2) &&& 1085102592571150095#64) (h4 : x4 = x3 + (x3 >>> 8)) (h5 : x5 = x4 + (x4 >>> 16)) (h6 : x6 = x5 + (x5 >>> 32)) : (x6 &&& 127#64).toNat = popw x := by
  have e1 : x1.toNat = Pop.sA (Pop.mask 85 8) x.toNat := by
    rw [h1, Pop.masks.1, BitVec.toNat_add, BitVec.toNat_and, BitVec.toNat_and, BitVec.toNat_ushiftRight, Nat.shiftRight_eq_div_pow]
    show ((x.toNat / 2 &&& 6148914691236517205) + (x.toNat &&& 6148914691236517205)) % 2 ^ 64 = _
    have a1 := @Nat.and_le_right (x.toNat / 2) 6148914691236517205
    have a2 := @Nat.and_le_right x.toNat 6148914691236517205
    rw [Nat.mod_eq_of_lt (by omega)]
    rfl
  have e2 : x2.toNat = Pop.sB (Pop.mask 51 8) x1.toNat ∧ x2.toNat ≤ 7378697629483820646 := by
    rw [h2, Pop.masks.2.1, BitVec.toNat_add, BitVec.toNat_and, BitVec.toNat_and, BitVec.toNat_ushiftRight, Nat.shiftRight_eq_div_pow]
    show ((x1.toNat / 4 &&& 3689348814741910323) + (x1.toNat &&& 3689348814741910323)) % 2 ^ 64 = _ ∧ ((x1.toNat / 4 &&& 3689348814741910323) + (x1.toNat &&& 3689348814741910323)) % 2 ^ 64 ≤ _
    have a1 := @Nat.and_le_right (x1.toNat / 4) 3689348814741910323
    have a2 := @Nat.and_le_right x1.toNat 3689348814741910323
    rw [Nat.mod_eq_of_lt (by omega)]
    exact ⟨rfl, by omega⟩
  have e3 : x3.toNat = Pop.sC (Pop.mask 15 8) x2.toNat := by
    rw [h3, Pop.masks.2.2, BitVec.toNat_and, BitVec.toNat_add, BitVec.toNat_ushiftRight, Nat.shiftRight_eq_div_pow]
    show (x2.toNat / 16 + x2.toNat) % 2 ^ 64 &&& 1085102592571150095 = _
    rw [Nat.mod_eq_of_lt (by omega)]
    rfl
  have e3' : x3.toNat = Pop.F 8 x.toNat := by rw [e3, e2.1, e1, Pop.ABC]
  have e4 : x4.toNat = (Pop.F 8 x.toNat + Pop.F 8 x.toNat / 256) % 18446744073709551616 := by
    rw [h4, BitVec.toNat_add, BitVec.toNat_ushiftRight, Nat.shiftRight_eq_div_pow, e3']
  have e5 : x5.toNat = (x4.toNat + x4.toNat / 65536) % 18446744073709551616 := by
    rw [h5, BitVec.toNat_add, BitVec.toNat_ushiftRight, Nat.shiftRight_eq_div_pow]
  have e6 : x6.toNat = (x5.toNat + x5.toNat / 4294967296) % 18446744073709551616 := by
    rw [h6, BitVec.toNat_add, BitVec.toNat_ushiftRight, Nat.shiftRight_eq_div_pow]
  have := Pop.fold8 _ _ _ _ e4 e5 e6
  rw [popw_G, ← this, BitVec.toNat_and]
  exact Nat.and_two_pow_sub_one_eq_mod x6.toNat 7

theorem andI {P : Program} {w0 : World} {L : Env} {dst : Option Tmp} {ty : TypeId} {pos : String} {aft : Array Edge} {g : Option (Nat × Bool)} {x y : Operand} {t yt : TypeId} {a b : Int}
    (hx : opd L x = some (E (.int .i64 a))) (hy : opd L y = some (E (.int .i64 b))) :
    OpC P w0 L ⟨dst, .binOp .and t x y yt, ty, pos, aft, g⟩ (E (.int .i64 (IntKind.i64.wrap ((BitVec.ofInt 64 a &&& BitVec.ofInt 64 b).toNat : Int)))) :=
  binInt rfl hx hy
theorem ofInt_wrap (x : BitVec 64) : BitVec.ofInt 64 (IntKind.i64.wrap (x.toNat : Int)) = x := by
  apply BitVec.eq_of_toInt_eq
  rw [BitVec.toInt_ofInt]
  have := x.isLt
  rw [BitVec.toInt_eq_toNat_bmod]
  rw [IntKind.wrap_i64]
  simp only [Int.bmod]
  split <;> split <;> omega
theorem and127 {x : BitVec 64} {n : Nat} (h : (x &&& 127#64).toNat = n) (hn : n ≤ 64) : IntKind.i64.wrap ((BitVec.ofInt 64 (IntKind.i64.wrap (x.toNat : Int)) &&& BitVec.ofInt 64 127).toNat : Int) = n := by
  rw [ofInt_wrap]
  have e : BitVec.ofInt 64 127 = 127#64 := by decide
  rw [e, h]
  exact IntWalk.i64_in _ (by omega)

theorem ones_spec (x : BitVec 64) (W : World) : Calls Tryz.prog 126 #[Mono.W x] W (Post (E (I (popw x))) W) := by
  obtain ⟨x1, h1⟩ : ∃ x1, x1 = ((x >>> 1) &&& 6148914691236517205#64) + (x &&& 6148914691236517205#64) := ⟨_, rfl⟩
  obtain ⟨x2, h2⟩ : ∃ x2, x2 = ((x1 >>> 2) &&& 3689348814741910323#64) + (x1 &&& 3689348814741910323#64) := ⟨_, rfl⟩
  obtain ⟨x3, h3⟩ : ∃ x3, x3 = ((x2 >>> 4) + x2) &&& 1085102592571150095#64 := ⟨_, rfl⟩
  obtain ⟨x4, h4⟩ : ∃ x4, x4 = x3 + (x3 >>> 8) := ⟨_, rfl⟩
  obtain ⟨x5, h5⟩ : ∃ x5, x5 = x4 + (x4 >>> 16) := ⟨_, rfl⟩
  obtain ⟨x6, h6⟩ : ∃ x6, x6 = x5 + (x5 >>> 32) := ⟨_, rfl⟩
  have hc := and127 (pop_calc x x1 x2 x3 x4 x5 x6 h1 h2 h3 h4 h5 h6) (popw_le x)
  refine enter (args := [Mono.W x]) (As := [E (Mono.W x)]) Tryz.func126 rfl Tryz.ntmps126 (Nat.le_of_ble_eq_true rfl) ?_ (fun a hf => ?_) (Nat.le_of_ble_eq_true rfl)
  rotate_left
  dsimp only [params, Nat.reduceAdd] at hf
  rotate_right
  · exact arg1 rfl
  have e := Ext.rfl' W
  repeat refine seq ?_
  refine regn0 ?_
  refine tl_as hf rfl (by decide) fun a hf => ?_
  refine tl_nil ?_
  replace hf := hf.keep [0]
  dsimp only [keep, List.filterMap, look, Nat.beq, Option.map] at hf
  repeat refine seq ?_
  refine regn 6 hf (by decide +kernel) ?_
  refine st (mv rfl) ?_
  refine st (shrW rfl rfl (by omega)) ?_
  refine st (andW (v := 6148914691236517205#64) rfl rfl) ?_
  refine st (mv rfl) ?_
  refine st (andW (v := 6148914691236517205#64) rfl rfl) ?_
  refine st ((addW rfl rfl).eq (show Mono.W _ = Mono.W x1 from by rw [h1]; rfl)) ?_
  refine en fun a w e' hf => ?_
  replace e := Ext.tr e e'
  clear e'
  refine tl_as hf rfl (by decide) fun a hf => ?_
  refine tl_nil ?_
  replace hf := hf.keep [0]
  dsimp only [keep, List.filterMap, look, Nat.beq, Option.map] at hf
  repeat refine seq ?_
  refine regn 6 hf (by decide +kernel) ?_
  refine st (mv rfl) ?_
  refine st (shrW rfl rfl (by omega)) ?_
  refine st (andW (v := 3689348814741910323#64) rfl rfl) ?_
  refine st (mv rfl) ?_
  refine st (andW (v := 3689348814741910323#64) rfl rfl) ?_
  refine st ((addW rfl rfl).eq (show Mono.W _ = Mono.W x2 from by rw [h2]; rfl)) ?_
  refine en fun a w e' hf => ?_
  replace e := Ext.tr e e'
  clear e'
  refine tl_as hf rfl (by decide) fun a hf => ?_
  refine tl_nil ?_
  replace hf := hf.keep [0]
  dsimp only [keep, List.filterMap, look, Nat.beq, Option.map] at hf
  repeat refine seq ?_
  refine regn 5 hf (by decide +kernel) ?_
  refine st (mv rfl) ?_
  refine st (shrW rfl rfl (by omega)) ?_
  refine st (mv rfl) ?_
  refine st (addW rfl rfl) ?_
  refine st ((andW (v := 1085102592571150095#64) rfl rfl).eq (show Mono.W _ = Mono.W x3 from by rw [h3]; rfl)) ?_
  refine en fun a w e' hf => ?_
  replace e := Ext.tr e e'
  clear e'
  refine tl_as hf rfl (by decide) fun a hf => ?_
  refine tl_nil ?_
  replace hf := hf.keep [0]
  dsimp only [keep, List.filterMap, look, Nat.beq, Option.map] at hf
  repeat refine seq ?_
  refine regn 4 hf (by decide +kernel) ?_
  refine st (mv rfl) ?_
  refine st (mv rfl) ?_
  refine st (shrW rfl rfl (by omega)) ?_
  refine st ((addW rfl rfl).eq (show Mono.W _ = Mono.W x4 from by rw [h4]; rfl)) ?_
  refine en fun a w e' hf => ?_
  replace e := Ext.tr e e'
  clear e'
  refine tl_as hf rfl (by decide) fun a hf => ?_
  refine tl_nil ?_
  replace hf := hf.keep [0]
  dsimp only [keep, List.filterMap, look, Nat.beq, Option.map] at hf
  repeat refine seq ?_
  refine regn 4 hf (by decide +kernel) ?_
  refine st (mv rfl) ?_
  refine st (mv rfl) ?_
  refine st (shrW rfl rfl (by omega)) ?_
  refine st ((addW rfl rfl).eq (show Mono.W _ = Mono.W x5 from by rw [h5]; rfl)) ?_
  refine en fun a w e' hf => ?_
  replace e := Ext.tr e e'
  clear e'
  refine tl_as hf rfl (by decide) fun a hf => ?_
  refine tl_nil ?_
  replace hf := hf.keep [0]
  dsimp only [keep, List.filterMap, look, Nat.beq, Option.map] at hf
  repeat refine seq ?_
  refine regn 4 hf (by decide +kernel) ?_
  refine st (mv rfl) ?_
  refine st (mv rfl) ?_
  refine st (shrW rfl rfl (by omega)) ?_
  refine st ((addW rfl rfl).eq (show Mono.W _ = Mono.W x6 from by rw [h6]; rfl)) ?_
  refine en fun a w e' hf => ?_
  replace e := Ext.tr e e'
  clear e'
  refine tl_as hf rfl (by decide) fun a hf => ?_
  refine tl_nil ?_
  replace hf := hf.keep [0]
  dsimp only [keep, List.filterMap, look, Nat.beq, Option.map] at hf
  repeat refine seq ?_
  refine regn 3 hf (by decide +kernel) ?_
  refine st (mv rfl) ?_
  refine st (convI Tryz.underlying65 Tryz.underlying3 rfl) ?_
  refine st ((andI rfl rfl).eq (congrArg (Value.int .i64) hc)) ?_
  refine en fun a w e' hf => ?_
  replace e := Ext.tr e e'
  clear e'
  refine tl_as hf rfl (by decide) fun a hf => ?_
  refine tl_nil ?_
  refine wret (ret1 rfl hf rfl ?_)
  rintro v rfl
  exact ⟨_, rfl, e, rfl⟩

/-- the number of elements -/
def card (S : BS) : Nat := (List.range 1024).countP fun i => S.getLsbD i
def cardTo (S : BS) (k : Nat) : Nat := (List.range (64 * k)).countP fun i => S.getLsbD i
theorem cardTo_succ (S : BS) (k : Nat) : cardTo S (k + 1) = cardTo S k + popw (word S k) := by
  unfold cardTo popw
  rw [show 64 * (k + 1) = 64 * k + 64 by omega, List.range_add, List.countP_append, List.countP_map]
  refine congrArg (fun n => (List.range (64 * k)).countP (fun i => S.getLsbD i) + n) (List.countP_congr fun i hi => ?_)
  have := List.mem_range.1 hi
  simp [word_bit _ _ _ this]
theorem cardTo_16 (S : BS) : cardTo S 16 = card S := by simp only [cardTo, card, Nat.reduceMul]
theorem cardTo_le (S : BS) (k : Nat) : cardTo S k ≤ 64 * k := by
  have := List.countP_le_length (p := fun i => S.getLsbD i) (l := List.range (64 * k))
  simpa [cardTo] using this

theorem len_spec (S : BS) (W : World) : Calls Tryz.prog 77 #[setV S] W (Post (E (I (card S))) W) := by
  refine enter (args := [setV S]) (As := [E (setV S)]) Tryz.func77 rfl Tryz.ntmps77 (Nat.le_of_ble_eq_true rfl) ?_ (fun a hf => ?_) (Nat.le_of_ble_eq_true rfl)
  rotate_left
  dsimp only [params, Nat.reduceAdd] at hf
  rotate_right
  · exact arg1 rfl
  have e := Ext.rfl' W
  repeat refine seq ?_
  refine regn0 ?_
  refine tl_box hf rfl (by decide) fun a b1 w v1 hv1 e' hb1 hs1 B1 hf => ?_
  have hle1 := Nat.le_trans e.size (Nat.le_of_eq hb1.symm)
  replace e := Ext.tr e e'
  clear e'
  refine tl_as hf rfl (by decide) fun a hf => ?_
  refine tl_nil ?_
  subst hv1
  rw [setV_cells] at B1
  repeat refine seq ?_
  refine regn0 ?_
  refine tl_as hf rfl (by decide) fun a hf => ?_
  refine tl_nil ?_
  repeat refine seq ?_
  refine regn 2 hf (by decide +kernel) ?_
  refine st (ldW T67 rfl (by assumption) rfl) ?_
  refine st (mv rfl) ?_
  refine en fun a w e' hf => ?_
  replace e := Ext.tr e e'
  replace B1 := B1.ext e'
  clear e'
  refine tl_nil ?_
  replace hf := hf.keep [3, 6, 7]
  dsimp only [keep, List.filterMap, look, Nat.beq, Option.map] at hf
  repeat refine seq ?_
  refine blk (loopN (fun r a w => ∃ k : Nat, r = 16 - k ∧ k ≤ 16 ∧ Fr 16 a w [(3, E (I (cardTo S k))), (6, E (setV S)), (7, E (I k))] ∧ Ext W w) 16 ⟨0, rfl, by omega, hf, e⟩ ?_)
  clear hf e B1
  rintro r a w ⟨k, rfl, hk, hf, e⟩
  by_cases hlt : k < 16
  · repeat refine seq ?_
    refine regn 1 hf (by decide +kernel) ?_
    refine st ((lss rfl rfl).eq (congrArg Value.bool (show decide ((k : Int) < 16) = true from decide_eq_true (by omega)))) ?_
    refine en fun a w e' hf => ?_
    replace e := Ext.tr e e'
    clear e'
    refine tl_nil ?_
    repeat refine seq ?_
    refine ifc hf rfl (fun _ => wskip ?_) (fun h => by cases h)
    repeat refine seq ?_
    refine blk ?_
    repeat refine seq ?_
    refine regn 1 hf (by decide +kernel) ?_
    refine st (idxV Tryz.underlying67 T65 rfl rfl (by omega) (by simpa [setC] using wordsC_get (word S) k hlt)) ?_
    refine en fun a w e' hf => ?_
    replace e := Ext.tr e e'
    clear e'
    refine tl_as hf rfl (by decide) fun a hf => ?_
    refine tl_nil ?_
    have hp := popw_le (word S k)
    have hq := cardTo_le S k
    repeat refine seq ?_
    refine regn 4 hf (by decide +kernel) ?_
    refine st (mv rfl) ?_
    refine st (mv rfl) ?_
    refine st (call1 En126 rfl (fun v w' e' h => by cases h; exact ones_spec _ w')) ?_
    refine st ((add rfl rfl (by omega)).eq (congrArg (Value.int .i64) (show ((cardTo S k : Nat) : Int) + (popw (word S k) : Nat) = (cardTo S (k + 1) : Nat) from by rw [cardTo_succ]; omega))) ?_
    refine en fun a w e' hf => ?_
    replace e := Ext.tr e e'
    clear e'
    refine tl_as hf rfl (by decide) fun a hf => ?_
    refine tl_nil ?_
    repeat refine seq ?_
    refine regn 1 hf (by decide +kernel) ?_
    refine st (add rfl rfl (by omega)) ?_
    refine en fun a w e' hf => ?_
    replace e := Ext.tr e e'
    clear e'
    refine tl_op hf (by decide) (mv rfl) fun a w e' hf => ?_
    replace e := Ext.tr e e'
    clear e'
    refine tl_nil ?_
    replace hf := hf.keep [3, 6, 7]
    dsimp only [keep, List.filterMap, look, Nat.beq, Option.map] at hf
    exact ⟨16 - (k + 1), by omega, k + 1, rfl, by omega, by simpa using hf, e⟩
  · obtain rfl : k = 16 := by omega
    repeat refine seq ?_
    refine regn 1 hf (by decide +kernel) ?_
    refine st ((lss rfl rfl).eq (congrArg Value.bool (show decide (((16 : Nat) : Int) < 16) = false from rfl))) ?_
    refine en fun a w e' hf => ?_
    replace e := Ext.tr e e'
    clear e'
    refine tl_nil ?_
    repeat refine seq ?_
    refine ifc hf rfl (fun h => by cases h) (fun _ => wexit ?_)
    simp only [Exit.then, Exit.inBlock, ↓reduceIte]
    repeat refine seq ?_
    refine regn 1 hf (by decide +kernel) ?_
    refine st (mv rfl) ?_
    refine en fun a w e' hf => ?_
    replace e := Ext.tr e e'
    clear e'
    refine tl_as hf rfl (by decide) fun a hf => ?_
    refine tl_nil ?_
    refine wret (ret1 rfl hf rfl ?_)
    rintro v rfl
    exact ⟨_, rfl, e, by rw [cardTo_16]; rfl⟩
end Go.Mono

namespace Go.Mono
open Classical

/-- a tree by the bag above each bag -/
structure Tr where
  n : Nat
  par : Nat → Option Nat
  dep : Nat → Nat
  lt : ∀ {i j}, i < n → par i = some j → j < n
  dp : ∀ {i j}, i < n → par i = some j → dep i = dep j + 1
  one : ∀ {i j}, i < n → j < n → par i = none → par j = none → i = j

namespace Tr
variable (T : Tr)

noncomputable def topF (A : Nat → Prop) : Nat → Nat → Nat
  | 0, x => x
  | f + 1, x => match T.par x with
    | some p => if A p then topF A f p else x
    | none => x
/-- the highest bag reached from x on the way up within A -/
noncomputable def tp (A : Nat → Prop) (x : Nat) : Nat := T.topF A (T.dep x) x
variable {T} {A B C D : Nat → Prop} {x y z u c k m : Nat}
theorem tp_up (hx : x < T.n) {p : Nat} (h : T.par x = some p) (hp : A p) : T.tp A x = T.tp A p := by
  unfold tp
  rw [T.dp hx h, topF, h]
  simp [hp]
theorem tp_stop (h : ∀ p, T.par x = some p → ¬A p) : T.tp A x = x := by
  unfold tp
  cases T.dep x with
  | zero => rfl
  | succ d =>
    rw [topF]
    cases hp : T.par x with
    | none => rfl
    | some p => simp [h p hp]
/-- from the root down -/
theorem ind {p : Nat → Prop} (step : ∀ i, i < T.n → (∀ j, T.par i = some j → p j) → p i) : ∀ i, i < T.n → p i := by
  have : ∀ d i, i < T.n → T.dep i = d → p i := by
    intro d
    induction d using Nat.strongRecOn with
    | _ d ih =>
      intro i hi hd
      refine step i hi fun j hj => ?_
      have := T.dp hi hj
      exact ih (T.dep j) (by omega) j (T.lt hi hj) rfl
  exact fun i hi => this _ i hi rfl
theorem tp_cases (x : Nat) : (∃ p, T.par x = some p ∧ A p) ∨ ∀ p, T.par x = some p → ¬A p := by
  by_cases h : ∃ p, T.par x = some p ∧ A p
  · exact .inl h
  · exact .inr fun p hp ha => h ⟨p, hp, ha⟩
theorem tp_mem : ∀ x, x < T.n → A x → A (T.tp A x) ∧ T.tp A x < T.n ∧ T.dep (T.tp A x) ≤ T.dep x ∧ (∀ p, T.par (T.tp A x) = some p → ¬A p) ∧ (T.dep (T.tp A x) = T.dep x → T.tp A x = x) := by
  refine T.ind fun x hx ih ha => ?_
  rcases tp_cases (T := T) (A := A) x with ⟨p, h, hp⟩ | h
  · rw [tp_up hx h hp]
    obtain ⟨h1, h2, h3, h4, h5⟩ := ih p h hp
    have := T.dp hx h
    exact ⟨h1, h2, by omega, h4, fun h => by omega⟩
  · rw [tp_stop h]
    exact ⟨ha, hx, Nat.le_refl _, h, fun _ => rfl⟩
def adj (T : Tr) (a b : Nat) : Prop := T.par a = some b ∨ T.par b = some a
theorem adj.symm {a b : Nat} (h : T.adj a b) : T.adj b a := Or.symm h
theorem adj.ne {a b : Nat} (ha : a < T.n) (h : T.adj a b) : a ≠ b := fun e => by
  subst e
  rcases h with h | h <;> have := T.dp ha h <;> omega
/-- x and y are connected within A -/
def cn (T : Tr) (A : Nat → Prop) (x y : Nat) : Prop := x < T.n ∧ y < T.n ∧ A x ∧ A y ∧ T.tp A x = T.tp A y
theorem cn.refl (hx : x < T.n) (ha : A x) : T.cn A x x := ⟨hx, hx, ha, ha, rfl⟩
theorem cn.symm (h : T.cn A x y) : T.cn A y x := ⟨h.2.1, h.1, h.2.2.2.1, h.2.2.1, h.2.2.2.2.symm⟩
theorem cn.trans (h : T.cn A x y) (h' : T.cn A y z) : T.cn A x z := ⟨h.1, h'.2.1, h.2.2.1, h'.2.2.2.1, h.2.2.2.2.trans h'.2.2.2.2⟩
theorem cn.of_adj (hx : x < T.n) (hy : y < T.n) (ha : A x) (hb : A y) (h : T.adj x y) : T.cn A x y := by
  refine ⟨hx, hy, ha, hb, ?_⟩
  rcases h with h | h
  · exact tp_up hx h hb
  · exact (tp_up hy h ha).symm
/-- what holds of x and goes over to neighbours within A holds of all that x is connected to -/
theorem cn.ind {S : Nat → Prop} (h : T.cn A x y) (h0 : S x) (st : ∀ a b, a < T.n → b < T.n → A a → A b → S a → T.adj a b → S b) : S y := by
  have up : ∀ x, x < T.n → A x → S x → S (T.tp A x) := by
    refine T.ind fun x hx ih ha hs => ?_
    rcases tp_cases (T := T) (A := A) x with ⟨p, h, hp⟩ | h
    · rw [tp_up hx h hp]
      exact ih p h hp (st x p hx (T.lt hx h) ha hp hs (.inl h))
    · rw [tp_stop h]; exact hs
  have dn : ∀ y, y < T.n → A y → S (T.tp A y) → S y := by
    refine T.ind fun y hy ih ha hs => ?_
    rcases tp_cases (T := T) (A := A) y with ⟨p, h, hp⟩ | h
    · rw [tp_up hy h hp] at hs
      exact st p y (T.lt hy h) hy hp ha (ih p h hp hs) (.inr h)
    · rw [tp_stop h] at hs; exact hs
  obtain ⟨hx, hy, ha, hb, he⟩ := h
  have := up x hx ha h0
  rw [he] at this
  exact dn y hy hb this
theorem cn.mono (h : T.cn A x y) (hAB : ∀ i, i < T.n → A i → B i) : T.cn B x y :=
  h.ind (S := fun i => T.cn B x i) (cn.refl h.1 (hAB _ h.1 h.2.2.1)) fun a b ha hb _ hB hs hab => hs.trans (cn.of_adj ha hb (hAB _ ha ‹_›) (hAB _ hb hB) hab)

/-- a connected set -/
def conn (T : Tr) (C : Nat → Prop) : Prop := ∀ x y, x < T.n → y < T.n → C x → C y → T.cn C x y
theorem conn_comp : T.conn fun y => T.cn A x y := by
  have key : ∀ y, y < T.n → T.cn A x y → T.tp (fun y => T.cn A x y) y = T.tp A y := by
    refine T.ind fun y hy ih hc => ?_
    rcases tp_cases (T := T) (A := A) y with ⟨p, h, hp⟩ | h
    · have hcp : T.cn A x p := hc.trans (cn.of_adj hy (T.lt hy h) hc.2.2.2.1 hp (.inl h))
      rw [tp_up hy h hp, tp_up hy h hcp, ih p h hcp]
    · rw [tp_stop h, tp_stop fun p hp hh => h p hp hh.2.2.2.1]
  intro y z hy hz h1 h2
  exact ⟨hy, hz, h1, h2, by rw [key y hy h1, key z hz h2, ← h1.2.2.2.2, ← h2.2.2.2.2]⟩
theorem conn_all : T.conn fun i => i < T.n := by
  intro x y hx hy _ _
  refine ⟨hx, hy, hx, hy, ?_⟩
  obtain ⟨h1, h2, _, h3, _⟩ := tp_mem (T := T) (A := fun i => i < T.n) x hx hx
  obtain ⟨k1, k2, _, k3, _⟩ := tp_mem (T := T) (A := fun i => i < T.n) y hy hy
  refine T.one h1 k1 ?_ ?_
  · cases h : T.par (T.tp (fun i => i < T.n) x) with
    | none => rfl
    | some p => exact absurd (T.lt h1 h) (h3 p h)
  · cases h : T.par (T.tp (fun i => i < T.n) y) with
    | none => rfl
    | some p => exact absurd (T.lt k1 h) (k3 p h)
theorem conn.inter (hC : T.conn C) (hD : T.conn D) : T.conn fun i => C i ∧ D i := by
  intro x y hx hy h1 h2
  refine ⟨hx, hy, h1, h2, ?_⟩
  obtain ⟨a1, a2, _, a3, _⟩ := tp_mem (T := T) (A := fun i => C i ∧ D i) x hx h1
  obtain ⟨b1, b2, _, b3, _⟩ := tp_mem (T := T) (A := fun i => C i ∧ D i) y hy h2
  generalize T.tp (fun i => C i ∧ D i) x = a at *
  generalize T.tp (fun i => C i ∧ D i) y = b at *
  have stop : ∀ a, (∀ p, T.par a = some p → ¬(C p ∧ D p)) → T.tp C a = a ∨ T.tp D a = a := by
    intro a h
    rcases tp_cases (T := T) (A := C) a with ⟨p, hp, hc⟩ | h'
    · refine .inr (tp_stop fun q hq hd => ?_)
      rw [hp] at hq; cases hq
      exact h p hp ⟨hc, hd⟩
    · exact .inl (tp_stop h')
  have two : ∀ {C D : Nat → Prop}, T.conn C → T.conn D → ∀ a b, a < T.n → b < T.n → C a → C b → D a → D b → T.tp C a = a → T.tp D b = b → a = b := by
    intro C D hC hD a b ha hb c1 c2 d1 d2 e1 e2
    have h1 := (hC a b ha hb c1 c2).2.2.2.2
    have h2 := (hD a b ha hb d1 d2).2.2.2.2
    rw [e1] at h1
    rw [e2] at h2
    have m1 := (tp_mem b hb c2).2.2
    have m2 := (tp_mem a ha d1).2.2
    rw [← h1] at m1
    rw [h2] at m2
    exact m1.2.2 (by omega)
  rcases stop a a3 with e1 | e1 <;> rcases stop b b3 with e2 | e2
  · exact two hC hC a b a2 b2 a1.1 b1.1 a1.1 b1.1 e1 e2
  · exact two hC hD a b a2 b2 a1.1 b1.1 a1.2 b1.2 e1 e2
  · exact two hD hC a b a2 b2 a1.2 b1.2 a1.1 b1.1 e1 e2
  · exact two hD hD a b a2 b2 a1.2 b1.2 a1.2 b1.2 e1 e2
/-- a bag outside a connected set has at most one neighbour in it -/
theorem conn.nb (hC : T.conn C) {b : Nat} (hb : b < T.n) (hbC : ¬C b) (hx : x < T.n) (hy : y < T.n) (cx : C x) (cy : C y) (ax : T.adj x b) (ay : T.adj y b) : x = y := by
  have key : ∀ x y, x < T.n → y < T.n → C x → C y → T.par x = some b → T.par b = some y → False := by
    intro x y hx hy cx cy h1 h2
    have e1 : T.tp C x = x := tp_stop fun p hp hc => hbC (by rw [h1] at hp; cases hp; exact hc)
    have e2 := (hC x y hx hy cx cy).2.2.2.2
    have e3 := (tp_mem y hy cy).2.2.1
    rw [← e2, e1] at e3
    have := T.dp hx h1
    have := T.dp hb h2
    omega
  rcases ax with ax | ax <;> rcases ay with ay | ay
  · have e1 : T.tp C x = x := tp_stop fun p hp hc => hbC (by rw [ax] at hp; cases hp; exact hc)
    have e2 : T.tp C y = y := tp_stop fun p hp hc => hbC (by rw [ay] at hp; cases hp; exact hc)
    rw [← e1, ← e2]
    exact (hC x y hx hy cx cy).2.2.2.2
  · exact (key x y hx hy cx cy ax ay).elim
  · exact (key y x hy hx cy cx ay ax).elim
  · rw [ax] at ay; cases ay; rfl
/-- A without z -/
abbrev wo (A : Nat → Prop) (z : Nat) : Nat → Prop := fun i => A i ∧ i ≠ z
/-- the first bag on the way from z to x -/
theorem hop (hC : T.conn C) (hz : z < T.n) (hx : x < T.n) (cz : C z) (cx : C x) (hne : x ≠ z) : ∃ k, T.adj k z ∧ T.cn (wo C z) k x := by
  have := (hC z x hz hx cz cx).ind (S := fun y => y = z ∨ ∃ k, T.adj k z ∧ T.cn (wo C z) k y) (.inl rfl) fun a b ha hb ca cb hs hab => by
    by_cases hbz : b = z
    · exact .inl hbz
    · right
      rcases hs with rfl | ⟨k, h1, h2⟩
      · exact ⟨b, hab.symm, cn.refl hb ⟨cb, hbz⟩⟩
      · exact ⟨k, h1, h2.trans (cn.of_adj ha hb h2.2.2.2.1 ⟨cb, hbz⟩ hab)⟩
  exact this.resolve_left hne
theorem hop_one {k' : Nat} (hz : z < T.n) (h1 : T.adj k z) (h2 : T.adj k' z) (h : T.cn (wo A z) k k') : k = k' :=
  (conn_comp (T := T) (A := wo A z) (x := k)).nb hz (fun hh => hh.2.2.2.1.2 rfl) h.1 h.2.1 (cn.refl h.1 h.2.2.1) h h1 h2

/-- z lies between x and y -/
def P (T : Tr) (z x y : Nat) : Prop := ¬T.cn (wo (fun i => i < T.n) z) x y
theorem P.left : T.P x x y := fun h => h.2.2.1.2 rfl
theorem P.right : T.P y x y := fun h => h.2.2.2.1.2 rfl
theorem P.symm (h : T.P z x y) : T.P z y x := fun h' => h h'.symm
theorem P.lt (hx : x < T.n) (hy : y < T.n) (h : T.P z x y) : z < T.n := by
  apply Classical.byContradiction
  intro hz
  refine h ((conn_all x y hx hy hx hy).mono fun i hi _ => ⟨hi, fun e => hz (e ▸ hi)⟩)
/-- within a connected set that holds x and y -/
theorem cn_wo (hC : T.conn C) (hx : x < T.n) (hy : y < T.n) (cx : C x) (cy : C y) : T.cn (wo C z) x y ↔ ¬T.P z x y := by
  unfold P
  rw [Classical.not_not]
  constructor
  · exact fun h => h.mono fun i hi h => ⟨hi, h.2⟩
  · intro h
    have hD := conn_comp (T := T) (A := wo (fun i => i < T.n) z) (x := x)
    exact ((hC.inter hD) x y hx hy ⟨cx, cn.refl hx h.2.2.1⟩ ⟨cy, h⟩).mono fun i _ hi => ⟨hi.1, hi.2.2.2.2.1.2⟩
theorem P.mem (hC : T.conn C) (hx : x < T.n) (hy : y < T.n) (cx : C x) (cy : C y) (h : T.P z x y) : C z := by
  apply Classical.byContradiction
  intro hz
  exact (cn_wo hC hx hy cx cy).1 ((hC x y hx hy cx cy).mono fun i _ hi => ⟨hi, fun e => hz (by rw [← e]; exact hi)⟩) h
theorem P.split (z : Nat) (h : T.P u x y) : T.P u x z ∨ T.P u z y := by
  by_cases h1 : T.P u x z
  · exact .inl h1
  · refine .inr fun h2 => h ((Classical.not_not.1 h1).trans h2)
theorem P.sub (h : T.P z x y) (h' : T.P u x z) : T.P u x y := fun hc =>
  h ((conn_comp (T := T) (A := wo (fun i => i < T.n) u) (x := x) x y hc.1 hc.2.1 (cn.refl hc.1 hc.2.2.1) hc).mono fun i hi hh => ⟨hi, fun e => h' (e ▸ hh)⟩)
theorem P.sub' (h : T.P z x y) (h' : T.P u z y) : T.P u x y := (h.symm.sub h'.symm).symm
theorem around (hz : z < T.n) (hx : x < T.n) (hne : u ≠ z) (h : T.P z u x) (hu : u < T.n) : ¬T.P u x z := by
  intro hh
  by_cases hxz : x = z
  · subst hxz
    exact hh (cn.refl hx ⟨hx, Ne.symm hne⟩)
  · obtain ⟨k, k1, k2⟩ := hop (conn_all (T := T)) hz hx hz hx hxz
    have h1 : T.cn (wo (fun i => i < T.n) u) x k := by
      refine (conn_comp (T := T) (A := wo (fun i => i < T.n) z) (x := x) x k hx k2.1 (cn.refl hx k2.2.2.2.1) k2.symm).mono fun i hi hc => ⟨hi, fun e => ?_⟩
      subst e
      exact h hc.symm
    exact hh (h1.trans (cn.of_adj k2.1 hz h1.2.2.2.1 ⟨hz, Ne.symm hne⟩ k1))
theorem P.meet (hx : x < T.n) (hy : y < T.n) (h : T.P z x y) (h1 : T.P u x z) (h2 : T.P u z y) : u = z := by
  apply Classical.byContradiction
  intro hne
  have hz := h.lt hx hy
  have hu := h1.lt hx hz
  rcases h.split u with h3 | h3
  · exact around hz hx hne h3.symm hu h1
  · exact around hz hy hne h3 hu h2.symm
/-- the first bag on the way is on the way -/
theorem hop_P (hm : m < T.n) (hk : T.adj k m) (h : T.cn (wo (fun i => i < T.n) m) k x) : T.P k m x := by
  intro hc
  have hxm : x ≠ m := h.2.2.2.1.2
  obtain ⟨k', h1, h2⟩ := hop (conn_comp (T := T) (A := wo (fun i => i < T.n) k) (x := m)) hm h.2.1 (cn.refl hm hc.2.2.1) hc hxm
  have h3 : T.cn (wo (fun i => i < T.n) m) k' x := h2.mono fun i hi hh => ⟨hi, hh.2⟩
  have := hop_one hm hk h1 (h.trans h3.symm)
  subst this
  exact h2.2.2.1.1.2.2.2.1.2 rfl

/-- how many lie between -/
noncomputable def dist (T : Tr) (x y : Nat) : Nat := (List.range T.n).countP fun z => decide (T.P z x y)
theorem dist_lt (hz : z < T.n) (h : ∀ u, u < T.n → T.P u x y → T.P u c m) (h1 : T.P z c m) (h2 : ¬T.P z x y) : T.dist x y < T.dist c m := by
  unfold dist
  have hle : ∀ l : List Nat, (∀ u ∈ l, u < T.n) → l.countP (fun z => decide (T.P z x y)) + (if z ∈ l then 1 else 0) ≤ l.countP fun z => decide (T.P z c m) := by
    intro l
    induction l with
    | nil => intro _; simp
    | cons a l ih =>
      intro hl
      have := ih fun u hu => hl u (by simp [hu])
      have ha := hl a (by simp)
      rw [List.countP_cons, List.countP_cons]
      by_cases haz : z = a
      · subst haz
        simp only [h1, h2, decide_true, decide_false, List.mem_cons, true_or, if_true, Bool.false_eq_true, if_false]
        omega
      · have e1 : (z ∈ a :: l) ↔ z ∈ l := by simp [haz]
        simp only [e1]
        by_cases hp : T.P a x y
        · have := h a ha hp
          simp only [hp, this, decide_true, if_true]
          omega
        · by_cases hq : T.P a c m
          · simp only [hp, hq, decide_true, decide_false, if_true, Bool.false_eq_true, if_false]
            omega
          · simp only [hp, hq, decide_false, Bool.false_eq_true, if_false]
            omega
  have := hle (List.range T.n) (by simp)
  simp only [List.mem_range, hz, if_true] at this
  omega
/-- three bags have one that lies between any two of them -/
theorem median (hx : x < T.n) (hy : y < T.n) (hc : c < T.n) : ∃ m, T.P m x y ∧ T.P m x c ∧ T.P m y c := by
  have : ∀ d m, T.P m x y → T.dist m c = d → ∃ m, T.P m x y ∧ T.P m x c ∧ T.P m y c := by
    intro d
    induction d using Nat.strongRecOn with
    | _ d ih =>
      intro m hm hd
      have hml := hm.lt hx hy
      have step : ∀ x y, x < T.n → y < T.n → T.P m x y → ¬T.P m x c → ∃ k, T.P k x y ∧ T.dist k c < T.dist m c := by
        intro x y hx hy hm h
        have h' := Classical.not_not.1 h
        obtain ⟨k, k1, k2⟩ := hop (conn_all (T := T)) hml hc hml hc h'.2.2.2.1.2
        have k3 : T.cn (wo (fun i => i < T.n) m) k x := k2.trans h'.symm
        have p1 := hop_P hml k1 k3
        have p2 := hop_P hml k1 k2
        exact ⟨k, hm.sub p1.symm, dist_lt hml (fun u _ hu => p2.sub' hu) P.left fun h => h k2⟩
      by_cases h1 : T.P m x c
      · by_cases h2 : T.P m y c
        · exact ⟨m, hm, h1, h2⟩
        · obtain ⟨k, k1, k2⟩ := step y x hy hx hm.symm h2
          exact ih _ (by omega) k k1.symm rfl
      · obtain ⟨k, k1, k2⟩ := step x y hx hy hm h1
        exact ih _ (by omega) k k1 rfl
  exact this _ x P.left rfl
/-- the bag of the path between x and y that is nearest to c -/
theorem near (hx : x < T.n) (hy : y < T.n) (hc : c < T.n) (hm : T.P m x y) (m1 : T.P m x c) (m2 : T.P m y c) {n : Nat} (hn : T.P n x y) : T.P m n c := by
  have hml := hm.lt hx hy
  rcases hn.split m with h | h
  · -- n between x and m
    have h3 : T.P n x c := m1.sub h
    rcases m1.split n with h4 | h4
    · have : m = n := by
        have := P.meet hx hml h h4 (P.right (T := T) (x := n) (y := m))
        exact this
      subst this
      exact P.left
    · exact h4
  · have h3 : T.P n y c := m2.sub h.symm
    rcases m2.split n with h4 | h4
    · have : m = n := P.meet hy hml h.symm h4 (P.right (T := T) (x := n) (y := m))
      subst this
      exact P.left
    · exact h4
end Tr
end Go.Mono

namespace Go.Mono

abbrev bits (S : BS) : Nat → Prop := fun i => S.getLsbD i = true
theorem bit_lt {S : BS} {i : Nat} (h : S.getLsbD i = true) : i < 1024 := Classical.byContradiction fun hn => by
  rw [BitVec.getLsbD_of_ge _ _ (by omega)] at h; cases h
theorem bit_diff (S T : BS) (i : Nat) : (S &&& ~~~T).getLsbD i = true ↔ S.getLsbD i = true ∧ ¬T.getLsbD i = true := by
  rw [BitVec.getLsbD_and, BitVec.getLsbD_not, Bool.and_eq_true, Bool.and_eq_true]
  constructor
  · rintro ⟨h1, _, h2⟩; exact ⟨h1, by simpa using h2⟩
  · rintro ⟨h1, h2⟩; exact ⟨h1, by simpa using bit_lt h1, by simpa using h2⟩
theorem bit_and (S T : BS) (i : Nat) : (S &&& T).getLsbD i = true ↔ S.getLsbD i = true ∧ T.getLsbD i = true := by
  rw [BitVec.getLsbD_and, Bool.and_eq_true]
theorem bit_or (S T : BS) (i : Nat) : (S ||| T).getLsbD i = true ↔ S.getLsbD i = true ∨ T.getLsbD i = true := by
  rw [BitVec.getLsbD_or, Bool.or_eq_true]
theorem bit_zero (i : Nat) : ¬(0 : BS).getLsbD i = true := by simp
theorem bit_ins (S : BS) {p i : Nat} (hp : p < 1024) : (ins S (p : Int)).getLsbD i = true ↔ S.getLsbD i = true ∨ i = p := by
  by_cases hi : i < 1024
  · rw [ins_bit _ _ _ hi, Bool.or_eq_true, decide_eq_true_eq]
    constructor
    · rintro (h | h)
      · exact .inl h
      · exact .inr (by omega)
    · rintro (h | h)
      · exact .inl h
      · exact .inr (by omega)
  · constructor
    · intro h; exact absurd (bit_lt h) hi
    · rintro (h | h)
      · exact absurd (bit_lt h) hi
      · omega
theorem bit_del (S : BS) {p i : Nat} (hp : p < 1024) : (del S (p : Int)).getLsbD i = true ↔ S.getLsbD i = true ∧ i ≠ p := by
  unfold del
  rw [if_pos (fitsB_iff.2 (by omega)), bit_diff, Int.toNat_natCast]
  constructor
  · rintro ⟨h1, h2⟩
    refine ⟨h1, fun e => h2 ?_⟩
    rw [sgl_bit _ _ hp, e]; simp
  · rintro ⟨h1, h2⟩
    refine ⟨h1, fun h => h2 ?_⟩
    rw [sgl_bit _ _ hp] at h
    exact of_decide_eq_true h
theorem set_ext' {S T : BS} (h : ∀ k, S.getLsbD k = true ↔ T.getLsbD k = true) : S = T := set_ext fun k _ => h k
theorem has_bit (S : BS) (p : Nat) : has S (p : Int) = true ↔ S.getLsbD p = true := by
  rw [has, Bool.and_eq_true, fitsB_iff, Int.toNat_natCast]
  exact ⟨fun h => h.2, fun h => ⟨by have := bit_lt h; omega, h⟩⟩

/-! ### how many -/
theorem countP_le' {α : Type} {p q : α → Bool} : ∀ {l : List α}, (∀ x ∈ l, p x = true → q x = true) → l.countP p ≤ l.countP q
  | [], _ => Nat.le_refl _
  | x :: l, h => by
    have ih := countP_le' (l := l) fun y hy => h y (by simp [hy])
    rw [List.countP_cons, List.countP_cons]
    by_cases hx : p x = true
    · rw [if_pos hx, if_pos (h x (by simp) hx)]; omega
    · rw [if_neg hx]; split <;> omega
theorem countP_lt' {α : Type} {p q : α → Bool} {z : α} : ∀ {l : List α}, (∀ x ∈ l, p x = true → q x = true) → z ∈ l → q z = true → ¬p z = true → l.countP p < l.countP q
  | [], _, hz, _, _ => by cases hz
  | x :: l, h, hz, h1, h2 => by
    have ih := countP_le' (p := p) (q := q) (l := l) fun y hy => h y (by simp [hy])
    rw [List.countP_cons, List.countP_cons]
    rcases List.mem_cons.1 hz with rfl | hz
    · rw [if_neg h2, if_pos h1]; omega
    · have ih := countP_lt' (l := l) (fun y hy => h y (by simp [hy])) hz h1 h2
      by_cases hx : p x = true
      · rw [if_pos hx, if_pos (h x (by simp) hx)]; omega
      · rw [if_neg hx]; split <;> omega
theorem countP_add' {α : Type} {p q r : α → Bool} : ∀ {l : List α}, (∀ x ∈ l, r x = true ↔ p x = true ∨ q x = true) → (∀ x ∈ l, ¬(p x = true ∧ q x = true)) → l.countP r = l.countP p + l.countP q
  | [], _, _ => rfl
  | x :: l, h, hd => by
    have ih := countP_add' (l := l) (p := p) (q := q) (r := r) (fun y hy => h y (by simp [hy])) fun y hy => hd y (by simp [hy])
    rw [List.countP_cons, List.countP_cons, List.countP_cons, ih]
    have h1 := h x (by simp)
    have h2 := hd x (by simp)
    by_cases hp : p x = true
    · have hq : ¬q x = true := fun hq => h2 ⟨hp, hq⟩
      rw [if_pos hp, if_neg hq, if_pos (h1.2 (.inl hp))]; omega
    · by_cases hq : q x = true
      · rw [if_neg hp, if_pos hq, if_pos (h1.2 (.inr hq))]; omega
      · rw [if_neg hp, if_neg hq, if_neg (fun hr => (h1.1 hr).elim hp hq)]; omega
theorem card_mono {S T : BS} (h : ∀ i, S.getLsbD i = true → T.getLsbD i = true) : card S ≤ card T := countP_le' fun i _ hi => h i hi
theorem card_lt {S T : BS} {z : Nat} (h : ∀ i, S.getLsbD i = true → T.getLsbD i = true) (h1 : T.getLsbD z = true) (h2 : ¬S.getLsbD z = true) : card S < card T :=
  countP_lt' (fun i _ hi => h i hi) (List.mem_range.2 (bit_lt h1)) h1 h2
theorem card_add {S T U : BS} (h : ∀ i, U.getLsbD i = true ↔ S.getLsbD i = true ∨ T.getLsbD i = true) (hd : ∀ i, ¬(S.getLsbD i = true ∧ T.getLsbD i = true)) : card U = card S + card T :=
  countP_add' (fun i _ => h i) fun i _ => hd i
theorem card_elems (S : BS) : (elems S).length = card S := by rw [elems, card, List.countP_eq_length_filter]
theorem card_zero : card 0 = 0 := by rw [← card_elems, elems_zero]; rfl
theorem countP_lt_range (n : Nat) : ∀ m, (List.range m).countP (fun i => decide (i < n)) ≤ n
  | 0 => by simp
  | m + 1 => by
    rw [List.range_succ, List.countP_append]
    have ih := countP_lt_range n m
    by_cases h : m < n
    · have := List.countP_le_length (p := fun i => decide (i < n)) (l := List.range m)
      rw [List.length_range] at this
      simp [h]; omega
    · simp [h]; omega
theorem card_le_n {S : BS} {n : Nat} (h : ∀ i, S.getLsbD i = true → i < n) : card S ≤ n :=
  Nat.le_trans (countP_le' fun i _ hi => decide_eq_true (h i hi)) (countP_lt_range n 1024)
theorem card_one {S : BS} {p : Nat} (h : ∀ i, S.getLsbD i = true ↔ i = p) : card S = 1 := by
  have hp : p < 1024 := bit_lt ((h p).2 rfl)
  have : ∀ m, (List.range m).countP (fun i => S.getLsbD i) = if p < m then 1 else 0 := by
    intro m
    induction m with
    | zero => simp
    | succ m ih =>
      rw [List.range_succ, List.countP_append, ih]
      by_cases hm : m = p
      · subst hm
        simp [(h m).2 rfl]
      · have : ¬S.getLsbD m = true := fun hh => hm ((h m).1 hh)
        rw [List.countP_singleton, if_neg this]
        split <;> split <;> omega
  rw [card, this, if_pos hp]
theorem card_pos {S : BS} {p : Nat} (h : S.getLsbD p = true) : 0 < card S := by
  rw [← card_elems]
  exact List.length_pos_of_mem (mem_elems.2 ⟨bit_lt h, h⟩)
theorem minOf_mem {S : BS} {k : Nat} (h : minOf S = some k) : S.getLsbD k = true := (minOf_some.1 h).2.1
theorem minOf_is {S : BS} {p : Nat} (h : S.getLsbD p = true) : ∃ k, minOf S = some k ∧ k ≤ p := by
  cases hm : minOf S with
  | none => rw [minOf_none.1 hm] at h; exact absurd h (bit_zero p)
  | some k =>
    refine ⟨k, rfl, Classical.byContradiction fun hn => ?_⟩
    have := (minOf_some.1 hm).2.2 p (by omega)
    rw [this] at h; cases h

/-! ### forests that stand for trees -/
structure Fo (fs : List BS) (T : Tr) : Prop where
  len : fs.length = T.n
  le : T.n ≤ 1000
  adj : ∀ {j i}, j < T.n → ((sg fs j).getLsbD i = true ↔ i < T.n ∧ T.adj j i)
theorem Fo.lt {fs : List BS} {T : Tr} (F : Fo fs T) {j : Nat} (hj : j < fs.length) : ∀ i, (sg fs j).getLsbD i = true → i < fs.length := fun i h => by
  rw [F.len] at hj ⊢
  exact ((F.adj hj).1 h).1

theorem compF_ok {fs : List BS} {T : Tr} (F : Fo fs T) {inn : BS} {p : Nat} (hin : ∀ i, inn.getLsbD i = true → i < T.n) : ∀ (f : Nat) (S : BS) (R : List Int), S.getLsbD p = true → (∀ i, S.getLsbD i = true → T.cn (bits inn) p i) →
    (∀ r ∈ R, ∃ q : Nat, r = (q : Int) ∧ S.getLsbD q = true) → (∀ i, S.getLsbD i = true → (i : Int) ∉ R → ∀ k, T.adj i k → inn.getLsbD k = true → S.getLsbD k = true) → R.length + T.n ≤ f + card S →
    ∃ Z, compF fs inn f S R = some Z ∧ ∀ i, Z.getLsbD i = true ↔ T.cn (bits inn) p i := by
  intro f
  induction f with
  | zero =>
    intro S R h1 h2 h3 h4 h5
    have hc := card_le_n fun i hi => (h2 i hi).2.1
    have : R = [] := List.eq_nil_of_length_eq_zero (by omega)
    subst this
    refine ⟨S, rfl, fun i => ⟨h2 i, fun h => h.ind (S := bits S) h1 fun a b ha hb pa pb hs hab => h4 a hs (by simp) b hab pb⟩⟩
  | succ f ih =>
    intro S R h1 h2 h3 h4 h5
    cases R with
    | nil => exact ⟨S, rfl, fun i => ⟨h2 i, fun h => h.ind (S := bits S) h1 fun a b ha hb pa pb hs hab => h4 a hs (by simp) b hab pb⟩⟩
    | cons r R =>
      obtain ⟨q, rfl, hq⟩ := h3 r (by simp)
      have hqn := (h2 q hq).2.1
      have hX : ∀ i, (((sg fs q &&& inn) &&& ~~~S)).getLsbD i = true ↔ (i < T.n ∧ T.adj q i) ∧ inn.getLsbD i = true ∧ ¬S.getLsbD i = true := fun i => by
        rw [bit_diff, bit_and, F.adj hqn, and_assoc]
      rw [compF, Int.toNat_natCast]
      generalize (sg fs q &&& inn) &&& ~~~S = X at hX
      have hU : ∀ i, (S ||| X).getLsbD i = true ↔ S.getLsbD i = true ∨ X.getLsbD i = true := bit_or S X
      have hel : ∀ i : Nat, (i : Int) ∈ elI X ↔ X.getLsbD i = true := fun i => by
        by_cases hi : i < 1024
        · exact mem_elI hi
        · constructor
          · intro h
            rw [elI, List.mem_map] at h
            obtain ⟨j, hj, he⟩ := h
            have := (mem_elems.1 hj).1
            omega
          · intro h; exact absurd (bit_lt h) hi
      refine ih (S ||| X) (R ++ elI X) ((hU p).2 (.inl h1)) (fun i hi => ?_) (fun x hx => ?_) (fun i hi hn k hk hik => ?_) ?_
      · rcases (hU i).1 hi with h | h
        · exact h2 i h
        · have := (hX i).1 h
          exact (h2 q hq).trans (Tr.cn.of_adj hqn this.1.1 (h2 q hq).2.2.2.1 this.2.1 this.1.2)
      · rcases List.mem_append.1 hx with h | h
        · obtain ⟨q', e, h'⟩ := h3 x (by simp [h])
          exact ⟨q', e, (hU q').2 (.inl h')⟩
        · rw [elI, List.mem_map] at h
          obtain ⟨j, hj, rfl⟩ := h
          exact ⟨j, rfl, (hU j).2 (.inr (mem_elems.1 hj).2)⟩
      · have hiX : ¬X.getLsbD i = true := fun h => hn (List.mem_append.2 (.inr ((hel i).2 h)))
        have hiS := ((hU i).1 hi).resolve_right hiX
        by_cases hiq : i = q
        · subst hiq
          by_cases hkS : S.getLsbD k = true
          · exact (hU k).2 (.inl hkS)
          · exact (hU k).2 (.inr ((hX k).2 ⟨⟨hin k hik, hk⟩, hik, hkS⟩))
        · refine (hU k).2 (.inl (h4 i hiS (fun h => ?_) k hk hik))
          rcases List.mem_cons.1 h with h | h
          · omega
          · exact hn (List.mem_append.2 (.inl h))
      · have hc := card_add hU (fun i h => ((hX i).1 h.2).2.2 h.1)
        have hl : (elI X).length = card X := by rw [elI, List.length_map, card_elems]
        rw [List.length_append, hl, hc]
        simp only [List.length_cons] at h5
        omega
/-- the component of p in inn -/
def compB (fs : List BS) (inn : BS) (p : Nat) : BS := (compF fs inn (1 + fs.length) (ins 0 (p : Int)) [(p : Int)]).getD 0
theorem comp_some {fs : List BS} {T : Tr} (F : Fo fs T) {inn : BS} {p : Nat} (hin : ∀ i, inn.getLsbD i = true → i < T.n) (hp : inn.getLsbD p = true) :
    compF fs inn (1 + fs.length) (ins 0 (p : Int)) [(p : Int)] = some (compB fs inn p) ∧ ∀ i, (compB fs inn p).getLsbD i = true ↔ T.cn (bits inn) p i := by
  have hpn := hin p hp
  have hle := F.le
  have hb : ∀ i, (ins 0 (p : Int)).getLsbD i = true ↔ i = p := fun i => by
    rw [bit_ins 0 (by omega)]
    exact ⟨fun h => h.resolve_left (bit_zero i), .inr⟩
  obtain ⟨Z, h1, h2⟩ := compF_ok F hin (1 + fs.length) (ins 0 (p : Int)) [(p : Int)] ((hb p).2 rfl) (fun i hi => by rw [(hb i).1 hi]; exact Tr.cn.refl hpn hp)
    (fun r hr => ⟨p, by simpa using hr, (hb p).2 rfl⟩) (fun i hi hn => by rw [(hb i).1 hi] at hn; simp at hn) (by have := F.len; simp; omega)
  have : compB fs inn p = Z := by rw [compB, h1]; rfl
  rw [this]
  exact ⟨h1, h2⟩
theorem comp_sub {fs : List BS} {T : Tr} (F : Fo fs T) {inn : BS} {p : Nat} (hin : ∀ i, inn.getLsbD i = true → i < T.n) (hp : inn.getLsbD p = true) : ∀ i, (compB fs inn p).getLsbD i = true → inn.getLsbD i = true :=
  fun i hi => (((comp_some F hin hp).2 i).1 hi).2.2.2.1
theorem comp_self {fs : List BS} {T : Tr} (F : Fo fs T) {inn : BS} {p : Nat} (hin : ∀ i, inn.getLsbD i = true → i < T.n) (hp : inn.getLsbD p = true) : (compB fs inn p).getLsbD p = true :=
  ((comp_some F hin hp).2 p).2 (Tr.cn.refl (hin p hp) hp)
/-- a set that is connected is the component of each of its bags -/
theorem comp_conn {fs : List BS} {T : Tr} (F : Fo fs T) {inn : BS} {p : Nat} (hin : ∀ i, inn.getLsbD i = true → i < T.n) (hp : inn.getLsbD p = true) : compB fs inn p = inn ↔ T.conn (bits inn) := by
  constructor
  · intro h
    have := Tr.conn_comp (T := T) (A := bits inn) (x := p)
    have e : (fun y => T.cn (bits inn) p y) = bits inn := by
      funext y
      apply propext
      rw [← (comp_some F hin hp).2 y, h]
    rwa [e] at this
  · intro h
    refine set_ext' fun k => ?_
    rw [(comp_some F hin hp).2 k]
    exact ⟨fun h' => h'.2.2.2.1, fun h' => h p k (hin p hp) (hin k h') hp h'⟩

/-! ### parts -/
def oEl {α : Type} (o : Option Nat) (a : α) (g : Nat → α) : α := match o with
  | none => a
  | some k => g k
def splitF (fs : List BS) : Nat → BS → Option (List BS)
  | 0, left => oEl (minOf left) (some []) fun _ => none
  | f + 1, left => oEl (minOf left) (some []) fun k => (splitF fs f (left &&& ~~~compB fs left k)).map (compB fs left k :: ·)
theorem splitF_nil {fs : List BS} {left : BS} (h : minOf left = none) (f : Nat) : splitF fs f left = some [] := by
  cases f with
  | zero => rw [splitF, h]; rfl
  | succ f => rw [splitF, h]; rfl
theorem splitF_cons {fs : List BS} {left : BS} {k : Nat} (h : minOf left = some k) (f : Nat) : splitF fs (f + 1) left = (splitF fs f (left &&& ~~~compB fs left k)).map (compB fs left k :: ·) := by
  rw [splitF, h, oEl]
theorem splitF_zero {fs : List BS} {left : BS} {k : Nat} (h : minOf left = some k) : splitF fs 0 left = none := by
  rw [splitF, h, oEl]
/-- what is left when a component is taken away is connected as before -/
theorem cn_rest {fs : List BS} {T : Tr} (F : Fo fs T) {left : BS} {k x y : Nat} (hin : ∀ i, left.getLsbD i = true → i < T.n) (hk : left.getLsbD k = true) (hx : (left &&& ~~~compB fs left k).getLsbD x = true) :
    T.cn (bits (left &&& ~~~compB fs left k)) x y ↔ T.cn (bits left) x y := by
  have hC := (comp_some F hin hk).2
  constructor
  · intro h; exact h.mono fun i _ hi => ((bit_diff _ _ i).1 hi).1
  · intro h
    refine h.ind (S := fun i => T.cn (bits (left &&& ~~~compB fs left k)) x i) (Tr.cn.refl h.1 hx) fun a b ha hb pa pb hs hab => ?_
    have ha' := (bit_diff _ _ a).1 hs.2.2.2.1
    have hb' : (left &&& ~~~compB fs left k).getLsbD b = true := (bit_diff _ _ b).2 ⟨pb, fun hh => ha'.2 ((hC a).2 (((hC b).1 hh).trans (Tr.cn.of_adj hb ha pb pa hab.symm)))⟩
    exact hs.trans (Tr.cn.of_adj ha hb hs.2.2.2.1 hb' hab)
/-- THE PARTS: connected, apart, all there -/
theorem splitF_ok {fs : List BS} {T : Tr} (F : Fo fs T) : ∀ (f : Nat) (left : BS), (∀ i, left.getLsbD i = true → i < T.n) → card left ≤ f →
    ∃ l, splitF fs f left = some l ∧ l.length ≤ card left ∧ (∀ C ∈ l, ∃ k, left.getLsbD k = true ∧ C = compB fs left k) ∧ ∀ k, left.getLsbD k = true → compB fs left k ∈ l := by
  intro f
  induction f with
  | zero =>
    intro left hin hc
    cases hm : minOf left with
    | none =>
      refine ⟨[], splitF_nil hm _, by simp, fun C hC => by (cases hC), fun k hk => ?_⟩
      rw [minOf_none.1 hm] at hk; exact absurd hk (bit_zero k)
    | some k => have := card_pos (minOf_mem hm); omega
  | succ f ih =>
    intro left hin hc
    cases hm : minOf left with
    | none =>
      refine ⟨[], splitF_nil hm _, by simp, fun C hC => by (cases hC), fun k hk => ?_⟩
      rw [minOf_none.1 hm] at hk; exact absurd hk (bit_zero k)
    | some k =>
      have hk := minOf_mem hm
      have hlt : card (left &&& ~~~compB fs left k) < card left := card_lt (fun i hi => ((bit_diff _ _ i).1 hi).1) hk fun h => ((bit_diff _ _ k).1 h).2 (comp_self F hin hk)
      have hin' : ∀ i, (left &&& ~~~compB fs left k).getLsbD i = true → i < T.n := fun i hi => hin i ((bit_diff _ _ i).1 hi).1
      have same : ∀ x, (left &&& ~~~compB fs left k).getLsbD x = true → compB fs (left &&& ~~~compB fs left k) x = compB fs left x := fun x hx => by
        have hxl := ((bit_diff _ _ x).1 hx).1
        refine set_ext' fun i => ?_
        rw [(comp_some F hin' hx).2 i, (comp_some F hin hxl).2 i]
        exact cn_rest F hin hk hx
      obtain ⟨l, h1, h2, h3, h4⟩ := ih _ hin' (by omega)
      refine ⟨compB fs left k :: l, by rw [splitF_cons hm, h1]; rfl, by simp; omega, fun C hC => ?_, fun x hx => ?_⟩
      · rcases List.mem_cons.1 hC with rfl | hC
        · exact ⟨k, hk, rfl⟩
        · obtain ⟨x, hx, rfl⟩ := h3 C hC
          exact ⟨x, ((bit_diff _ _ x).1 hx).1, same x hx⟩
      · by_cases hxC : (compB fs left k).getLsbD x = true
        · have : compB fs left x = compB fs left k := by
            have hkx := ((comp_some F hin hk).2 x).1 hxC
            refine set_ext' fun i => ?_
            rw [(comp_some F hin hk).2 i, (comp_some F hin hx).2 i]
            exact ⟨fun h => hkx.trans h, fun h => hkx.symm.trans h⟩
          rw [this]; simp
        · have hx' := (bit_diff _ _ x).2 ⟨hx, hxC⟩
          rw [← same x hx']
          exact List.mem_cons_of_mem _ (h4 x hx')
end Go.Mono

namespace Go.Mono
open Go Go.Proofs Go.RowKit

/-- blocks and what they hold -/
def BlkL (w : World) : List (Nat × Array Value × TypeId) → Prop
  | [] => True
  | x :: K => Blk w x.1 x.2.1 x.2.2 ∧ BlkL w K
def LtL (B : Nat) : List (Nat × Array Value × TypeId) → Prop
  | [] => True
  | x :: K => x.1 < B ∧ LtL B K
theorem BlkL.kp {B : Nat} {w w' : World} (k : Kp B w w') : ∀ {K : List (Nat × Array Value × TypeId)}, BlkL w K → LtL B K → BlkL w' K
  | [], _, _ => trivial
  | x :: K, h, l => ⟨h.1.kp k (fun hh => by have := hh.1; have := l.1; omega), BlkL.kp k h.2 l.2⟩
theorem BlkL.lt {w : World} : ∀ {K : List (Nat × Array Value × TypeId)}, BlkL w K → LtL w.heap.size K
  | [], _ => trivial
  | x :: K, h => ⟨h.1.lt, BlkL.lt h.2⟩
/-- what holds between the rounds of a loop over a set -/
structure RJ (W : World) (fs : List BS) (fv : Value) (K : List (Nat × Array Value × TypeId)) (D : List Nat) (w : World) : Prop where
  e : Ext W w
  t : Tab w
  hv : (Dv (slE setE) (GB W Go.Mono.G0) fs).p fv w
  bl : BlkL w K
  ds : Ds D w
theorem RJ.kp {W : World} {fs : List BS} {fv : Value} {K : List (Nat × Array Value × TypeId)} {D : List Nat} {B : Nat} {w w' : World} (h : RJ W fs fv K D w) (k : Kp B w w') (hW : W.heap.size ≤ B) (h0 : 0 < B) (hK : LtL B K) (hD : ∀ d ∈ D, d < B) : RJ W fs fv K D w' :=
  ⟨h.e.kp k hW, h.t.kp k h0, Dv.ch h.hv k.chg (fun b hb => .inr (by have := hb.1; omega)), h.bl.kp k hK, h.ds.ch k.chg fun d hd hh => by have := hh.1; have := hD d hd; omega⟩

def outTo (fs : List BS) (s : List Nat) : BS := s.foldl (fun r n => r ||| sg fs n) 0
def outM (fs : List BS) (part : BS) : BS := outTo fs (elems part) &&& ~~~part

theorem out_spec {G : Nat → Prop} (fs : List BS) (part : BS) (fv : Value) (W : World) (hT : Tab W) (h : (Dv (slE setE) G fs).p fv W) (hp : ∀ i ∈ elems part, i < fs.length) :
    Calls Tryz.prog 56 #[fv, setV part] W (Post (E (setV (outM fs part))) W) := by
  have HV : (Dv (slE setE) (GB W Go.Mono.G0) fs).p fv W := Dv.toB (Dv.weak h fun b _ hb => hb.elim)
  clear h
  have hT0 := hT.lt
  have h1 := one_cells (Dv.slOne HV)
  refine enterM (args := [fv, setV part]) (As := [E fv, E (setV part)]) Tryz.func56 rfl Tryz.ntmps56 (Nat.le_of_ble_eq_true rfl) ?_ (fun a hf => ?_) (Nat.le_of_ble_eq_true rfl)
  · exact arg2 rfl rfl
  dsimp only [params, Nat.reduceAdd] at hf
  have e := Ext.rfl' W
  repeat refine seq ?_
  refine regn0 ?_
  refine tl_box hf rfl (by decide) fun a b2 w v2 hv2 e' hb2 hs2 B2 hf => ?_
  have hle2 := Nat.le_trans e.size (Nat.le_of_eq hb2.symm)
  replace hT := hT.ext e'
  replace HV := Dv.ex HV e'
  replace e := Ext.tr e e'
  clear e'
  refine tl_box hf rfl (by decide) fun a b3 w v3 hv3 e' hb3 hs3 B3 hf => ?_
  have hle3 := Nat.le_trans e.size (Nat.le_of_eq hb3.symm)
  have lt3_B2 := B2.lt
  replace hT := hT.ext e'
  replace HV := Dv.ex HV e'
  replace e := Ext.tr e e'
  replace B2 := B2.ext e'
  clear e'
  refine tl_alloc I67 hf (by decide) fun a b4 w e' hb4 hs4 B4 hf => ?_
  have hle4 := Nat.le_trans e.size (Nat.le_of_eq hb4.symm)
  have lt4_B2 := B2.lt
  have lt4_B3 := B3.lt
  replace hT := hT.ext e'
  replace HV := Dv.ex HV e'
  replace e := Ext.tr e e'
  replace B2 := B2.ext e'
  replace B3 := B3.ext e'
  clear e'
  refine tl_nil ?_
  cases hv2
  cases hv3
  rw [h1] at B2
  replace B3 : Blk w b3 (setC part) 67 := B3
  simp only [Value.cells, zeroC] at B4
  replace hf := hf.keep [2, 3, 4]
  dsimp only [keep, List.filterMap, look, Nat.beq, Option.map] at hf
  repeat refine seq ?_
  refine regn0 ?_
  refine tl_alloc I67 hf (by decide) fun a b5 w e' hb5 hs5 B5 hf => ?_
  have hle5 := Nat.le_trans e.size (Nat.le_of_eq hb5.symm)
  have lt5_B2 := B2.lt
  have lt5_B3 := B3.lt
  have lt5_B4 := B4.lt
  replace hT := hT.ext e'
  replace HV := Dv.ex HV e'
  replace e := Ext.tr e e'
  replace B2 := B2.ext e'
  replace B3 := B3.ext e'
  replace B4 := B4.ext e'
  clear e'
  refine tl_nil ?_
  simp only [Value.cells, zeroC] at B5
  have l2 := B2.lt
  have l3 := B3.lt
  have l4 := B4.lt
  have n5 : b5 ≠ b2 ∧ b5 ≠ b3 ∧ b5 ≠ b4 ∧ b4 ≠ b3 ∧ b4 ≠ b2 ∧ W.heap.size ≤ b5 ∧ W.heap.size ≤ b4 := by omega
  replace hf := hf.keep [2, 3, 4, 5]
  dsimp only [keep, List.filterMap, look, Nat.beq, Option.map] at hf
  obtain ⟨Nz, hNz⟩ : ∃ Nz, Nz = w.heap.size := ⟨_, rfl⟩
  repeat refine seq ?_
  refine regn 2 hf (by decide +kernel) ?_
  refine st (ldW T67 rfl B3 rfl) ?_
  refine st (call1 (A := SeqA Nz part) En58 rfl (fun v w' he h => by cases h; exact Calls.mono (all_spec _ w') (fun en w2 ⟨u, h1, h2, b', h3, h4, h5⟩ => ⟨u, h1, h2, b', by have := he.size; omega, h4, h5⟩))) ?_
  refine en fun a w e' hf => ?_
  replace hT := hT.ext e'
  replace HV := Dv.ex HV e'
  replace e := Ext.tr e e'
  replace B2 := B2.ext e'
  replace B3 := B3.ext e'
  replace B4 := B4.ext e'
  replace B5 := B5.ext e'
  clear e'
  refine tl_nil ?_
  obtain ⟨v, ⟨b8, h8, rfl, BS⟩, hf⟩ := hf.fix 8 rfl
  replace hf := hf.keep [2, 3, 4, 5, 8]
  dsimp only [keep, List.filterMap, look, Nat.beq, Option.map] at hf
  have hBW : W.heap.size ≤ w.heap.size := e.size
  have h0w : 0 < w.heap.size := hT.lt
  have kL : LtL w.heap.size [(b2, #[fv], 107), (b3, setC part, 67), (b4, setC 0, 67), (b5, setC 0, 67)] := ⟨B2.lt, B3.lt, B4.lt, B5.lt, trivial⟩
  have l5' := B5.lt
  repeat refine seq ?_
  refine blk ?_
  refine range_all3 (S := part) hf rfl BS (by decide) (fun s w1 => RJ W fs fv [(b2, #[fv], 107), (b3, setC part, 67), (b4, setC 0, 67), (b5, setC (outTo fs s), 67)] [] w1) (fun _ _ => False) (fun s w1 h => h.t)
    ⟨e, hT, HV, ⟨B2, B3, B4, B5, trivial⟩, Ds.nil _⟩ (fun s w1 w2 h hs k => h.kp k hBW h0w ⟨kL.1, kL.2.1, kL.2.2.1, kL.2.2.2.1, trivial⟩ (fun d hd => by cases hd)) (fun _ _ _ h => h.elim) ?_ ?_ (fun _ _ _ _ _ _ h => h.elim)
  · intro l s x rest a1 w1 hs hJ hlw hf
    have hx : x < fs.length := hp x (by rw [hs]; simp)
    generalize hBz : w.heap.size = Bz at *
    refine regn0 ?_
    refine tl_as hf rfl (by decide) fun a hf => ?_
    refine tl_nil ?_
    simp only [Exit.then]
    refine ⟨Kh.rfl' _ _, fun w3 k3 hsz3 => ?_⟩
    have hJ3 := hJ.kp k3 hBW h0w ⟨kL.1, kL.2.1, kL.2.2.1, kL.2.2.2.1, trivial⟩ (fun d hd => by cases hd)
    clear e hT HV B2 B3 B4 B5 BS
    replace hf := hf.pure w3
    obtain ⟨e, hT, HV, ⟨B2, B3, B4, B5, _⟩, _⟩ := hJ3
    have kh := Kh.rfl' Bz w3
    replace hf := hf.keep [2, 5, 6]
    dsimp only [keep, List.filterMap, look, Nat.beq, Option.map] at hf
    repeat refine seq ?_
    refine blk ?_
    repeat refine seq ?_
    refine reg 6 Mix.mix hf (by decide +kernel) ?_
    refine st (ldW T67 rfl B5 rfl) ?_
    refine st (ld1 (v := fv) T107 rfl B2 rfl) ?_
    refine st (mv rfl) ?_
    refine st (idxD Tryz.underlying107 S67 (isE rfl HV) rfl (by omega) (sg_get hx)) ?_
    refine st (ldS T67 (isR rfl)) ?_
    refine st (call2 En59 rfl rfl (fun v u w he h h' => by cases h; cases h'; exact union_spec _ _ w)) ?_
    refine en fun a w e' hf => ?_
    replace hT := hT.ext e'
    replace HV := Dv.ex HV e'
    replace kh := kh.tr (Kh.ext e')
    replace e := Ext.tr e e'
    replace B2 := B2.ext e'
    replace B3 := B3.ext e'
    replace B4 := B4.ext e'
    replace B5 := B5.ext e'
    clear e'
    haveI hinr : ∀ G0, InR (GB W G0) (some b5) := fun G0 => InR.gb (by omega)
    refine tl_stW T67 hf rfl rfl (wordsC_one _) B5 rfl (rfl) fun w hg hsz B5 hf => ?_
    replace hT := hT.gr hg (by omega)
    replace HV := Dv.gr HV hg (.inr (by omega))
    replace kh := kh.tr (Kh.gr hg (fun hh => by have := hh.1; omega))
    replace e := e.gr hg (by omega)
    replace B2 := B2.gr hg (by omega)
    replace B3 := B3.gr hg (by omega)
    replace B4 := B4.gr hg (by omega)
    clear hg
    refine tl_nil ?_
    simp only [Exit.inBlock]
    exact ⟨⟨e, hT, HV, ⟨B2, B3, B4, by rw [outTo, List.foldl_append, List.foldl_cons, List.foldl_nil]; exact B5, trivial⟩, Ds.nil _⟩, kh⟩
  · intro a' w' hf' hJ hsz hDn
    simp only [Exit.inBlock, ↓reduceIte, Exit.then]
    have hD : Ds [w.heap.size] w' := (Ds.nil w').cons hDn (by simp)
    have hf : FrD 19 (marks [w.heap.size]) a' w' [(2, E (.pointer (some ⟨b2, 0, none⟩))), (3, E (.pointer (some ⟨b3, 0, none⟩))), (4, E (.pointer (some ⟨b4, 0, none⟩))), (5, E (.pointer (some ⟨b5, 0, none⟩)))] := hf'.keep [2, 3, 4, 5]
    have hDW : ∀ d ∈ [w.heap.size], W.heap.size ≤ d := fun d hd => by rw [List.mem_singleton] at hd; omega
    clear hf' e hT HV B2 B3 B4 B5 BS hDn
    obtain ⟨e, hT, HV, ⟨B2, B3, B4, B5, _⟩, _⟩ := hJ
    generalize [w.heap.size] = D2 at *
    generalize w' = w at *
    have hD4 : ¬ b4 ∈ D2 := hD.ne B4
    repeat refine seq ?_
    refine regn 3 hf (by decide +kernel) ?_
    refine st (ldW T67 rfl B5 rfl) ?_
    refine st (ldW T67 rfl B3 rfl) ?_
    refine st (call2 En82 rfl rfl (fun v u w he h h' => by cases h; cases h'; exact minus_spec _ _ w)) ?_
    refine en fun a w e' hf => ?_
    replace e := Ext.tr e e'
    replace B2 := B2.ext e'
    replace B3 := B3.ext e'
    replace B4 := B4.ext e'
    replace B5 := B5.ext e'
    replace hD := hD.ext e'
    clear e'
    refine tl_stW T67 hf rfl rfl (wordsC_one _) B4 rfl (setC_size _) fun w hg hsz B4 hf => ?_
    replace e := e.gr hg (by omega)
    replace hD := hD.gr hg hD4
    clear hg
    refine tl_nil ?_
    refine wret ?_
    try simp only [Exit.then, Exit.inBlock]
    exact retcM rfl T67 hf rfl B4 (setC_size _) hD ⟨_, rfl, e.shut hDW, rfl⟩
end Go.Mono

namespace Go.Mono

/-- the parts that are left without a bag -/
def partsB (fs : List BS) (left : BS) : List BS := (splitF fs (1 + fs.length) left).getD []
def mostB (fs : List BS) (part : BS) (n : Nat) : Nat := (partsB fs (del part (n : Int))).foldl (fun m C => max m (card C)) 0
def cenStep (fs : List BS) (part : BS) (s : Int × Int) (n : Nat) : Int × Int := if s.1 < 0 ∨ (mostB fs part n : Int) < s.2 then ((n : Int), (mostB fs part n : Int)) else s
def cenTo (fs : List BS) (part : BS) (s : List Nat) : Int × Int := s.foldl (cenStep fs part) (-1, 0)
def cenB (fs : List BS) (part : BS) : Nat := (cenTo fs part (elems part)).1.toNat

def pathF (fs : List BS) (part : BS) (to : Nat) : Nat → BS → Nat → Option BS
  | 0, r, x => if x = to then some r else none
  | f + 1, r, x => if x = to then some r else
      oEl ((elems ((sg fs x &&& part) &&& ~~~r)).find? fun n => (compB fs (del part (x : Int)) n).getLsbD to) none fun n => pathF fs part to f (ins r (n : Int)) n
def pathB (fs : List BS) (part : BS) (x y : Nat) : BS := (pathF fs part y (1 + fs.length) (ins 0 (x : Int)) x).getD 0

/-- the bag of a part that is next to a bag outside -/
def endB (fs : List BS) (part : BS) (n : Nat) : Nat := (minOf (sg fs n &&& part)).getD 0
def splP (fs : List BS) (part between : BS) (c n : Nat) : Bool := between.getLsbD n && decide (card (pathB fs part c n &&& between) = 1)
def splB (fs : List BS) (part out : BS) : Nat :=
  if card out < 2 then cenB fs part
  else match (elems out).map (endB fs part) with
    | e0 :: e1 :: _ => ((elems (pathB fs part (cenB fs part) e0)).find? (splP fs part (pathB fs part e0 e1) (cenB fs part))).getD (cenB fs part)
    | _ => cenB fs part

section
variable {fs : List BS} {T : Tr} {part : BS}

/-! ### paths -/
theorem P_adj {x k i : Nat} (hx : x < T.n) (hk : k < T.n) (h : T.adj k x) (hP : T.P i x k) : i = x ∨ i = k := by
  apply Classical.byContradiction
  intro hn
  exact hP (Tr.cn.of_adj hx hk ⟨hx, fun e => hn (.inl e.symm)⟩ ⟨hk, fun e => hn (.inr e.symm)⟩ h.symm)
theorem find_one {p : Nat → Bool} {k : Nat} : ∀ {l : List Nat}, k ∈ l → p k = true → (∀ n ∈ l, p n = true → n = k) → l.find? p = some k
  | [], h, _, _ => by cases h
  | x :: l, h, hk, h1 => by
    rw [List.find?_cons]
    cases hx : p x with
    | true => rw [h1 x (by simp) hx]
    | false =>
      rcases List.mem_cons.1 h with rfl | h
      · rw [hk] at hx; cases hx
      · exact find_one h hk fun n hn => h1 n (by simp [hn])
theorem path_next (F : Fo fs T) (hin : ∀ i, part.getLsbD i = true → i < T.n) (hC : T.conn (bits part)) {x y z : Nat} {r : BS} (hx : part.getLsbD x = true) (hy : part.getLsbD y = true) (hz : part.getLsbD z = true) (hr : ∀ i, r.getLsbD i = true ↔ T.P i x z) (hP : T.P z x y) (hne : z ≠ y) :
    ∃ k, (elems ((sg fs z &&& part) &&& ~~~r)).find? (fun n => (compB fs (del part (z : Int)) n).getLsbD y) = some k ∧ part.getLsbD k = true ∧ (∀ i, (ins r (k : Int)).getLsbD i = true ↔ T.P i x k) ∧ T.P k x y ∧ T.dist k y < T.dist z y := by
  have hxn := hin x hx
  have hyn := hin y hy
  have hzn := hin z hz
  have hle := F.le
  obtain ⟨k, k1, k2⟩ := Tr.hop hC hzn hyn hz hy (Ne.symm hne)
  have hkp : part.getLsbD k = true := k2.2.2.1.1
  have hkn := k2.1
  have hV : T.cn (Tr.wo (fun i => i < T.n) z) k y := k2.mono fun i hi h => ⟨hi, h.2⟩
  have p1 : T.P k z y := Tr.hop_P hzn k1 hV
  have p2 : T.P k x y := hP.sub' p1
  have p3 : T.P z x k := (hP.split k).resolve_right fun h => h hV
  have hkz : k ≠ z := k2.2.2.1.2
  have hdel : ∀ i, (del part (z : Int)).getLsbD i = true ↔ part.getLsbD i = true ∧ i ≠ z := fun i => bit_del part (by omega)
  have hbits : (bits (del part (z : Int))) = Tr.wo (bits part) z := by funext i; exact propext (hdel i)
  have hind : ∀ i, (del part (z : Int)).getLsbD i = true → i < T.n := fun i hi => hin i ((hdel i).1 hi).1
  have hcand : ∀ n, n ∈ elems ((sg fs z &&& part) &&& ~~~r) ↔ T.adj z n ∧ part.getLsbD n = true ∧ ¬r.getLsbD n = true := fun n => by
    rw [mem_elems, bit_diff, bit_and, F.adj hzn]
    constructor
    · rintro ⟨_, ⟨⟨_, h1⟩, h2⟩, h3⟩; exact ⟨h1, h2, h3⟩
    · rintro ⟨h1, h2, h3⟩; exact ⟨bit_lt h2, ⟨⟨hin n h2, h1⟩, h2⟩, h3⟩
  have hcmp : ∀ n, T.adj z n → part.getLsbD n = true → ((compB fs (del part (z : Int)) n).getLsbD y = true ↔ T.cn (Tr.wo (bits part) z) n y) := fun n hn hp => by
    have hnd : (del part (z : Int)).getLsbD n = true := (hdel n).2 ⟨hp, fun e => (hn.ne hzn) e.symm⟩
    rw [(comp_some F hind hnd).2 y, hbits]
  refine ⟨k, find_one ((hcand k).2 ⟨k1.symm, hkp, fun h => hkz (Tr.P.meet hxn hyn hP ((hr k).1 h) p1)⟩) ((hcmp k k1.symm hkp).2 k2) (fun n hn hpn => ?_), hkp, fun i => ?_, p2, ?_⟩
  · obtain ⟨h1, h2, _⟩ := (hcand n).1 hn
    exact Tr.hop_one hzn h1.symm k1 (((hcmp n h1 h2).1 hpn).trans k2.symm)
  · rw [bit_ins r (by omega), hr]
    constructor
    · rintro (h | rfl)
      · exact p3.sub h
      · exact Tr.P.right
    · intro h
      rcases h.split z with h | h
      · exact .inl h
      · rcases P_adj hzn hkn k1 h with rfl | rfl
        · exact .inl Tr.P.right
        · exact .inr rfl
  · exact Tr.dist_lt hzn (fun u _ hu => p1.sub' hu) Tr.P.left fun h => h hV
theorem pathF_ok (F : Fo fs T) (hin : ∀ i, part.getLsbD i = true → i < T.n) (hC : T.conn (bits part)) {x y : Nat} (hx : part.getLsbD x = true) (hy : part.getLsbD y = true) : ∀ (f : Nat) (r : BS) (z : Nat), part.getLsbD z = true → (∀ i, r.getLsbD i = true ↔ T.P i x z) → T.P z x y → T.dist z y ≤ f →
    ∃ Z, pathF fs part y f r z = some Z ∧ ∀ i, Z.getLsbD i = true ↔ T.P i x y := by
  intro f
  induction f with
  | zero =>
    intro r z hz hr hP hd
    by_cases h : z = y
    · subst h; exact ⟨r, by rw [pathF, if_pos rfl], hr⟩
    · obtain ⟨k, _, _, _, _, h5⟩ := path_next F hin hC hx hy hz hr hP h
      omega
  | succ f ih =>
    intro r z hz hr hP hd
    by_cases h : z = y
    · subst h; exact ⟨r, by rw [pathF, if_pos rfl], hr⟩
    · obtain ⟨k, h1, h2, h3, h4, h5⟩ := path_next F hin hC hx hy hz hr hP h
      obtain ⟨Z, h6, h7⟩ := ih _ k h2 h3 h4 (by omega)
      exact ⟨Z, by rw [pathF, if_neg h, h1, oEl]; exact h6, h7⟩
theorem dist_le (x y : Nat) : T.dist x y ≤ T.n := by
  unfold Tr.dist
  have := List.countP_le_length (p := fun z => @decide (T.P z x y) (Classical.propDecidable _)) (l := List.range T.n)
  rwa [List.length_range] at this
theorem P_self {i x : Nat} (hx : x < T.n) : T.P i x x ↔ i = x := by
  constructor
  · intro h
    apply Classical.byContradiction
    intro hn
    exact h (Tr.cn.refl hx ⟨hx, Ne.symm hn⟩)
  · rintro rfl; exact Tr.P.left
theorem path_some (F : Fo fs T) (hin : ∀ i, part.getLsbD i = true → i < T.n) (hC : T.conn (bits part)) {x y : Nat} (hx : part.getLsbD x = true) (hy : part.getLsbD y = true) :
    pathF fs part y (1 + fs.length) (ins 0 (x : Int)) x = some (pathB fs part x y) ∧ ∀ i, (pathB fs part x y).getLsbD i = true ↔ T.P i x y := by
  have hle := F.le
  have hd := dist_le (T := T) x y
  obtain ⟨Z, h1, h2⟩ := pathF_ok F hin hC hx hy (1 + fs.length) (ins 0 (x : Int)) x hx (fun i => by
    rw [bit_ins 0 (by have := hin x hx; omega), P_self (hin x hx)]
    exact ⟨fun h => h.resolve_left (bit_zero i), .inr⟩) Tr.P.left (by have := F.len; omega)
  have : pathB fs part x y = Z := by rw [pathB, h1]; rfl
  rw [this]
  exact ⟨h1, h2⟩
theorem path_in (F : Fo fs T) (hin : ∀ i, part.getLsbD i = true → i < T.n) (hC : T.conn (bits part)) {x y i : Nat} (hx : part.getLsbD x = true) (hy : part.getLsbD y = true) (h : (pathB fs part x y).getLsbD i = true) : part.getLsbD i = true :=
  Tr.P.mem hC (hin x hx) (hin y hy) hx hy (((path_some F hin hC hx hy).2 i).1 h)

/-! ### parts -/
theorem del_in (hin : ∀ i, part.getLsbD i = true → i < T.n) (z : Int) : ∀ i, (del part z).getLsbD i = true → i < T.n := fun i h => by
  unfold del at h
  split at h
  · exact hin i ((bit_diff _ _ i).1 h).1
  · exact hin i h
theorem parts_some (F : Fo fs T) {left : BS} (hin : ∀ i, left.getLsbD i = true → i < T.n) : splitF fs (1 + fs.length) left = some (partsB fs left) ∧ (partsB fs left).length ≤ card left ∧ (∀ C ∈ partsB fs left, ∃ k, left.getLsbD k = true ∧ C = compB fs left k) ∧ ∀ k, left.getLsbD k = true → compB fs left k ∈ partsB fs left := by
  have hle := F.le
  have := card_le_n hin
  obtain ⟨l, h1, h2⟩ := splitF_ok F (1 + fs.length) left hin (by have := F.len; omega)
  have e : partsB fs left = l := by rw [partsB, h1]; rfl
  rw [e]
  exact ⟨h1, h2⟩
theorem foldl_max (f : BS → Nat) : ∀ (l : List BS) (m : Nat), m ≤ l.foldl (fun m C => max m (f C)) m ∧ (∀ C ∈ l, f C ≤ l.foldl (fun m C => max m (f C)) m) ∧ ∀ b, m ≤ b → (∀ C ∈ l, f C ≤ b) → l.foldl (fun m C => max m (f C)) m ≤ b
  | [], m => ⟨Nat.le_refl _, by simp, fun b h _ => h⟩
  | C :: l, m => by
    obtain ⟨h1, h2, h3⟩ := foldl_max f l (max m (f C))
    rw [List.foldl_cons]
    refine ⟨by omega, fun D hD => ?_, fun b hm hb => h3 b (by have := hb C (by simp); omega) fun D hD => hb D (by simp [hD])⟩
    rcases List.mem_cons.1 hD with rfl | hD
    · omega
    · exact h2 D hD
theorem most_le (F : Fo fs T) (hin : ∀ i, part.getLsbD i = true → i < T.n) (n : Nat) : mostB fs part n ≤ 1024 := by
  refine (foldl_max card _ 0).2.2 1024 (by omega) fun C _ => ?_
  exact card_le_n fun i hi => bit_lt hi

/-! ### the centre -/
theorem cen_inv (fs : List BS) (part : BS) : ∀ (l : List Nat) (s : Int × Int), (0 ≤ s.1 → ∃ n : Nat, s.1 = (n : Int) ∧ s.2 = (mostB fs part n : Int)) →
    (l ≠ [] ∨ 0 ≤ s.1) → ∃ n : Nat, (l.foldl (cenStep fs part) s).1 = (n : Int) ∧ (n ∈ l ∨ s.1 = (n : Int)) ∧ (l.foldl (cenStep fs part) s).2 = (mostB fs part n : Int) ∧ (∀ m ∈ l, mostB fs part n ≤ mostB fs part m) ∧ (0 ≤ s.1 → (mostB fs part n : Int) ≤ s.2)
  | [], s, h, h0 => by
    have h1 := h0.resolve_left (by simp)
    obtain ⟨n, h2, h3⟩ := h h1
    exact ⟨n, h2, .inr h2, h3, by simp, fun _ => by omega⟩
  | m :: l, s, h, _ => by
    rw [List.foldl_cons]
    by_cases hc : s.1 < 0 ∨ (mostB fs part m : Int) < s.2
    · have e : cenStep fs part s m = ((m : Int), (mostB fs part m : Int)) := if_pos hc
      obtain ⟨n, h1, h2, h3, h4, h5⟩ := cen_inv fs part l (cenStep fs part s m) (fun _ => ⟨m, by rw [e], by rw [e]⟩) (.inr (by rw [e]; exact Int.natCast_nonneg m))
      have h5' := h5 (by rw [e]; exact Int.natCast_nonneg m)
      rw [e] at h5' h2
      refine ⟨n, h1, .inl ?_, h3, fun x hx => ?_, fun h0 => ?_⟩
      · rcases h2 with h2 | h2
        · exact List.mem_cons_of_mem _ h2
        · simp only at h2
          have : n = m := by omega
          subst this; simp
      · rcases List.mem_cons.1 hx with rfl | hx
        · simp only at h5'; omega
        · exact h4 x hx
      · simp only at h5'; omega
    · have e : cenStep fs part s m = s := if_neg hc
      have h0 : 0 ≤ s.1 := by omega
      have hs : ¬(mostB fs part m : Int) < s.2 := fun h => hc (.inr h)
      rw [e]
      obtain ⟨n, h1, h2, h3, h4, h5⟩ := cen_inv fs part l s h (.inr h0)
      have := h5 h0
      refine ⟨n, h1, h2.imp (List.mem_cons_of_mem _) id, h3, fun x hx => ?_, fun _ => this⟩
      rcases List.mem_cons.1 hx with rfl | hx
      · omega
      · exact h4 x hx
theorem cen_ok {p : Nat} (hp : part.getLsbD p = true) : part.getLsbD (cenB fs part) = true ∧ (cenTo fs part (elems part)).1 = (cenB fs part : Int) ∧ ∀ m, part.getLsbD m = true → mostB fs part (cenB fs part) ≤ mostB fs part m := by
  have hpe := mem_elems.2 ⟨bit_lt hp, hp⟩
  obtain ⟨n, h1, h2, h3, h4, _⟩ := cen_inv fs part (elems part) (-1, 0) (fun h => by simp at h) (.inl (List.ne_nil_of_mem hpe))
  have e : cenB fs part = n := by
    show (List.foldl (cenStep fs part) (-1, 0) (elems part)).1.toNat = n
    rw [h1]; exact Int.toNat_natCast n
  rw [e]
  refine ⟨?_, h1, fun m hm => h4 m (mem_elems.2 ⟨bit_lt hm, hm⟩)⟩
  rcases h2 with h2 | h2
  · exact (mem_elems.1 h2).2
  · simp only at h2; omega
end
end Go.Mono

namespace Go.Mono

section
variable {fs : List BS} {T : Tr} {part : BS}

theorem outTo_bit (i : Nat) : ∀ (s : List Nat) (r : BS), (s.foldl (fun r n => r ||| sg fs n) r).getLsbD i = true ↔ r.getLsbD i = true ∨ ∃ n ∈ s, (sg fs n).getLsbD i = true
  | [], r => by simp
  | n :: s, r => by
    rw [List.foldl_cons, outTo_bit i s, bit_or]
    constructor
    · rintro ((h | h) | ⟨m, hm, h⟩)
      · exact .inl h
      · exact .inr ⟨n, by simp, h⟩
      · exact .inr ⟨m, by simp [hm], h⟩
    · rintro (h | ⟨m, hm, h⟩)
      · exact .inl (.inl h)
      · rcases List.mem_cons.1 hm with rfl | hm
        · exact .inl (.inr h)
        · exact .inr ⟨m, hm, h⟩
theorem out_bit (F : Fo fs T) (hin : ∀ i, part.getLsbD i = true → i < T.n) (i : Nat) : (outM fs part).getLsbD i = true ↔ i < T.n ∧ ¬part.getLsbD i = true ∧ ∃ j, part.getLsbD j = true ∧ T.adj j i := by
  rw [outM, bit_diff, outTo, outTo_bit]
  constructor
  · rintro ⟨h | ⟨j, hj, h⟩, h2⟩
    · exact absurd h (bit_zero i)
    · have hj' := (mem_elems.1 hj).2
      have := (F.adj (hin j hj')).1 h
      exact ⟨this.1, h2, j, hj', this.2⟩
  · rintro ⟨h1, h2, j, hj, h⟩
    exact ⟨.inr ⟨j, mem_elems.2 ⟨bit_lt hj, hj⟩, (F.adj (hin j hj)).2 ⟨h1, h⟩⟩, h2⟩
/-- the end of the part beside a bag outside -/
theorem end_ok (F : Fo fs T) (hin : ∀ i, part.getLsbD i = true → i < T.n) (hC : T.conn (bits part)) {b : Nat} (hb : (outM fs part).getLsbD b = true) :
    part.getLsbD (endB fs part b) = true ∧ T.adj (endB fs part b) b ∧ ∀ j, part.getLsbD j = true → T.adj j b → j = endB fs part b := by
  obtain ⟨hbn, hbp, j, hj, hjb⟩ := (out_bit F hin b).1 hb
  have hbit : (sg fs b &&& part).getLsbD j = true := (bit_and _ _ j).2 ⟨(F.adj hbn).2 ⟨hin j hj, hjb.symm⟩, hj⟩
  obtain ⟨k, hk, _⟩ := minOf_is hbit
  have hk2 := (bit_and _ _ k).1 (minOf_mem hk)
  have e : endB fs part b = k := by rw [endB, hk]; rfl
  rw [e]
  have hkb : T.adj k b := ((F.adj hbn).1 hk2.1).2.symm
  exact ⟨hk2.2, hkb, fun x hx hxb => hC.nb hbn hbp (hin x hx) (hin k hk2.2) hx hk2.2 hxb hkb⟩
theorem card_two {S : BS} (h : ¬card S < 2) : ∃ a b l, elems S = a :: b :: l ∧ a ≠ b ∧ S.getLsbD a = true ∧ S.getLsbD b = true := by
  rw [← card_elems] at h
  have hn : (elems S).Nodup := List.Nodup.sublist List.filter_sublist List.nodup_range
  match hl : elems S with
  | [] => rw [hl] at h; simp at h
  | [a] => rw [hl] at h; simp at h
  | a :: b :: l =>
    rw [hl] at hn
    exact ⟨a, b, l, rfl, fun e => by subst e; simp at hn, (mem_elems.1 (by rw [hl]; simp)).2, (mem_elems.1 (by rw [hl]; simp)).2⟩
/-- what is asked of the splitter -/
structure Spl (fs : List BS) (T : Tr) (part : BS) (s : Nat) : Prop where
  mem : part.getLsbD s = true
  one : card (outM fs part) < 2 → s = cenB fs part
  two : ∀ {a b l}, elems (outM fs part) = a :: b :: l → T.P s (endB fs part a) (endB fs part b) ∧ T.P s (endB fs part a) (cenB fs part) ∧ T.P s (endB fs part b) (cenB fs part)
theorem card_sub_one {S : BS} {a b : Nat} (h : card S = 1) (ha : S.getLsbD a = true) (hb : S.getLsbD b = true) : a = b := by
  rw [← card_elems] at h
  match hl : elems S with
  | [] => rw [hl] at h; simp at h
  | [x] =>
    have h1 := mem_elems.2 ⟨bit_lt ha, ha⟩
    have h2 := mem_elems.2 ⟨bit_lt hb, hb⟩
    rw [hl] at h1 h2
    simp at h1 h2
    omega
  | x :: y :: l => rw [hl] at h; simp at h
/-- the one bag of the path between two bags that the search for the splitter takes -/
theorem near_card (F : Fo fs T) (hin : ∀ i, part.getLsbD i = true → i < T.n) (hC : T.conn (bits part)) {x y c m n : Nat} (hx : part.getLsbD x = true) (hy : part.getLsbD y = true) (hc : part.getLsbD c = true)
    (h1 : T.P m x y) (h2 : T.P m x c) (h3 : T.P m y c) (hn : part.getLsbD n = true) : splP fs part (pathB fs part x y) c n = true ↔ n = m := by
  have hxn := hin x hx
  have hyn := hin y hy
  have hcn := hin c hc
  have hm : part.getLsbD m = true := Tr.P.mem hC hxn hyn hx hy h1
  have pb := fun i => (path_some F hin hC hx hy).2 i
  rw [splP, Bool.and_eq_true, decide_eq_true_eq, pb]
  constructor
  · rintro ⟨h4, h5⟩
    have hmn : T.P m n c := Tr.near hxn hyn hcn h1 h2 h3 h4
    exact card_sub_one h5 ((bit_and _ _ n).2 ⟨((path_some F hin hC hc hn).2 n).2 Tr.P.right, (pb n).2 h4⟩) ((bit_and _ _ m).2 ⟨((path_some F hin hC hc hn).2 m).2 hmn.symm, (pb m).2 h1⟩)
  · rintro rfl
    refine ⟨h1, card_one (p := n) fun i => ?_⟩
    rw [bit_and, (path_some F hin hC hc hn).2 i, pb]
    constructor
    · rintro ⟨h4, h5⟩
      have := Tr.near hxn hyn hcn h1 h2 h3 h5
      exact (Tr.P.meet hcn (hin n hn) h4 this.symm Tr.P.right).symm
    · rintro rfl
      exact ⟨Tr.P.right, h1⟩
theorem spl_ok (F : Fo fs T) (hin : ∀ i, part.getLsbD i = true → i < T.n) (hC : T.conn (bits part)) {p : Nat} (hp : part.getLsbD p = true) : Spl fs T part (splB fs part (outM fs part)) := by
  obtain ⟨hc, _, _⟩ := cen_ok (fs := fs) hp
  by_cases hcard : card (outM fs part) < 2
  · have e : splB fs part (outM fs part) = cenB fs part := by rw [splB, if_pos hcard]
    rw [e]
    refine ⟨hc, fun _ => rfl, fun {a b l} h => ?_⟩
    have := card_elems (outM fs part)
    rw [h] at this
    simp at this
    omega
  · obtain ⟨a, b, l, he, hab, ha, hb⟩ := card_two hcard
    obtain ⟨a1, a2, a3⟩ := end_ok F hin hC ha
    obtain ⟨b1, b2, b3⟩ := end_ok F hin hC hb
    obtain ⟨m, m1, m2, m3⟩ := Tr.median (hin _ a1) (hin _ b1) (hin _ hc)
    have hm : part.getLsbD m = true := Tr.P.mem hC (hin _ a1) (hin _ b1) a1 b1 m1
    have hf : (elems (pathB fs part (cenB fs part) (endB fs part a))).find? (splP fs part (pathB fs part (endB fs part a) (endB fs part b)) (cenB fs part)) = some m := by
      have hpm : (pathB fs part (cenB fs part) (endB fs part a)).getLsbD m = true := ((path_some F hin hC hc a1).2 m).2 m2.symm
      refine find_one (mem_elems.2 ⟨bit_lt hpm, hpm⟩) ((near_card F hin hC a1 b1 hc m1 m2 m3 hm).2 rfl) fun n hn hpn => ?_
      have hn' := path_in F hin hC hc a1 (mem_elems.1 hn).2
      exact (near_card F hin hC a1 b1 hc m1 m2 m3 hn').1 hpn
    have e : splB fs part (outM fs part) = m := by
      rw [splB, if_neg hcard, he]
      simp only [List.map_cons, hf, Option.getD_some]
    rw [e]
    refine ⟨hm, fun h => absurd h hcard, fun {a' b' l'} h => ?_⟩
    rw [he] at h
    cases h
    exact ⟨m1, m2, m3⟩

/-! ### what is left of a part without a bag -/
structure Sub (fs : List BS) (T : Tr) (part : BS) (s : Nat) (C : BS) : Prop where
  ne : ∃ k, C.getLsbD k = true
  sub : ∀ i, C.getLsbD i = true → part.getLsbD i = true ∧ i ≠ s
  conn : T.conn (bits C)
  clo : ∀ i j, C.getLsbD i = true → part.getLsbD j = true → j ≠ s → T.adj i j → C.getLsbD j = true
theorem parts_sub (F : Fo fs T) (hin : ∀ i, part.getLsbD i = true → i < T.n) {s : Nat} (hs : s < T.n) {C : BS} (h : C ∈ partsB fs (del part (s : Int))) : Sub fs T part s C := by
  have hle := F.le
  have hdel : ∀ i, (del part (s : Int)).getLsbD i = true ↔ part.getLsbD i = true ∧ i ≠ s := fun i => bit_del part (by omega)
  obtain ⟨k, hk, rfl⟩ := (parts_some F (del_in (part := part) hin (s : Int))).2.2.1 C h
  have hb := (comp_some F (del_in hin _) hk).2
  refine ⟨⟨k, comp_self F (del_in hin _) hk⟩, fun i hi => (hdel i).1 (comp_sub F (del_in hin _) hk i hi), ?_, fun i j hi hj hjs hij => ?_⟩
  · have := Tr.conn_comp (T := T) (A := bits (del part (s : Int))) (x := k)
    have e : (fun y => T.cn (bits (del part (s : Int))) k y) = bits (compB fs (del part (s : Int)) k) := by
      funext y
      exact propext (hb y).symm
    rwa [e] at this
  · have h1 := (hb i).1 hi
    exact (hb j).2 (h1.trans (Tr.cn.of_adj h1.2.1 (hin j hj) h1.2.2.2.1 ((hdel j).2 ⟨hj, hjs⟩) hij))
theorem sub_out (F : Fo fs T) (hin : ∀ i, part.getLsbD i = true → i < T.n) {s : Nat} {C : BS} (h : Sub fs T part s C) {i : Nat} (hi : (outM fs C).getLsbD i = true) : i = s ∨ (outM fs part).getLsbD i = true := by
  obtain ⟨h1, h2, j, hj, hji⟩ := (out_bit F (fun i hi => hin i (h.sub i hi).1) i).1 hi
  by_cases his : i = s
  · exact .inl his
  · refine .inr ((out_bit F hin i).2 ⟨h1, fun hp => h2 (h.clo j i hj hp his hji), j, (h.sub j hj).1, hji⟩)
theorem sub_end (F : Fo fs T) (hin : ∀ i, part.getLsbD i = true → i < T.n) (hC : T.conn (bits part)) {s : Nat} {C : BS} (h : Sub fs T part s C) {b : Nat} (hb : (outM fs part).getLsbD b = true) (hb' : (outM fs C).getLsbD b = true) : C.getLsbD (endB fs part b) = true := by
  obtain ⟨h1, h2, j, hj, hji⟩ := (out_bit F (fun i hi => hin i (h.sub i hi).1) b).1 hb'
  rw [← (end_ok F hin hC hb).2.2 j (h.sub j hj).1 hji]; exact hj
theorem card_union_le {S A : BS} {s : Nat} (hs : s < 1024) (h : ∀ i, S.getLsbD i = true → i = s ∨ A.getLsbD i = true) : card S ≤ card A + 1 := by
  by_cases hA : A.getLsbD s = true
  · have : card S ≤ card A := card_mono fun i hi => by
      rcases h i hi with rfl | h
      · exact hA
      · exact h
    omega
  · have hone : ∀ i, (ins 0 (s : Int)).getLsbD i = true ↔ i = s := fun i => by
      rw [bit_ins 0 hs]; exact ⟨fun h => h.resolve_left (bit_zero i), .inr⟩
    have h1 := card_add (S := A) (T := ins 0 (s : Int)) (U := A ||| ins 0 (s : Int)) (bit_or _ _) (by
      rintro i ⟨h1, h2⟩
      rw [(hone i).1 h2] at h1
      exact hA h1)
    rw [card_one hone] at h1
    rw [← h1]
    exact card_mono fun i hi => (bit_or _ _ i).2 ((h i hi).elim (fun h => .inr ((hone i).2 h)) .inl)
/-- what is left has at most two bags outside, if it is split at the splitter -/
theorem sub_two (F : Fo fs T) (hin : ∀ i, part.getLsbD i = true → i < T.n) (hC : T.conn (bits part)) (h2 : card (outM fs part) ≤ 2) {s : Nat} (S : Spl fs T part s) {C : BS} (h : Sub fs T part s C) : card (outM fs C) ≤ 2 := by
  have hle := F.le
  have hs1 : s < 1024 := by have := hin s S.mem; omega
  have hsub := fun i => sub_out F hin h (i := i)
  by_cases hc : card (outM fs part) < 2
  · have := card_union_le hs1 fun i hi => hsub i hi
    omega
  · obtain ⟨a, b, l, he, hab, ha, hb⟩ := card_two hc
    have hl : l = [] := by
      have := card_elems (outM fs part)
      rw [he] at this
      simp at this
      exact List.eq_nil_of_length_eq_zero (by omega)
    have hall : ∀ i, (outM fs part).getLsbD i = true → i = a ∨ i = b := fun i hi => by
      have := mem_elems.2 ⟨bit_lt hi, hi⟩
      rw [he, hl] at this
      simpa using this
    have hnot : ¬((outM fs C).getLsbD a = true ∧ (outM fs C).getLsbD b = true) := by
      rintro ⟨h1, h2⟩
      have c1 := sub_end F hin hC h ha h1
      have c2 := sub_end F hin hC h hb h2
      have := h.conn _ _ (hin _ (h.sub _ c1).1) (hin _ (h.sub _ c2).1) c1 c2
      refine (S.two he).1 (this.mono fun i hi hh => ⟨hi, (h.sub i hh).2⟩)
    have hone : ∀ x, (outM fs part).getLsbD x = true → ∀ i, (ins 0 (x : Int)).getLsbD i = true ↔ i = x := fun x hx i => by
      rw [bit_ins 0 (bit_lt hx)]; exact ⟨fun h => h.resolve_left (bit_zero i), .inr⟩
    by_cases hCa : (outM fs C).getLsbD a = true
    · have := card_union_le (S := outM fs C) (A := ins 0 (a : Int)) hs1 fun i hi => by
        rcases hsub i hi with h | h
        · exact .inl h
        · rcases hall i h with rfl | rfl
          · exact .inr ((hone i ha i).2 rfl)
          · exact absurd ⟨hCa, hi⟩ hnot
      rw [card_one (hone a ha)] at this
      omega
    · have := card_union_le (S := outM fs C) (A := ins 0 (b : Int)) hs1 fun i hi => by
        rcases hsub i hi with h | h
        · exact .inl h
        · rcases hall i h with rfl | rfl
          · exact absurd hi hCa
          · exact .inr ((hone i hb i).2 rfl)
      rw [card_one (hone b hb)] at this
      omega
end
end Go.Mono

namespace Go.Mono

/-- binary digits -/
def bl : Nat → Nat → Nat
  | 0, _ => 0
  | f + 1, n => if n = 0 then 0 else bl f (n / 2) + 1
theorem bl_stable : ∀ (f g n : Nat), n ≤ f → n ≤ g → bl f n = bl g n
  | 0, g, n, h1, h2 => by
    obtain rfl : n = 0 := by omega
    cases g <;> rfl
  | f + 1, 0, n, h1, h2 => by
    obtain rfl : n = 0 := by omega
    rfl
  | f + 1, g + 1, n, h1, h2 => by
    rw [bl, bl]
    by_cases h : n = 0
    · rw [if_pos h, if_pos h]
    · rw [if_neg h, if_neg h, bl_stable f g (n / 2) (by omega) (by omega)]
def dg (n : Nat) : Nat := bl n n
theorem dg_zero : dg 0 = 0 := rfl
theorem dg_step {n : Nat} (h : n ≠ 0) : dg n = dg (n / 2) + 1 := by
  obtain ⟨m, rfl⟩ : ∃ m, n = m + 1 := ⟨n - 1, by omega⟩
  rw [dg, bl, if_neg h, dg, bl_stable m ((m + 1) / 2) ((m + 1) / 2) (by omega) (by omega)]
theorem dg_mono : ∀ (n m : Nat), m ≤ n → dg m ≤ dg n := by
  intro n
  induction n using Nat.strongRecOn with
  | _ n ih =>
    intro m h
    by_cases hm : m = 0
    · subst hm; rw [dg_zero]; exact Nat.zero_le _
    · rw [dg_step hm, dg_step (n := n) (by omega)]
      have := ih (n / 2) (by omega) (m / 2) (by omega)
      omega
/-- the recursion: the parts that it comes to, each with the index of the one above -/
def splitter (fs : List BS) (part : BS) : Nat := splB fs part (outM fs part)
def subs (fs : List BS) (part : BS) : List BS := partsB fs (del part (splitter fs part : Int))
def balL (fs : List BS) : Nat → BS → Int → List (Int × BS) → List (Int × BS)
  | 0, part, up, s => s ++ [(up, part)]
  | f + 1, part, up, s => (subs fs part).foldl (fun s' C => balL fs f C (s.length : Int) s') (s ++ [(up, part)])

section
variable {fs : List BS} {T : Tr}
/-- a part as the recursion meets it -/
structure Pt (fs : List BS) (T : Tr) (part : BS) : Prop where
  inn : ∀ i, part.getLsbD i = true → i < T.n
  conn : T.conn (bits part)
  ne : ∃ k, part.getLsbD k = true
  two : card (outM fs part) ≤ 2
theorem Pt.spl {part : BS} (F : Fo fs T) (h : Pt fs T part) : Spl fs T part (splitter fs part) := by
  obtain ⟨k, hk⟩ := h.ne
  exact spl_ok F h.inn h.conn hk
theorem Pt.sub {part : BS} (F : Fo fs T) (h : Pt fs T part) {C : BS} (hC : C ∈ subs fs part) : Sub fs T part (splitter fs part) C := parts_sub F h.inn (h.inn _ (h.spl F).mem) hC
theorem Pt.step {part : BS} (F : Fo fs T) (h : Pt fs T part) {C : BS} (hC : C ∈ subs fs part) : Pt fs T C ∧ card C < card part := by
  have S := h.sub F hC
  exact ⟨⟨fun i hi => h.inn i (S.sub i hi).1, S.conn, S.ne, sub_two F h.inn h.conn h.two (h.spl F) S⟩, card_lt (fun i hi => (S.sub i hi).1) (h.spl F).mem fun hh => (S.sub _ hh).2 rfl⟩
/-- what adds up over the parts -/
theorem parts_sum (F : Fo fs T) (φ : BS → Nat) (h0 : φ 0 = 0) (hadd : ∀ C U : BS, (∀ i, C.getLsbD i = true → U.getLsbD i = true) → φ U = φ C + φ (U &&& ~~~C)) :
    ∀ (f : Nat) (left : BS), (∀ i, left.getLsbD i = true → i < T.n) → ∀ l, splitF fs f left = some l → (l.map φ).sum = φ left := by
  intro f
  induction f with
  | zero =>
    intro left hin l h
    cases hm : minOf left with
    | none => rw [splitF_nil hm] at h; cases h; rw [minOf_none.1 hm, h0]; rfl
    | some k => rw [splitF_zero hm] at h; cases h
  | succ f ih =>
    intro left hin l h
    cases hm : minOf left with
    | none => rw [splitF_nil hm] at h; cases h; rw [minOf_none.1 hm, h0]; rfl
    | some k =>
      rw [splitF_cons hm] at h
      cases hr : splitF fs f (left &&& ~~~compB fs left k) with
      | none => rw [hr] at h; cases h
      | some l' =>
        rw [hr] at h
        cases h
        rw [List.map_cons, List.sum_cons, ih _ (fun i hi => hin i ((bit_diff _ _ i).1 hi).1) l' hr]
        exact (hadd _ _ (comp_sub F hin (minOf_mem hm))).symm
theorem card_split {C U : BS} (h : ∀ i, C.getLsbD i = true → U.getLsbD i = true) : card U = card C + card (U &&& ~~~C) :=
  card_add (fun i => by
    rw [bit_diff]
    constructor
    · intro hi
      by_cases hc : C.getLsbD i = true
      · exact .inl hc
      · exact .inr ⟨hi, hc⟩
    · rintro (hi | hi)
      · exact h i hi
      · exact hi.1) fun i hi => ((bit_diff _ _ i).1 hi.2).2 hi.1
theorem card_del {S : BS} {p : Nat} (h : S.getLsbD p = true) : card S = card (del S (p : Int)) + 1 := by
  have hp := bit_lt h
  have hone : ∀ i, (ins 0 (p : Int)).getLsbD i = true ↔ i = p := fun i => by
    rw [bit_ins 0 hp]; exact ⟨fun h => h.resolve_left (bit_zero i), .inr⟩
  rw [← card_one hone]
  refine card_add (fun i => ?_) fun i hi => ((bit_del S hp).1 hi.1).2 ((hone i).1 hi.2)
  rw [bit_del S hp, hone]
  constructor
  · intro hi
    by_cases hip : i = p
    · exact .inr hip
    · exact .inl ⟨hi, hip⟩
  · rintro (hi | rfl)
    · exact hi.1
    · exact h
theorem subs_card {part : BS} (F : Fo fs T) (h : Pt fs T part) : card part = ((subs fs part).map card).sum + 1 := by
  have hs := (h.spl F).mem
  have hin := del_in h.inn (splitter fs part : Int)
  have := parts_sum F card card_zero (fun C U => card_split) (1 + fs.length) (del part (splitter fs part : Int)) hin (partsB fs (del part (splitter fs part : Int))) (parts_some F hin).1
  rw [card_del hs, subs, this]

/-- node i of the list: who is above, who are below -/
structure BNd (fs : List BS) (T : Tr) (L : List (Int × BS)) (i : Nat) (up : Int) (P : BS) : Prop where
  at' : L[i]? = some (up, P)
  pt : Pt fs T P
  kid : ∀ C ∈ subs fs P, ∃ k, i < k ∧ L[k]? = some ((i : Int), C)
theorem BNd.app {i : Nat} {L M : List (Int × BS)} {up : Int} {P : BS} (h : BNd fs T L i up P) : BNd fs T (L ++ M) i up P := by
  have k1 : ∀ {k : Nat} {x : Int × BS}, L[k]? = some x → (L ++ M)[k]? = some x := fun {k x} h => by
    rw [List.getElem?_append_left (List.getElem?_eq_some_iff.1 h).1]; exact h
  exact ⟨k1 h.at', h.pt, fun C hC => by obtain ⟨k, h1, h2⟩ := h.kid C hC; exact ⟨k, h1, k1 h2⟩⟩
/-- the one above node i -/
def Ab (fs : List BS) (L : List (Int × BS)) (i : Nat) (up : Int) (P : BS) : Prop := ∃ p u Q, up = ((p : Nat) : Int) ∧ p < i ∧ L[p]? = some (u, Q) ∧ P ∈ subs fs Q
theorem Ab.app {i : Nat} {L M : List (Int × BS)} {up : Int} {P : BS} (h : Ab fs L i up P) : Ab fs (L ++ M) i up P := by
  obtain ⟨p, u, Q, h1, h2, h3, h4⟩ := h
  exact ⟨p, u, Q, h1, h2, by rw [List.getElem?_append_left (List.getElem?_eq_some_iff.1 h3).1]; exact h3, h4⟩
/-- THE RECURSION'S LIST -/
theorem balL_ok (F : Fo fs T) : ∀ (f : Nat) (part : BS) (up : Int) (s : List (Int × BS)), Pt fs T part → card part ≤ f →
    ∃ seg, balL fs f part up s = s ++ seg ∧ seg.length = card part ∧ seg[0]? = some (up, part) ∧
      ∀ i x, seg[i]? = some x → BNd fs T (s ++ seg) (s.length + i) x.1 x.2 ∧ (0 < i → Ab fs (s ++ seg) (s.length + i) x.1 x.2) := by
  intro f
  induction f with
  | zero =>
    intro part up s h hc
    obtain ⟨k, hk⟩ := h.ne
    have := card_pos hk
    omega
  | succ f ih =>
    intro part up s h hc
    have hsc := subs_card F h
    -- through the parts
    have loop : ∀ (l : List BS) (m : List (Int × BS)), (∀ C ∈ l, C ∈ subs fs part) → (s ++ (up, part) :: m).length = (s ++ (up, part) :: m).length →
        ∃ seg, l.foldl (fun s' C => balL fs f C (s.length : Int) s') (s ++ (up, part) :: m) = s ++ (up, part) :: (m ++ seg) ∧ seg.length = (l.map card).sum ∧
          (∀ C ∈ l, ∃ k, s.length < k ∧ (s ++ (up, part) :: (m ++ seg))[k]? = some ((s.length : Int), C)) ∧
          ∀ i x, seg[i]? = some x → BNd fs T (s ++ (up, part) :: (m ++ seg)) (s.length + 1 + m.length + i) x.1 x.2 ∧ Ab fs (s ++ (up, part) :: (m ++ seg)) (s.length + 1 + m.length + i) x.1 x.2 := by
      intro l
      induction l with
      | nil =>
        intro m _ _
        exact ⟨[], by simp, rfl, by simp, fun i x hx => by simp at hx⟩
      | cons C l ihl =>
        intro m hl _
        have hCs := hl C (by simp)
        obtain ⟨hCp, hClt⟩ := h.step F hCs
        obtain ⟨seg1, e1, e2, e3, e4⟩ := ih C (s.length : Int) (s ++ (up, part) :: m) hCp (by omega)
        obtain ⟨seg2, g1, g2, g3, g4⟩ := ihl (m ++ seg1) (fun D hD => hl D (by simp [hD])) rfl
        have ea : s ++ (up, part) :: m ++ seg1 = s ++ (up, part) :: (m ++ seg1) := by simp
        have eb : s ++ (up, part) :: (m ++ (seg1 ++ seg2)) = (s ++ (up, part) :: (m ++ seg1)) ++ seg2 := by simp
        have ec : s ++ (up, part) :: (m ++ seg1 ++ seg2) = s ++ (up, part) :: (m ++ (seg1 ++ seg2)) := by simp
        have el : (s ++ (up, part) :: m).length = s.length + 1 + m.length := by simp; omega
        rw [ea, el] at e4
        rw [ea] at e1
        rw [ec] at g1 g3 g4
        refine ⟨seg1 ++ seg2, by rw [List.foldl_cons, e1, g1], by simp [e2, g2], fun D hD => ?_, fun i x hx => ?_⟩
        · rcases List.mem_cons.1 hD with rfl | hD
          · refine ⟨s.length + 1 + m.length, by omega, ?_⟩
            rw [eb, List.getElem?_append_left (by
              have := (List.getElem?_eq_some_iff.1 e3).1
              simp; omega)]
            have := (e4 0 _ e3).1.at'
            simpa using this
          · exact g3 D hD
        · by_cases hi : i < seg1.length
          · rw [List.getElem?_append_left hi] at hx
            obtain ⟨n1, n2⟩ := e4 i x hx
            rw [eb]
            refine ⟨n1.app, ?_⟩
            by_cases h0 : 0 < i
            · exact (n2 h0).app
            · obtain rfl : i = 0 := by omega
              rw [e3] at hx
              cases hx
              refine Ab.app ⟨s.length, up, part, rfl, by omega, by simp, hCs⟩
          · rw [List.getElem?_append_right (by omega)] at hx
            have := g4 (i - seg1.length) x hx
            rw [show s.length + 1 + (m ++ seg1).length + (i - seg1.length) = s.length + 1 + m.length + i by simp; omega] at this
            exact this
    obtain ⟨seg, l1, l2, l3, l4⟩ := loop (subs fs part) [] (fun C hC => hC) rfl
    simp only [List.nil_append, List.length_nil, Nat.add_zero] at l1 l3 l4
    refine ⟨(up, part) :: seg, by rw [balL]; exact l1, by rw [List.length_cons, l2]; omega, rfl, fun i x hx => ?_⟩
    cases i with
    | zero =>
      cases hx
      refine ⟨⟨by simp, h, fun C hC => ?_⟩, fun h => by omega⟩
      obtain ⟨k, k1, k2⟩ := l3 C hC
      exact ⟨k, by omega, k2⟩
    | succ i =>
      rw [List.getElem?_cons_succ] at hx
      have := l4 i x hx
      rw [show s.length + (i + 1) = s.length + 1 + i by omega]
      exact ⟨this.1, fun _ => this.2⟩
end
section
variable {fs : List BS} {T : Tr}
theorem balL_len (F : Fo fs T) {f : Nat} {part : BS} {up : Int} {s : List (Int × BS)} (h : Pt fs T part) (hc : card part ≤ f) : (balL fs f part up s).length = s.length + card part := by
  obtain ⟨seg, h1, h2, _⟩ := balL_ok F f part up s h hc
  rw [h1, List.length_append, h2]
def balK (fs : List BS) (f : Nat) (u : Int) (l : List BS) (s : List (Int × BS)) : List (Int × BS) := l.foldl (fun s' C => balL fs f C u s') s
theorem balK_len (F : Fo fs T) {f : Nat} {u : Int} : ∀ (l : List BS) (s : List (Int × BS)), (∀ C ∈ l, Pt fs T C ∧ card C ≤ f) → (balK fs f u l s).length = s.length + (l.map card).sum
  | [], s, _ => by simp [balK]
  | C :: l, s, h => by
    have h1 := h C (by simp)
    rw [balK, List.foldl_cons]
    have := balK_len (u := u) F l (balL fs f C u s) fun D hD => h D (by simp [hD])
    rw [balK] at this
    rw [this, balL_len F h1.1 h1.2, List.map_cons, List.sum_cons]
    omega
theorem balK_succ (fs : List BS) (f : Nat) (u : Int) (l : List BS) (s : List (Int × BS)) {k : Nat} {C : BS} (h : l[k]? = some C) : balK fs f u (l.take (k + 1)) s = balL fs f C u (balK fs f u (l.take k) s) := by
  rw [balK, List.take_add_one, h, List.foldl_append]; rfl
theorem sum_take_le (l : List BS) (k : Nat) : ((l.take k).map card).sum ≤ (l.map card).sum := by
  conv => rhs; rw [← List.take_append_drop k l, List.map_append, List.sum_append]
  omega
theorem sum_take_succ {l : List BS} {k : Nat} {C : BS} (h : l[k]? = some C) : ((l.take (k + 1)).map card).sum = ((l.take k).map card).sum + card C := by
  rw [List.take_add_one, h, List.map_append, List.sum_append]; simp
end
/-- the new bag of a part -/
def hasTo (t : List (Int × BS)) (c : Nat) (s : List Nat) : BS := s.foldl (fun h n => h ||| (bg t n).2) (bg t c).2
def hasB (fs : List BS) (t : List (Int × BS)) (part : BS) : BS := hasTo t (splitter fs part) (elems (outM fs part))
def bagOf (fs : List BS) (t : List (Int × BS)) (x : Int × BS) : Int × BS := (x.1, hasB fs t x.2)
def atOf (fs : List BS) (x : Int × BS) : Int := ((splitter fs x.2 : Nat) : Int)
theorem hasTo_app (t : List (Int × BS)) (c : Nat) (s : List Nat) (x : Nat) : hasTo t c (s ++ [x]) = hasTo t c s ||| (bg t x).2 := by
  rw [hasTo, List.foldl_append]; rfl
end Go.Mono

namespace Go.Mono
open Go Go.Proofs Go.RowKit

theorem comp_spec2 {G : Nat → Prop} {T : Tr} {fs : List BS} (F : Fo fs T) (p : Nat) (inn : BS) (fv : Value) (W : World) (hT : Tab W) (h : (Dv (slE setE) G fs).p fv W) (hin : ∀ i, inn.getLsbD i = true → i < T.n) (hp : inn.getLsbD p = true) :
    Calls Tryz.prog 118 #[fv, I (p : Nat), setV inn] W (Post (E (setV (compB fs inn p))) W) :=
  comp_spec fs p inn _ (1 + fs.length) fv W hT h (comp_some F hin hp).1 (by have := F.le; have := F.len; omega) (by rw [F.len]; exact hin p hp) (fun j hj => F.lt hj) (by have := F.le; have := F.len; omega)

/-- where the loop over the parts stands -/
structure SPJ {T : Tr} (G : Nat → Prop) (W : World) (fs : List BS) (fv : Value) (b8 : Nat) (res : List BS) (r : Nat) (a : Act) (w : World) : Prop where
  ex : ∃ (L : BS) (xs rest : List BS) (u : Value), splitF fs r L = some rest ∧ xs ++ rest = res ∧ (∀ i, L.getLsbD i = true → i < T.n) ∧ FrD 38 [] a w [(0, E fv), (7, E u), (8, E (.pointer (some ⟨b8, 0, none⟩))), (9, E (I ((minOf L).getD 0 : Nat))), (10, E (B (minOf L).isSome))] ∧
    (Ext W w ∧ Tab w ∧ (Dv (slE setE) (GB W Go.Mono.G0) fs).p fv w) ∧ Blk w b8 (setC L) 67 ∧ u.ownBlock ≠ some b8 ∧ OwR setE 67 W.heap.size G w xs u

theorem split_spec {G G2 : Nat → Prop} {T : Tr} {fs : List BS} (F : Fo fs T) (part : BS) (p : Int) (fv : Value) (W : World) (hT : Tab W) (h : (Dv (slE setE) G2 fs).p fv W) (hin : ∀ i, part.getLsbD i = true → i < T.n) (hG : ∀ b, G b → b < W.heap.size) :
    Calls Tryz.prog 60 #[fv, setV part, I p] W (Post (Dv (slE setE) G (partsB fs (del part p))) W) := by
  have HV : (Dv (slE setE) (GB W Go.Mono.G0) fs).p fv W := Dv.toB (Dv.weak h fun b _ hb => hb.elim)
  clear h
  have hT0 := hT.lt
  have hdin := del_in hin p
  obtain ⟨hres, hrl, _, _⟩ := parts_some F hdin
  have hcn := card_le_n hdin
  have hle := F.le
  generalize hresE : partsB fs (del part p) = res at *
  refine enter (args := [fv, setV part, I p]) (As := [E fv, E (setV part), E (I p)]) Tryz.func60 rfl Tryz.ntmps60 (Nat.le_of_ble_eq_true rfl) ?_ (fun a hf => ?_) (Nat.le_of_ble_eq_true rfl)
  rotate_left
  dsimp only [params, Nat.reduceAdd] at hf
  rotate_right
  · exact arg3 rfl rfl rfl
  have e := Ext.rfl' W
  repeat refine seq ?_
  refine regn0 ?_
  refine tl_box hf rfl (by decide) fun a b4 w v4 hv4 e' hb4 hs4 B4 hf => ?_
  have hle4 := Nat.le_trans e.size (Nat.le_of_eq hb4.symm)
  replace hT := hT.ext e'
  replace HV := Dv.ex HV e'
  replace e := Ext.tr e e'
  clear e'
  refine tl_as hf rfl (by decide) fun a hf => ?_
  refine tl_nil ?_
  cases hv4
  replace B4 : Blk w b4 (setC part) 67 := B4
  replace hf := hf.keep [0, 2, 4]
  dsimp only [keep, List.filterMap, look, Nat.beq, Option.map] at hf
  repeat refine seq ?_
  refine regn0 ?_
  refine tl_as hf rfl (by decide) fun a hf => ?_
  refine tl_nil ?_
  repeat refine seq ?_
  refine regn 3 hf (by decide +kernel) ?_
  refine st (ldW T67 rfl (by assumption) rfl) ?_
  refine st (mv rfl) ?_
  refine st (call2 En117 rfl rfl (fun v u w he h h' => by cases h; cases h'; exact without_spec _ _ w)) ?_
  refine en fun a w e' hf => ?_
  replace hT := hT.ext e'
  replace HV := Dv.ex HV e'
  replace e := Ext.tr e e'
  replace B4 := B4.ext e'
  clear e'
  refine tl_alloc I67 hf (by decide) fun a b8 w e' hb8 hs8 B8 hf => ?_
  have hle8 := Nat.le_trans e.size (Nat.le_of_eq hb8.symm)
  have lt8_B4 := B4.lt
  replace hT := hT.ext e'
  replace HV := Dv.ex HV e'
  replace e := Ext.tr e e'
  replace B4 := B4.ext e'
  clear e'
  haveI hinr : ∀ G0, InR (GB W G0) (some b8) := fun G0 => InR.gb (by omega)
  refine tl_stW T67 hf rfl rfl (wordsC_one _) B8 rfl (rfl) fun w hg hsz B8 hf => ?_
  replace hT := hT.gr hg (by omega)
  replace HV := Dv.gr HV hg (.inr (by omega))
  replace e := e.gr hg (by omega)
  replace B4 := B4.gr hg (by omega)
  clear hg
  refine tl_nil ?_
  replace B8 : Blk w b8 (setC (del part p)) 67 := B8
  replace hf := hf.keep [0, 7, 8]
  dsimp only [keep, List.filterMap, look, Nat.beq, Option.map] at hf
  have hW8 : W.heap.size ≤ b8 := by omega
  repeat refine seq ?_
  refine regn 5 hf (by decide +kernel) ?_
  refine st (ldW T67 rfl (by assumption) rfl) ?_
  refine st (call1 En114 rfl (fun v w he h => by cases h; exact min_spec _ w (hT.ext he))) ?_
  refine st (mv rfl) ?_
  refine st (ext_ rfl rfl) ?_
  refine st (ext_ rfl rfl) ?_
  refine en fun a w e' hf => ?_
  replace hT := hT.ext e'
  replace HV := Dv.ex HV e'
  replace e := Ext.tr e e'
  replace B8 := B8.ext e'
  clear e'
  refine tl_as hf rfl (by decide) fun a hf => ?_
  refine tl_as hf rfl (by decide) fun a hf => ?_
  refine tl_nil ?_
  have Ho : OwR setE 67 W.heap.size G w [] (.slice none 0 0) := OwR.nil setE _ e.size hG
  replace hf := hf.keep [0, 7, 8, 9, 10]
  dsimp only [keep, List.filterMap, look, Nat.beq, Option.map] at hf
  repeat refine seq ?_
  refine blk (loopN (fun r a w => SPJ (T := T) G W fs fv b8 res r a w) (1 + fs.length) ⟨del part p, [], res, _, hres, rfl, hdin, hf, ⟨e, hT, HV⟩, B8, (by simp [Value.ownBlock]), Ho⟩ ?_)
  clear hf e hT HV B8 Ho hres hdin hcn
  rintro r a w ⟨L, xs, rest, u, hr, hxs, hL, hf, ⟨e, hT, HV⟩, B8, hov, Ho⟩
  have hxl : xs.length ≤ 1024 := by
    have h1 := congrArg List.length hxs
    rw [List.length_append] at h1
    have h2 := card_le_n (S := del part p) (n := 1024) fun i hi => bit_lt hi
    omega
  repeat refine seq ?_
  refine regn 1 hf (by decide +kernel) ?_
  refine st (mv rfl) ?_
  refine en fun a w e' hf => ?_
  replace hT := hT.ext e'
  replace HV := Dv.ex HV e'
  replace e := Ext.tr e e'
  replace B8 := B8.ext e'
  replace Ho := Ho.ext e'
  clear e'
  refine tl_nil ?_
  cases hm : minOf L with
  | none =>
    rw [hm] at hf
    repeat refine seq ?_
    refine ifc hf rfl (fun h => by cases h) (fun _ => ?_)
    refine wexit ?_
    simp only [Exit.then, Exit.inBlock, ↓reduceIte]
    repeat refine seq ?_
    refine regn 1 hf (by decide +kernel) ?_
    refine st (mv rfl) ?_
    refine en fun a w e' hf => ?_
    replace hT := hT.ext e'
    replace HV := Dv.ex HV e'
    replace e := Ext.tr e e'
    replace B8 := B8.ext e'
    replace Ho := Ho.ext e'
    clear e'
    refine tl_as hf rfl (by decide) fun a hf => ?_
    refine tl_nil ?_
    rw [splitF_nil hm] at hr
    cases hr
    rw [List.append_nil] at hxs
    subst hxs
    refine wret ?_
    try simp only [Exit.then, Exit.inBlock]
    refine ret1 rfl hf rfl ?_
    rintro _ rfl
    exact ⟨_, rfl, e, Ho.sl⟩
  | some k =>
    rw [hm] at hf
    have hkL := minOf_mem hm
    obtain ⟨r', rfl⟩ : ∃ r', r = r' + 1 := by
      cases r with
      | zero => rw [splitF_zero hm] at hr; cases hr
      | succ r' => exact ⟨r', rfl⟩
    rw [splitF_cons hm] at hr
    obtain ⟨rest', hr', rfl⟩ : ∃ rest', splitF fs r' (L &&& ~~~compB fs L k) = some rest' ∧ rest = compB fs L k :: rest' := by
      cases hx : splitF fs r' (L &&& ~~~compB fs L k) with
      | none => rw [hx] at hr; cases hr
      | some l => rw [hx] at hr; cases hr; exact ⟨l, rfl, rfl⟩
    clear hr
    generalize hC : compB fs L k = C at *
    repeat refine seq ?_
    refine ifc hf rfl (fun _ => ?_) (fun h => by cases h)
    refine wskip ?_
    try simp only [Exit.then, Exit.inBlock, ↓reduceIte]
    repeat refine seq ?_
    refine blk ?_
    replace hf := hf.keep [0, 7, 8, 9]
    dsimp only [keep, List.filterMap, look, Nat.beq, Option.map] at hf
    repeat refine seq ?_
    refine regn 4 hf (by decide +kernel) ?_
    refine st (mv rfl) ?_
    refine st (mv rfl) ?_
    refine st (ldW T67 rfl B8 rfl) ?_
    refine st (call3 (A := E (setV C)) En118 rfl rfl rfl (fun v u s w he h h' h'' => by cases h; cases h'; cases h''; rw [← hC]; exact comp_spec2 F k L fv w (hT.ext he) (Dv.ex HV he) hL hkL)) ?_
    refine en fun a w e' hf => ?_
    replace hT := hT.ext e'
    replace HV := Dv.ex HV e'
    replace e := Ext.tr e e'
    replace B8 := B8.ext e'
    replace Ho := Ho.ext e'
    clear e'
    refine tl_alloc I67 hf (by decide) fun a b11 w e' hb11 hs11 B11 hf => ?_
    have hle11 := Nat.le_trans e.size (Nat.le_of_eq hb11.symm)
    have ne11_Ho := Ho.ne_new hb11
    have lt11_B8 := B8.lt
    replace hT := hT.ext e'
    replace HV := Dv.ex HV e'
    replace e := Ext.tr e e'
    replace B8 := B8.ext e'
    replace Ho := Ho.ext e'
    clear e'
    haveI hinr : ∀ G0, InR (GB W G0) (some b11) := fun G0 => InR.gb (by omega)
    refine tl_stW T67 hf rfl rfl (wordsC_one _) B11 rfl (rfl) fun w hg hsz B11 hf => ?_
    replace hT := hT.gr hg (by omega)
    replace HV := Dv.gr HV hg (.inr (by omega))
    replace e := e.gr hg (by omega)
    replace B8 := B8.gr hg (by omega)
    replace Ho := Ho.gr hg (by assumption)
    clear hg
    refine tl_nil ?_
    replace B11 : Blk w b11 (setC C) 67 := B11
    have hov11 : u.ownBlock ≠ some b11 := ne11_Ho
    have n811 : b8 ≠ b11 := by omega
    replace hf := hf.keep [0, 7, 8, 11]
    dsimp only [keep, List.filterMap, look, Nat.beq, Option.map] at hf
    repeat refine seq ?_
    refine regn 3 hf (by decide +kernel) ?_
    refine st (mv rfl) ?_
    refine st (ldW T67 rfl B11 rfl) ?_
    refine st (bsl1 Tryz.underlying106 I67 rfl (by decide) rfl Ho.avs (isS rfl)) ?_
    refine en fun a w e' hf => ?_
    replace hT := hT.ext e'
    replace HV := Dv.ex HV e'
    replace e := Ext.tr e e'
    replace B8 := B8.ext e'
    replace B11 := B11.ext e'
    replace Ho := Ho.ext e'
    clear e'
    haveI hin : ∀ G0, InR (GB W G0) _ := OwR.inGB (W := W) Ho (Nat.le_refl _)
    refine tl_app Tryz.underlying106 I67 rfl rfl hf (by decide) rfl Ho (isR rfl) (by simp only [List.length_singleton]; omega) (by simp only [List.length_singleton, maxLen]; omega) fun a v w hg hat Hn hf => ?_
    replace e := e.gro hg (Ho.row (W := W) (Nat.le_refl _))
    have hrow := Ho.row (W := W) (Nat.le_refl _)
    replace hT := hT.gro hg (fun b hb => Nat.lt_of_lt_of_le hT0 (hrow b hb))
    replace HV := Dv.gro HV hg (fun b hb => .inr (hrow b hb))
    clear hrow
    have hov' := own_ne hat hov B8.lt
    have hov11' := own_ne hat hov11 B11.lt
    replace B8 := B8.gro hg (by assumption)
    replace B11 := B11.gro hg (by assumption)
    replace hov := hov'; clear hov'
    replace hov11 := hov11'; clear hov11'
    replace Ho := Hn; clear Hn hg hat hin
    refine tl_as hf rfl (by decide) fun a hf => ?_
    refine tl_nil ?_
    replace hf := hf.keep [0, 7, 8, 11]
    dsimp only [keep, List.filterMap, look, Nat.beq, Option.map] at hf
    repeat refine seq ?_
    refine regn 3 hf (by decide +kernel) ?_
    refine st (ldW T67 rfl B8 rfl) ?_
    refine st (ldW T67 rfl B11 rfl) ?_
    refine st (call2 En82 rfl rfl (fun v u w he h h' => by cases h; cases h'; exact minus_spec _ _ w)) ?_
    refine en fun a w e' hf => ?_
    replace hT := hT.ext e'
    replace HV := Dv.ex HV e'
    replace e := Ext.tr e e'
    replace B8 := B8.ext e'
    replace B11 := B11.ext e'
    replace Ho := Ho.ext e'
    clear e'
    haveI hinr : ∀ G0, InR (GB W G0) (some b8) := fun G0 => InR.gb (by omega)
    refine tl_stW T67 hf rfl rfl (wordsC_one _) B8 rfl (rfl) fun w hg hsz B8 hf => ?_
    replace hT := hT.gr hg (by omega)
    replace HV := Dv.gr HV hg (.inr (by omega))
    replace e := e.gr hg (by omega)
    replace B11 := B11.gr hg (by omega)
    replace Ho := Ho.gr hg (by assumption)
    clear hg
    refine tl_nil ?_
    try simp only [Exit.then, Exit.inBlock, ↓reduceIte]
    replace hf := hf.keep [0, 7, 8]
    dsimp only [keep, List.filterMap, look, Nat.beq, Option.map] at hf
    repeat refine seq ?_
    refine regn 5 hf (by decide +kernel) ?_
    refine st (ldW T67 rfl B8 rfl) ?_
    refine st (call1 En114 rfl (fun v w he h => by cases h; exact min_spec _ w (hT.ext he))) ?_
    refine st (mv rfl) ?_
    refine st (ext_ rfl rfl) ?_
    refine st (ext_ rfl rfl) ?_
    refine en fun a w e' hf => ?_
    replace hT := hT.ext e'
    replace HV := Dv.ex HV e'
    replace e := Ext.tr e e'
    replace B8 := B8.ext e'
    replace Ho := Ho.ext e'
    clear e'
    refine tl_as hf rfl (by decide) fun a hf => ?_
    refine tl_as hf rfl (by decide) fun a hf => ?_
    refine tl_nil ?_
    replace hf := hf.keep [0, 7, 8, 9, 10]
    dsimp only [keep, List.filterMap, look, Nat.beq, Option.map] at hf
    exact ⟨r', Nat.lt_succ_self _, L &&& ~~~C, xs ++ [C], rest', _, hr', by rw [List.append_assoc]; exact hxs, fun i hi => hL i ((bit_diff _ _ i).1 hi).1, hf, ⟨e, hT, HV⟩, B8, hov, Ho⟩
end Go.Mono
