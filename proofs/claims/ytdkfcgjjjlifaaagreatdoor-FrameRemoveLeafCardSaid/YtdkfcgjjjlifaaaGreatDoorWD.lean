/-
  Walks and plain facts, in this order: Range, Range2, Sets, Come, Down, Pop, Len, New, MonoV, Law45a, Known, Arg, MonoO, MonoG, Gr1, MonoH, Plain4, Fmodel, MonoU, MonoT, Equal, Remove, Cons, Attach.
  No condition.
-/
import Derived.Test.YtdkfcgjjjlifaaaGreatDoorWC
import Derived.RangeFuncRecord
import Derived.Test.YtdkfcgjjjlifaaaGreatDoorWB
import Derived.OpenShut
import Derived.Deep.Slices
import Derived.ChangeSame
set_option linter.unusedVariables false
set_option linter.unusedSimpArgs false
namespace Go.Mono
open Go Go.Proofs Go.RowKit

/-- the elements, ascending -/
def elems (S : BS) : List Nat := (List.range 1024).filter fun i => S.getLsbD i
theorem mem_elems {S : BS} {i : Nat} : i ∈ elems S ↔ i < 1024 ∧ S.getLsbD i = true := by simp [elems, List.mem_filter]
theorem elems_zero : elems 0 = [] := by
  refine List.filter_eq_nil_iff.2 fun i _ => by simp
theorem range_at (n k : Nat) (hk : k < n) : List.range n = List.range k ++ k :: (List.range (n - (k + 1))).map (fun i => k + 1 + i) := by
  have h1 : List.range n = List.range (k + (1 + (n - (k + 1)))) := congrArg List.range (by omega)
  rw [h1, List.range_add, List.range_add, List.map_append, List.map_map]
  simp [Function.comp, Nat.add_assoc]
theorem elems_min {S : BS} {k : Nat} (h : minOf S = some k) : elems S = k :: elems (del S k) := by
  obtain ⟨hk, hb, h0⟩ := minOf_some.1 h
  have hfit : fitsB (k : Int) = true := fitsB_iff.2 ⟨by omega, by omega⟩
  have hdel : ∀ i, (del S (k : Int)).getLsbD i = (S.getLsbD i && !decide (i = k)) := by
    intro i
    rw [del, if_pos hfit, BitVec.getLsbD_and, BitVec.getLsbD_not, Int.toNat_natCast, sgl_bit _ _ hk]
    by_cases hi : i < 1024
    · simp [hi]
    · simp [hi, BitVec.getLsbD_of_ge S i (by omega)]
  unfold elems
  rw [range_at 1024 k hk, List.filter_append, List.filter_append, List.filter_cons_of_pos (by simpa using hb), List.filter_cons_of_neg (by simp [hdel])]
  have z1 : (List.range k).filter (fun i => S.getLsbD i) = [] := List.filter_eq_nil_iff.2 fun i hi => by simpa using h0 i (List.mem_range.1 hi)
  have z2 : (List.range k).filter (fun i => (del S (k : Int)).getLsbD i) = [] := List.filter_eq_nil_iff.2 fun i hi => by simp [hdel, h0 i (List.mem_range.1 hi)]
  rw [z1, z2, List.nil_append, List.nil_append]
  refine congrArg (k :: ·) (List.filter_congr fun i hi => ?_)
  obtain ⟨j, _, rfl⟩ := List.mem_map.1 hi
  rw [hdel]
  simp
  omega
theorem elems_none {S : BS} (h : minOf S = none) : elems S = [] := by rw [minOf_none.1 h]; exact elems_zero

/-- a set's iterator, over the box b -/
def seqV (b : Nat) : Value := .func (.func 116) #[] #[.pointer (some ⟨b, 0, none⟩)]
/-- what All returns: boxes from n on -/
def SeqA (n : Nat) (S : BS) : VA := ⟨fun v w => ∃ b, n ≤ b ∧ v = seqV b ∧ Blk w b (setC S) 67, fun v w w' e ⟨b, h1, h2, h3⟩ => ⟨b, h1, h2, h3.ext e⟩⟩

theorem all_spec (S : BS) (W : World) : Calls Tryz.prog 58 #[setV S] W (Post (SeqA W.heap.size S) W) := by
  refine enter (args := [setV S]) (As := [E (setV S)]) Tryz.func58 rfl Tryz.ntmps58 (Nat.le_of_ble_eq_true rfl) ?_ (fun a hf => ?_) (Nat.le_of_ble_eq_true rfl)
  rotate_left
  dsimp only [params, Nat.reduceAdd] at hf
  rotate_right
  · exact arg1 rfl
  have e := Ext.rfl' W
  repeat refine seq ?_
  refine regn0 ?_
  refine tl_box hf rfl (by decide) fun a b1 w v1 hv1 e' hb1 hs1 B1 hf => ?_
  have hle1 := Nat.le_trans e.size (Nat.le_of_eq hb1.symm)
  replace e := Ext.tr e e'
  clear e'
  refine tl_as hf rfl (by decide) fun a hf => ?_
  refine tl_nil ?_
  subst hv1
  rw [setV_cells] at B1
  repeat refine seq ?_
  refine regn 1 hf (by decide +kernel) ?_
  refine st (makeF (vs := fun _ => .pointer (some ⟨b1, 0, none⟩)) (by intro x hx; simp at hx; subst hx; rfl)) ?_
  refine en fun a w e' hf => ?_
  replace e := Ext.tr e e'
  replace B1 := B1.ext e'
  clear e'
  refine tl_as hf rfl (by decide) fun a hf => ?_
  refine tl_nil ?_
  refine wret (ret1 rfl hf rfl ?_)
  rintro v rfl
  exact ⟨_, rfl, e, b1, hle1, by simp [seqV], B1⟩

/-! ### the iterator's own walk -/
/-- the machinery's blocks of a loop that begins at heap size B -/
def Hole (B b : Nat) : Prop := B ≤ b ∧ b < B + 3
/-- a step of the machinery: only its own blocks have turned -/
structure Kp (B : Nat) (w w' : World) : Prop where
  os : w'.os = w.os
  tape : w'.tape = w.tape
  output : w'.output = w.output
  size : w.heap.size ≤ w'.heap.size
  same : ∀ b, b < w.heap.size → ¬Hole B b → w'.heap[b]? = w.heap[b]?
/-- a step of a round: the machinery's blocks are as they were -/
structure Kh (B : Nat) (w w' : World) : Prop where
  size : w.heap.size ≤ w'.heap.size
  same : ∀ b, b < w.heap.size → Hole B b → w'.heap[b]? = w.heap[b]?
theorem Kp.rfl' (B : Nat) (w : World) : Kp B w w := ⟨rfl, rfl, rfl, Nat.le_refl _, fun _ _ _ => rfl⟩
theorem Kp.tr {B : Nat} {a b c : World} (h : Kp B a b) (k : Kp B b c) : Kp B a c :=
  ⟨k.os.trans h.os, k.tape.trans h.tape, k.output.trans h.output, Nat.le_trans h.size k.size, fun x hx hh => (k.same x (Nat.lt_of_lt_of_le hx h.size) hh).trans (h.same x hx hh)⟩
theorem Kp.ext {B : Nat} {w w' : World} (e : Ext w w') : Kp B w w' := ⟨e.os, e.tape, e.output, e.size, fun b hb _ => e.block b hb⟩
theorem Kp.gr {B b : Nat} {w w' : World} (h : w.grownBy w' (some b)) (hb : Hole B b) : Kp B w w' :=
  ⟨h.os, h.tape, h.output, h.size, fun x hx hh => h.block x hx (fun e => by cases e; exact hh hb)⟩
theorem Kp.put {B b : Nat} {w : World} {o : Obj} (hb : Hole B b) : Kp B w (w.putObj b o) :=
  ⟨rfl, rfl, rfl, by simp, fun x hx hh => World.putObj_heap_other (fun e => by subst e; exact hh hb)⟩
theorem Kh.rfl' (B : Nat) (w : World) : Kh B w w := ⟨Nat.le_refl _, fun _ _ _ => rfl⟩
theorem Kh.tr {B : Nat} {a b c : World} (h : Kh B a b) (k : Kh B b c) : Kh B a c := ⟨Nat.le_trans h.size k.size, fun x hx hh => (k.same x (Nat.lt_of_lt_of_le hx h.size) hh).trans (h.same x hx hh)⟩
theorem Kh.ext {B : Nat} {w w' : World} (e : Ext w w') : Kh B w w' := ⟨e.size, fun b hb _ => e.block b hb⟩
theorem Kh.gr {B b : Nat} {w w' : World} (h : w.grownBy w' (some b)) (hb : ¬Hole B b) : Kh B w w' := ⟨h.size, fun x hx hh => h.block x hx (fun e => by cases e; exact hb hh)⟩
theorem Ext.kp {B : Nat} {W w w' : World} (e : Ext W w) (k : Kp B w w') (h : W.heap.size ≤ B) : Ext W w' :=
  Below.trans e ⟨k.os, k.tape, k.output, k.size, fun b hb => k.same b (Nat.lt_of_lt_of_le hb e.size) (fun hh => by have := hh.1; omega)⟩
theorem Blk.kp {B b : Nat} {w w' : World} {cs : Array Value} {t : TypeId} (h : Blk w b cs t) (k : Kp B w w') (hb : ¬Hole B b) : Blk w' b cs t := (k.same b h.lt hb).trans h
theorem Blk.kh {B b : Nat} {w w' : World} {cs : Array Value} {t : TypeId} (h : Blk w b cs t) (k : Kh B w w') (hb : Hole B b) : Blk w' b cs t := (k.same b h.lt hb).trans h
theorem Tab.kp {B : Nat} {w w' : World} (h : Tab w) (k : Kp B w w') (hB : 0 < B) : Tab w' := fun i hi =>
  (World.cell?_of_block (k.same 0 h.lt (fun hh => by have := hh.1; omega))).trans (h i hi)

/-- a call of yield, behind all others -/
theorem tl_y {P : Program} {L : Env} {ty : TypeId} {pos : String} {aft : Array Edge} {r : Option Nat} {ds : List Deferred} {ops : Array Oper} {rest : List Oper} {Q : Exit → Act → World → Prop} {n : Nat} {a : Act} {w : World} {x y : Operand} {tys : Array TypeId} {d l : Nat} {v : Value}
    {R : Value → World → Prop} (hf : FrD n ds a w L) (hx : opd L x = some (E (.func (.yield l) #[] #[]))) (hy : opd L y = some (E v))
    (h : ∃ fn tmps assign body, (Instr.yield l #[v]).run P w = .ok (.round l fn tmps assign body) w ∧ RoundIn Fence.wide 0 P l fn tmps assign body w (fun e w2 => ∃ u, e = .returned u ∧ R u w2))
    (k : ∀ u w2, R u w2 → wpListIn (FW r) 0 P ops Q rest (a.put (some d) u) w2) :
    wpListIn (FW r) 0 P ops Q (⟨some d, .call ⟨.value x, #[y], tys⟩, ty, pos, aft, none⟩ :: rest) a w :=
  wpListIn_plain rfl fun K hK => by
    obtain ⟨fn, tmps, assign, body, hrun, hR⟩ := h
    have hxv : a.eval x = .func (.yield l) #[] #[] := hf.opd x _ hx
    have hyv : a.eval y = v := hf.opd y _ hy
    refine OpR.wp (R := R) ?_ (fun u w2 hu => hK _ _ (k u w2 hu))
    simp [OpR, execOp, resolve, hxv, hyv, Deferred.ofValue, invoke, hrun]
    exact hR

/-- between two rounds: s has come; the iterator is at a world that the rounds' own word I holds of -/
theorem iter_spec (S : BS) (l b B0 : Nat) (W : World) (I : List Nat → World → Prop) (X : World → Prop) (hT : Tab W) (hb : Blk W b (setC S) 67) (hB : b < B0) (hBW : B0 ≤ W.heap.size) (hW3 : W.heap.size < B0 + 3) (h0 : I [] W)
    (hI : ∀ (s : List Nat) (w w' : World), I s w → Kp B0 w w' → W.heap.size ≤ w.heap.size → (∀ x, x < W.heap.size → w'.heap[x]? = w.heap[x]?) → I s w')
    (hX : ∀ w w', X w → Ext w w' → X w')
    (hE : ∀ s w, I s w → Tab w)
    (hy : ∀ (s : List Nat) (x : Nat) (rest : List Nat) (w : World), elems S = s ++ x :: rest → I s w → W.heap.size < w.heap.size → ∃ fn tmps assign body, (Instr.yield l #[Mono.I x]).run Tryz.prog w = .ok (.round l fn tmps assign body) w ∧
      RoundIn Fence.wide 0 Tryz.prog l fn tmps assign body w (fun e w2 => ∃ u, e = .returned u ∧ ((u = .bool true ∧ I (s ++ [x]) w2 ∧ w.heap.size ≤ w2.heap.size ∧ w2.heap[W.heap.size]? = w.heap[W.heap.size]?) ∨ (u = .bool false ∧ X w2)))) :
    Calls Tryz.prog 116 #[.func (.yield l) #[] #[], .pointer (some ⟨b, 0, none⟩)] W (fun e w' => e = .returned (.tuple #[]) ∧ (I (elems S) w' ∨ X w')) := by
  refine enter (args := [.func (.yield l) #[] #[], .pointer (some ⟨b, 0, none⟩)]) (As := [E (.func (.yield l) #[] #[]), E (.pointer (some ⟨b, 0, none⟩))]) Tryz.func116 rfl Tryz.ntmps116 (Nat.le_of_ble_eq_true rfl) ?_ (fun a hf => ?_) (Nat.le_of_ble_eq_true rfl)
  rotate_left
  dsimp only [params, Nat.reduceAdd] at hf
  rotate_right
  · exact arg2 rfl rfl
  have e := Ext.rfl' W
  repeat refine seq ?_
  refine regn0 ?_
  refine tl_ldW T67 hf rfl hb (setC_size _) (by decide) fun a hf => ?_
  refine tl_alloc I67 hf (by decide) fun a b3 w e' hb3 hs3 B3 hf => ?_
  have hle3 := Nat.le_trans e.size (Nat.le_of_eq hb3.symm)
  replace e := Ext.tr e e'
  replace hb := hb.ext e'
  clear e'
  haveI hinr : ∀ G0, InR (GB W G0) (some b3) := fun G0 => InR.gb (by omega)
  refine tl_stW T67 hf rfl rfl (wordsC_one _) B3 rfl (rfl) fun w hg hsz B3 hf => ?_
  replace e := e.gr hg (by omega)
  replace hb := hb.gr hg (by omega)
  clear hg
  refine tl_nil ?_
  have k0 : I [] w := hI [] W w h0 (Kp.ext ⟨e.os, e.tape, e.output, e.size, e.block⟩) (Nat.le_refl _) (fun x hx => e.block x hx)
  obtain rfl : b3 = W.heap.size := by omega
  have hlt3 : W.heap.size < w.heap.size := by omega
  clear hb hT
  have hT := hE _ _ k0
  clear e
  repeat refine seq ?_
  refine regn 5 hf (by decide +kernel) ?_
  refine st (ldW T67 rfl (by assumption) rfl) ?_
  refine st (call1 En114 rfl (fun v w' e' h => by cases h; exact min_spec S w' (hT.ext e'))) ?_
  refine st (mv rfl) ?_
  refine st (ext_ rfl rfl) ?_
  refine st (ext_ rfl rfl) ?_
  refine en fun a w e' hf => ?_
  replace hT := hE _ _ k0
  replace k0 := hI _ _ _ k0 (Kp.ext e') (by omega) (fun x hx => e'.block x (by omega))
  replace hlt3 := Nat.lt_of_lt_of_le hlt3 e'.size
  replace B3 := B3.ext e'
  clear e'
  refine tl_as hf rfl (by decide) fun a hf => ?_
  refine tl_as hf rfl (by decide) fun a hf => ?_
  refine tl_nil ?_
  replace hf := hf.keep [0, 3, 4, 5]
  dsimp only [keep, List.filterMap, look, Nat.beq, Option.map] at hf
  repeat refine seq ?_
  refine blk (loopN (fun r a w => ∃ (T : BS) (s : List Nat), r = (elems T).length ∧ elems S = s ++ elems T ∧ Fr 25 a w [(0, E (.func (.yield l) #[] #[])), (3, E (.pointer (some ⟨W.heap.size, 0, none⟩))), (4, E (Mono.I ((minOf T).getD 0 : Nat))), (5, E (B (minOf T).isSome))] ∧
    I s w ∧ Blk w W.heap.size (setC T) 67 ∧ W.heap.size < w.heap.size) (elems S).length ⟨S, [], Eq.refl (elems S).length, (List.nil_append _).symm, hf, k0, B3, hlt3⟩ ?_)
  clear hf k0 B3 hlt3 hT
  rintro r a w ⟨T, s, hr, hs, hf, k0, B3, hlt3⟩
  have hT := hE _ _ k0
  cases hm : minOf T with
  | none =>
    rw [hm] at hf
    repeat refine seq ?_
    refine regn 1 hf (by decide +kernel) ?_
    refine st (mv rfl) ?_
    refine en fun a w e' hf => ?_
    replace hT := hE _ _ k0
    replace k0 := hI _ _ _ k0 (Kp.ext e') (by omega) (fun x hx => e'.block x (by omega))
    replace hlt3 := Nat.lt_of_lt_of_le hlt3 e'.size
    replace B3 := B3.ext e'
    clear e'
    refine tl_nil ?_
    repeat refine seq ?_
    refine ifc hf rfl (fun h => by cases h) (fun _ => wexit ?_)
    simp only [Exit.then, Exit.inBlock, ↓reduceIte]
    rw [elems_none hm, List.append_nil] at hs
    exact ret0n rfl hf ⟨rfl, .inl (hs ▸ k0)⟩
  | some k =>
    rw [hm] at hf
    have he := elems_min hm
    repeat refine seq ?_
    refine regn 1 hf (by decide +kernel) ?_
    refine st (mv rfl) ?_
    refine en fun a w e' hf => ?_
    replace hT := hE _ _ k0
    replace k0 := hI _ _ _ k0 (Kp.ext e') (by omega) (fun x hx => e'.block x (by omega))
    replace hlt3 := Nat.lt_of_lt_of_le hlt3 e'.size
    replace B3 := B3.ext e'
    clear e'
    refine tl_nil ?_
    repeat refine seq ?_
    refine ifc hf rfl (fun _ => wskip ?_) (fun h => by cases h)
    repeat refine seq ?_
    refine blk ?_
    repeat refine seq ?_
    refine regn 2 hf (by decide +kernel) ?_
    refine st (mv rfl) ?_
    refine st (mv rfl) ?_
    refine en fun a w e' hf => ?_
    replace hT := hE _ _ k0
    replace k0 := hI _ _ _ k0 (Kp.ext e') (by omega) (fun x hx => e'.block x (by omega))
    replace hlt3 := Nat.lt_of_lt_of_le hlt3 e'.size
    replace B3 := B3.ext e'
    clear e'
    refine tl_y hf rfl rfl (hy s k (elems (del T k)) w (by rw [hs, he]) k0 hlt3) fun u w2 hu => ?_
    rcases hu with ⟨rfl, kI, hsz, hrb⟩ | ⟨rfl, kX⟩
    · replace hf := (hf.pure w2).put (d := some 20) (Ext.rfl' _) (by rintro _ ⟨⟩; decide) (A := E (.bool true)) rfl
      dsimp only [push] at hf
      replace k0 := kI
      replace B3 : Blk w2 W.heap.size (setC T) 67 := hrb.trans B3
      replace hlt3 := Nat.lt_of_lt_of_le hlt3 hsz
      clear kI hrb hT
      refine tl_op hf (by decide) (notp rfl) fun a w e' hf => ?_
      replace hT := hE _ _ k0
      replace k0 := hI _ _ _ k0 (Kp.ext e') (by omega) (fun x hx => e'.block x (by omega))
      replace hlt3 := Nat.lt_of_lt_of_le hlt3 e'.size
      replace B3 := B3.ext e'
      clear e'
      refine tl_nil ?_
      repeat refine seq ?_
      refine ifc hf rfl (fun h => by cases h) (fun _ => wskip ?_)
      replace hf := hf.keep [0, 3, 4]
      dsimp only [keep, List.filterMap, look, Nat.beq, Option.map] at hf
      repeat refine seq ?_
      refine regn 2 hf (by decide +kernel) ?_
      refine st (ldW T67 rfl (by assumption) rfl) ?_
      refine st (mv rfl) ?_
      refine en fun a w e' hf => ?_
      replace hT := hE _ _ k0
      replace k0 := hI _ _ _ k0 (Kp.ext e') (by omega) (fun x hx => e'.block x (by omega))
      replace hlt3 := Nat.lt_of_lt_of_le hlt3 e'.size
      replace B3 := B3.ext e'
      clear e'
      refine tl_op hf (by decide) (call2 En117 rfl rfl (fun v u w' e' h h' => by cases h; cases h'; exact without_spec T k w')) fun a w e' hf => ?_
      replace hT := hE _ _ k0
      replace k0 := hI _ _ _ k0 (Kp.ext e') (by omega) (fun x hx => e'.block x (by omega))
      replace hlt3 := Nat.lt_of_lt_of_le hlt3 e'.size
      replace B3 := B3.ext e'
      clear e'
      refine tl_stW T67 hf rfl rfl (wordsC_one _) B3 rfl (rfl) fun w hg hsz B3 hf => ?_
      replace hT := hE _ _ k0
      replace k0 := hI _ _ _ k0 (Kp.gr hg ⟨hBW, hW3⟩) (by omega) (fun x hx => hg.block x (by omega) (by simp; omega))
      replace hlt3 := Nat.lt_of_lt_of_le hlt3 hg.size
      clear hg
      refine tl_nil ?_
      replace hf := hf.keep [0, 3]
      dsimp only [keep, List.filterMap, look, Nat.beq, Option.map] at hf
      have hT := hE _ _ k0
      repeat refine seq ?_
      refine regn 5 hf (by decide +kernel) ?_
      refine st (ldW T67 rfl (by assumption) rfl) ?_
      refine st (call1 En114 rfl (fun v w' e' h => by cases h; exact min_spec _ w' (hT.ext e'))) ?_
      refine st (mv rfl) ?_
      refine st (ext_ rfl rfl) ?_
      refine st (ext_ rfl rfl) ?_
      refine en fun a w e' hf => ?_
      replace hT := hE _ _ k0
      replace k0 := hI _ _ _ k0 (Kp.ext e') (by omega) (fun x hx => e'.block x (by omega))
      replace hlt3 := Nat.lt_of_lt_of_le hlt3 e'.size
      replace B3 := B3.ext e'
      clear e'
      refine tl_as hf rfl (by decide) fun a hf => ?_
      refine tl_as hf rfl (by decide) fun a hf => ?_
      refine tl_nil ?_
      replace hf := hf.keep [0, 3, 4, 5]
      dsimp only [keep, List.filterMap, look, Nat.beq, Option.map] at hf
      refine ⟨(elems (del T k)).length, by rw [hr, he]; exact Nat.lt_succ_self _, del T k, s ++ [k], Eq.refl (elems (del T k)).length, by rw [hs, he, List.append_assoc]; exact congrArg (s ++ ·) (List.singleton_append).symm, hf, k0, B3, hlt3⟩
    · replace hf := (hf.pure w2).put (d := some 20) (Ext.rfl' _) (by rintro _ ⟨⟩; decide) (A := E (.bool false)) rfl
      dsimp only [push] at hf
      refine tl_op hf (by decide) (notp rfl) fun a w e' hf => ?_
      replace kX := hX _ _ kX e'
      clear e'
      refine tl_nil ?_
      repeat refine seq ?_
      refine ifc hf rfl (fun _ => ?_) (fun h => by cases h)
      refine wret ?_
      simp only [Exit.then, Exit.inBlock]
      exact ret0 rfl hf ⟨rfl, .inr kX⟩
end Go.Mono

namespace Go.Mono
open Go Go.Proofs Go.RowKit

/-- what a round's body must come to -/
def Rd (J : List Nat → World → Prop) (X : Exit → World → Prop) (s : List Nat) (x B : Nat) (w3 : World) : Exit → Act → World → Prop
  | .normal, _, w => J (s ++ [x]) w ∧ Kh B w3 w
  | .ret, _, w => X .ret w ∧ Kh B w3 w
  | .exit id, _, w => X (.exit id) w ∧ Kh B w3 w
  | _, _, _ => False

def codeOf : Exit → Option Code
  | .ret => some .ret
  | .exit id => some (.exit id)
  | _ => none

section
variable {g : Operand} {p : Nat} {assign body : Code} {Q : Exit → Act → World → Prop} {n b : Nat} {ds : List Deferred} {a : Act} {w : World} {S : BS} {L : Env} {r : Option Nat}

theorem range_core [PureL L] {l : Nat} {mark : List Deferred} {df : Nat} {D : Option Nat} (hf : FrD n ds a w L) (hx : opd L g = some (E (seqV b))) (hb : Blk w b (setC S) 67) (hp : p < n)
    (J : List Nat → World → Prop) (X : Exit → World → Prop)
    (henter : ∀ fn, ∃ W1, (Instr.enterLoop fn a.tmps #[p] assign body r).run Tryz.prog w = .ok (l, mark) W1 ∧ W1.heap[l]? = some (.loop { state := .ready, pending := none, fn, tmps := a.tmps, params := #[p], assign, body, defers := df }) ∧ Ext w W1 ∧
      W1.heap.size ≤ w.heap.size + 2 ∧ w.heap.size ≤ l ∧ ∀ d, D = some d → W1.heap[d]? = some (.deferred (some [])) ∧ d ≠ l ∧ w.heap.size ≤ d)
    (hT : ∀ s w1, J s w1 → Tab w1) (h0 : J [] w)
    (hJ : ∀ s w1 w2, J s w1 → w.heap.size ≤ w1.heap.size → Kp w.heap.size w1 w2 → J s w2)
    (hX : ∀ e w1 w2, X e w1 → w.heap.size ≤ w1.heap.size → Kp w.heap.size w1 w2 → X e w2)
    (hbody : ∀ (l s x) (rest : List Nat) (a1 : Act) (w1 : World), elems S = s ++ x :: rest → J s w1 → w.heap.size < w1.heap.size → FrD n [] a1 w1 ((p, E (I (x : Nat))) :: L) →
      assign.wpIn (FW (some l)) 0 Tryz.prog (Exit.then (fun a2 w2 => Kh w.heap.size w1 w2 ∧ ∀ w3, Kp w.heap.size w2 w3 → w3.heap.size = w2.heap.size → body.wpIn (FW (some l)) 0 Tryz.prog (Rd J X s x w.heap.size w3) a2 w3) (fun _ _ _ => False)) a1 w1)
    (hdone : ∀ a' w', FrD n (mark ++ ds) a' w' L → J (elems S) w' → w.heap.size ≤ w'.heap.size → (∀ d, D = some d → w'.heap[d]? = some (.deferred (some []))) → Q .normal a' w')
    (hexit : ∀ e c a' w', codeOf e = some c → FrD n (mark ++ ds) a' w' L → X e w' → w.heap.size ≤ w'.heap.size → (∀ d, D = some d → w'.heap[d]? = some (.deferred (some []))) → Q e a' w') :
    (Code.rangeFunc g #[p] assign body).wpIn (FW r) 0 Tryz.prog Q a w := by
  have hxv : a.eval g = seqV b := hf.opd g _ hx
  refine wpIn_rangeFunc fun fn _ => ?_
  obtain ⟨W1, hrun, hl, he, hsz, hwl, hD⟩ := henter fn
  have hlt : l < W1.heap.size := (Array.getElem?_eq_some_iff.1 hl).1
  have hres : (resolve a.eval (rangeCall g l) 0).run Tryz.prog W1 = .ok { target := .fn (.func 116) #[.pointer (some ⟨b, 0, none⟩)], args := #[.func (.yield l) #[] #[]] } W1 := by
    have hev : a.eval (.const (.func (.yield l) #[] #[])) = .func (.yield l) #[] #[] := rfl
    simp [resolve, hxv, hev, seqV, Deferred.ofValue]
  refine ⟨l, mark, W1, _, W1, 116, #[.func (.yield l) #[] #[], .pointer (some ⟨b, 0, none⟩)], W1, hrun, hres, fun _ _ => trivial, ?_, fun hd => (by simp [FW] at hd), ?_⟩
  · exact En116 _ W1
  generalize hrec : ({ state := .ready, pending := none, fn, tmps := a.tmps, params := #[p], assign, body, defers := df } : Loop) = rec0 at hl
  have hhole : Hole w.heap.size l := ⟨hwl, by omega⟩
  have hW3 : ∀ x, x < W1.heap.size → w.heap.size ≤ x → Hole w.heap.size x := fun x h1 h2 => ⟨h2, by omega⟩
  refine callsW r ((iter_spec S l b w.heap.size W1
    (fun s w1 => J s w1 ∧ W1.heap.size ≤ w1.heap.size ∧ w1.heap[l]? = some (.loop rec0) ∧ ∀ d, D = some d → w1.heap[d]? = some (.deferred (some [])))
    (fun w1 => ∃ e c, codeOf e = some c ∧ X e w1 ∧ W1.heap.size ≤ w1.heap.size ∧ w1.heap[l]? = some (.loop { rec0 with state := .done, pending := some c }) ∧ ∀ d, D = some d → w1.heap[d]? = some (.deferred (some [])))
    ((hT [] w h0).ext he) (hb.ext he) hb.lt he.size (by omega) ⟨hJ [] w W1 h0 (Nat.le_refl _) (Kp.ext he), Nat.le_refl _, hl, fun d hd => (hD d hd).1⟩ ?_ ?_ ?_ ?_).mono ?_)
  · rintro s w1 w2 ⟨j1, j2, j3, j4⟩ k hsz1 hsame
    refine ⟨hJ s w1 w2 j1 (Nat.le_trans he.size j2) k, Nat.le_trans j2 k.size, (hsame l hlt).trans j3, fun d hd => (hsame d ?_).trans (j4 d hd)⟩
    exact (Array.getElem?_eq_some_iff.1 (hD d hd).1).1
  · rintro w1 w2 ⟨e, c, x1, x2, x3, x4, x5⟩ k
    exact ⟨e, c, x1, hX e w1 w2 x2 (Nat.le_trans he.size x3) (Kp.ext k), Nat.le_trans x3 k.size, (k.block l (by omega)).trans x4, fun d hd => (k.block d (Array.getElem?_eq_some_iff.1 (x5 d hd)).1).trans (x5 d hd)⟩
  · rintro s w1 ⟨j1, _⟩
    exact hT s w1 j1
  · rintro s x rest w1 hs ⟨j1, j2, j3, j4⟩ hltW
    have hy := run_yield (P := Tryz.prog) (args := #[I (x : Nat)]) j3 (by subst hrec; rfl)
    have htm : (rec0.params.zip #[I (x : Nat)]).foldl (fun tmps (t, a) => tmps.setIfInBounds t a) rec0.tmps = a.tmps.setIfInBounds p (I (x : Nat)) := by
      subst hrec; simp
    have hfn : rec0.assign = assign ∧ rec0.body = body ∧ rec0.fn = fn ∧ rec0.state = .ready := by subst hrec; exact ⟨rfl, rfl, rfl, rfl⟩
    rw [htm, hfn.1, hfn.2.1] at hy
    refine ⟨_, _, _, _, hy, ?_⟩
    have hf0 : FrD n [] { tmps := a.tmps, defers := [] } w1 L := ⟨hf.size, rfl, fun t A ht => PureL.pu t A ht _ _ _ (hf.val t A ht)⟩
    have hf1 : FrD n [] { tmps := a.tmps.setIfInBounds p (I (x : Nat)), defers := [] } w1 ((p, E (I (x : Nat))) :: L) :=
      hf0.put (d := some p) (v := I (x : Nat)) (A := E (I (x : Nat))) (Ext.rfl' _) (fun k hk => by cases hk; exact hp) rfl
    refine roundIn_of_wpIn (F := Fence.wide) (n := 0) trivial ?_
    refine wpIn_mono (hbody l s x rest _ w1 hs j1 (by omega) hf1) fun e2 a2 w2 hq => ?_
    cases e2 with
    | normal =>
      obtain ⟨kh, hb2⟩ := hq
      have j3' : w2.heap[l]? = some (.loop rec0) := (kh.same l (by omega) hhole).trans j3
      refine ⟨_, run_beginRound j3' hfn.2.2.2, ?_⟩
      refine wpIn_mono (hb2 (w2.putObj l (.loop { rec0 with state := .busy })) (Kp.put hhole) (by simp)) fun e3 a3 w3 hq3 => ?_
      have hl2 : l < w2.heap.size := (Array.getElem?_eq_some_iff.1 j3').1
      have rec3 : ∀ {w3 : World}, Kh w.heap.size (w2.putObj l (.loop { rec0 with state := .busy })) w3 → w3.heap[l]? = some (.loop { rec0 with state := .busy }) := fun k =>
        (k.same l (by simpa using hl2) hhole).trans (World.putObj_heap_same hl2)
      have size3 : ∀ {w3 : World}, Kh w.heap.size (w2.putObj l (.loop { rec0 with state := .busy })) w3 → w1.heap.size ≤ w3.heap.size := fun k => by
        have h1 := k.size
        have h2 := kh.size
        simp at h1
        omega
      have d3 : ∀ {w3 : World}, Kh w.heap.size (w2.putObj l (.loop { rec0 with state := .busy })) w3 → ∀ o, ∀ d, D = some d → (w3.putObj l o).heap[d]? = some (.deferred (some [])) := fun {w3} k o d hd => by
        have h1 := hD d hd
        have hdlt : d < w1.heap.size := (Array.getElem?_eq_some_iff.1 (j4 d hd)).1
        have hdh : Hole w.heap.size d := hW3 d (Array.getElem?_eq_some_iff.1 h1.1).1 h1.2.2
        have hk2 := kh.size
        rw [World.putObj_heap_other h1.2.1, k.same d (by simp; omega) hdh, World.putObj_heap_other h1.2.1, kh.same d hdlt hdh]
        exact j4 d hd
      have rb3 : ∀ {w3 : World}, Kh w.heap.size (w2.putObj l (.loop { rec0 with state := .busy })) w3 → ∀ o, (w3.putObj l o).heap[W1.heap.size]? = w1.heap[W1.heap.size]? := fun {w3} k o => by
        have hne : W1.heap.size ≠ l := by omega
        have hr : Hole w.heap.size W1.heap.size := ⟨he.size, by omega⟩
        have hk2 := kh.size
        rw [World.putObj_heap_other hne, k.same _ (by simp; omega) hr, World.putObj_heap_other hne, kh.same _ hltW hr]
      cases e3 with
      | normal =>
        obtain ⟨q1, q2⟩ := hq3
        refine ⟨_, _, run_endRound none (rec3 q2), _, rfl, .inl ⟨rfl, ⟨hJ _ _ _ q1 (Nat.le_trans (Nat.le_trans he.size j2) (size3 q2)) (Kp.put hhole), ?_, ?_, d3 q2 _⟩, by simpa using size3 q2, rb3 q2 _⟩⟩
        · have := size3 q2; simp; omega
        · rw [World.putObj_heap_same (Array.getElem?_eq_some_iff.1 (rec3 q2)).1]
          subst hrec
          rfl
      | ret =>
        obtain ⟨q1, q2⟩ := hq3
        refine ⟨_, _, run_endRound (some .ret) (rec3 q2), _, rfl, .inr ⟨rfl, .ret, .ret, rfl, hX _ _ _ q1 (Nat.le_trans (Nat.le_trans he.size j2) (size3 q2)) (Kp.put hhole), ?_, ?_, d3 q2 _⟩⟩
        · have := size3 q2; simp; omega
        · rw [World.putObj_heap_same (Array.getElem?_eq_some_iff.1 (rec3 q2)).1]
          rfl
      | exit id =>
        obtain ⟨q1, q2⟩ := hq3
        refine ⟨_, _, run_endRound (some (.exit id)) (rec3 q2), _, rfl, .inr ⟨rfl, .exit id, .exit id, rfl, hX _ _ _ q1 (Nat.le_trans (Nat.le_trans he.size j2) (size3 q2)) (Kp.put hhole), ?_, ?_, d3 q2 _⟩⟩
        · have := size3 q2; simp; omega
        · rw [World.putObj_heap_same (Array.getElem?_eq_some_iff.1 (rec3 q2)).1]
          rfl
      | goto t => exact hq3.elim
      | panic c => exact hq3.elim
      | outgrown => exact hq3.elim
    | _ => exact hq.elim
  · rintro e w2 ⟨rfl, h | h⟩
    · obtain ⟨j1, j2, j3, j4⟩ := h
      refine ⟨none, w2.putObj l (.loop { rec0 with state := .exhausted }), ?_, hdone _ _ (⟨hf.size, by simp [hf.defers], fun t A ht => PureL.pu t A ht _ _ _ (hf.val t A ht)⟩) (hJ _ _ _ j1 (Nat.le_trans he.size j2) (Kp.put hhole)) ?_ ?_⟩
      · have := run_endLoop (P := Tryz.prog) j3 (by subst hrec; simp)
        subst hrec
        exact this
      · have := he.size; simp; omega
      · intro d hd
        rw [World.putObj_heap_other (hD d hd).2.1]
        exact j4 d hd
    · obtain ⟨ex, c, x1, x2, x3, x4, x5⟩ := h
      refine ⟨some c, _, run_endLoop (P := Tryz.prog) x4 (by simp), ?_⟩
      have hQ := hexit ex c { a with defers := mark ++ a.defers } (w2.putObj l (.loop { rec0 with state := .exhausted, pending := some c })) x1 (⟨hf.size, by simp [hf.defers], fun t A ht => PureL.pu t A ht _ _ _ (hf.val t A ht)⟩)
        (hX _ _ _ x2 (Nat.le_trans he.size x3) (Kp.put hhole)) (by have := he.size; simp; omega) (fun d hd => by
          rw [World.putObj_heap_other (hD d hd).2.1]
          exact x5 d hd)
      cases ex with
      | ret => cases x1; exact wpIn_ret hQ
      | exit id => cases x1; exact wpIn_exit hQ
      | _ => cases x1

/-- at the outermost: the block for deferred calls is D -/
theorem range_all [PureL L] (hf : FrD n ds a w L) (hx : opd L g = some (E (seqV b))) (hb : Blk w b (setC S) 67) (hp : p < n)
    (J : List Nat → World → Prop) (X : Exit → World → Prop)
    (hT : ∀ s w1, J s w1 → Tab w1) (h0 : J [] w)
    (hJ : ∀ s w1 w2, J s w1 → w.heap.size ≤ w1.heap.size → Kp w.heap.size w1 w2 → J s w2)
    (hX : ∀ e w1 w2, X e w1 → w.heap.size ≤ w1.heap.size → Kp w.heap.size w1 w2 → X e w2)
    (hbody : ∀ (l s x) (rest : List Nat) (a1 : Act) (w1 : World), elems S = s ++ x :: rest → J s w1 → w.heap.size < w1.heap.size → FrD n [] a1 w1 ((p, E (I (x : Nat))) :: L) →
      assign.wpIn (FW (some l)) 0 Tryz.prog (Exit.then (fun a2 w2 => Kh w.heap.size w1 w2 ∧ ∀ w3, Kp w.heap.size w2 w3 → w3.heap.size = w2.heap.size → body.wpIn (FW (some l)) 0 Tryz.prog (Rd J X s x w.heap.size w3) a2 w3) (fun _ _ _ => False)) a1 w1)
    (hdone : ∀ a' w', FrD n ({ target := .collected w.heap.size, args := #[] } :: ds) a' w' L → J (elems S) w' → w.heap.size ≤ w'.heap.size → w'.heap[w.heap.size]? = some (.deferred (some [])) → Q .normal a' w')
    (hexit : ∀ e c a' w', codeOf e = some c → FrD n ({ target := .collected w.heap.size, args := #[] } :: ds) a' w' L → X e w' → w.heap.size ≤ w'.heap.size → w'.heap[w.heap.size]? = some (.deferred (some [])) → Q e a' w') :
    (Code.rangeFunc g #[p] assign body).wpIn (FW none) 0 Tryz.prog Q a w := by
  refine range_core (l := w.heap.size + 1) (mark := [{ target := .collected w.heap.size, args := #[] }]) (df := w.heap.size) (D := some w.heap.size) hf hx hb hp J X ?_ hT h0 hJ hX hbody
    (fun a' w' h1 h2 h3 h4 => hdone a' w' h1 h2 h3 (h4 _ rfl)) (fun e c a' w' h1 h2 h3 h4 h5 => hexit e c a' w' h1 h2 h3 h4 (h5 _ rfl))
  intro fn
  refine ⟨_, run_enterLoop_outer fn a.tmps #[p] assign body, ?_, ?_, ?_, by omega, ?_⟩
  · have := World.alloc_heap_new (w.alloc (.deferred (some []))) (.loop { state := .ready, pending := none, fn, tmps := a.tmps, params := #[p], assign, body, defers := w.heap.size })
    rwa [World.size_alloc] at this
  · exact Ext.tr (ext_alloc w _) (ext_alloc _ _)
  · simp
  · rintro d hd
    cases hd
    refine ⟨?_, by omega, Nat.le_refl _⟩
    rw [Below.heap_alloc _ _ _ (by simp)]
    exact World.alloc_heap_new w _

/-- a function with such loops: its arguments as told; at its end the marks are met -/
theorem enterM {f : FuncId} {fn : Func} {c : Code} {n : Nat} {args : List Value} {As : List VA} {w : World} {R : Ending → World → Prop} (hf : Tryz.prog.funcs[f]? = some fn) (hb : fn.body = some c) (hn : fn.ntmps = n) (hl : args.length ≤ n)
    (hA : ∀ (i : Nat) (A : VA), As[i]? = some A → A.p (args.getD i undef) w) (h : ∀ a, Fr n a w (params 0 As) → c.wpIn (FW none) 0 Tryz.prog (bodyPostM (FW none) 0 Tryz.prog fn R) a w) (hlen : As.length ≤ args.length) : Calls Tryz.prog f args.toArray w R := by
  refine (callsIn_wide (n := 0)).1 (callsIn_of_wp_marks (F := Fence.wide) hf hb trivial (h _ ⟨?_, rfl, fun t A ht => ?_⟩))
  · simp [hn]; omega
  · obtain ⟨_, h2⟩ := look_params As 0 t A ht
    rw [Nat.sub_zero] at h2
    have hlt : t < As.length := (List.getElem?_eq_some_iff.1 h2).1
    have := hA t A h2
    have e : (args.toArray ++ Array.replicate (fn.ntmps - args.toArray.size) undef).getD t undef = args.getD t undef := by
      have : t < args.length := by omega
      simp [Array.getElem?_append, this]
    simp only [Act.eval, e]
    exact this
/-- the marks of loops that ran: their blocks hold nothing -/
def marks (l : List Nat) : List Deferred := l.map fun D => { target := .collected D, args := #[] }
def Ds (l : List Nat) (w : World) : Prop := l.Nodup ∧ ∀ D ∈ l, w.heap[D]? = some (.deferred (some []))
/-- the world with these blocks shut -/
def shut : List Nat → World → World
  | [], w => w
  | D :: l, w => shut l (w.putObj D (.deferred none))
theorem shut_heap : ∀ (l : List Nat) (w : World) (b : Nat), b ∉ l → (shut l w).heap[b]? = w.heap[b]?
  | [], w, b, _ => rfl
  | D :: l, w, b, h => by
    rw [shut, shut_heap l _ b (fun h' => h (by simp [h'])), World.putObj_heap_other (fun e => h (by simp [e]))]
theorem shut_os : ∀ (l : List Nat) (w : World), (shut l w).os = w.os ∧ (shut l w).tape = w.tape ∧ (shut l w).output = w.output ∧ (shut l w).heap.size = w.heap.size
  | [], w => ⟨rfl, rfl, rfl, rfl⟩
  | D :: l, w => by
    obtain ⟨h1, h2, h3, h4⟩ := shut_os l (w.putObj D (.deferred none))
    exact ⟨h1, h2, h3, by rw [shut, h4]; simp⟩
theorem Ext.shut {W w : World} {l : List Nat} (e : Ext W w) (h : ∀ D ∈ l, W.heap.size ≤ D) : Ext W (Mono.shut l w) := by
  obtain ⟨h1, h2, h3, h4⟩ := shut_os l w
  exact Below.trans e ⟨h1, h2, h3, by rw [h4]; exact Nat.le_refl _, fun b hb => shut_heap l w b (fun hm => by have := h b hm; omega)⟩
theorem leaves {fn : Func} {tmps : Array Value} {R : Ending → World → Prop} {v : Value} : ∀ (l : List Nat) (w : World), Ds l w → (results fn tmps).run Tryz.prog (shut l w) = .ok v (shut l w) → R (.returned v) (shut l w) →
    LeavesInM (FW none) 0 Tryz.prog fn tmps R (marks l) .returning w
  | [], w, _, hr, hR => ⟨v, hr, hR⟩
  | D :: l, w, hD, hr, hR => by
    have h1 := hD.2 D (by simp)
    have hnd := List.nodup_cons.1 hD.1
    refine ⟨by simp, .inl ⟨D, _, rfl, run_takeDeferred h1, leaves l _ ⟨hnd.2, fun d hd => ?_⟩ hr hR⟩⟩
    rw [World.putObj_heap_other (fun e => by subst e; exact hnd.1 hd)]
    exact hD.2 d (by simp [hd])
end
end Go.Mono

namespace Go.Mono
open Go Go.Proofs Go.RowKit

theorem Kp.chg {B : Nat} {w w' : World} (k : Kp B w w') : Chg (Hole B) w w' := ⟨k.os, k.tape, k.output, k.size, fun b hb hh => k.same b hb hh⟩
theorem chg_shut (l : List Nat) (w : World) : Chg (fun c => c ∈ l) w (shut l w) := by
  obtain ⟨h1, h2, h3, h4⟩ := shut_os l w
  exact ⟨h1, h2, h3, by rw [h4]; exact Nat.le_refl _, fun b hb hS => shut_heap l w b hS⟩
theorem Tab.gr {w w' : World} {b : Nat} (h : Tab w) (hg : w.grownBy w' (some b)) (hb : 0 < b) : Tab w' := fun i hi => (World.cell?_of_block (hg.block 0 h.lt (by simp; omega))).trans (h i hi)
theorem Tab.ch {w w' : World} {S : Nat → Prop} (h : Tab w) (c : Chg S w w') (hS : ¬S 0) : Tab w' := fun i hi => (World.cell?_of_block (c.block 0 h.lt hS)).trans (h i hi)
theorem Tab.gro {w w' : World} {row : Option Nat} (h : Tab w) (hg : w.grownBy w' row) (hb : ∀ b, row = some b → 0 < b) : Tab w' := fun i hi => (World.cell?_of_block (hg.block 0 h.lt (fun e => by have := hb 0 e.symm; omega))).trans (h i hi)
theorem Dv.gro {α : Type} {e : Enc α} {G : Nat → Prop} {x : α} {v : Value} {w w' : World} {row : Option Nat} (h : (Dv e G x).p v w) (hg : w.grownBy w' row) (hG : ∀ b, row = some b → G b) : (Dv e G x).p v w' := by
  obtain ⟨cs, h1, h2⟩ := h
  exact ⟨cs, Enc.gro h1 hg hG, h2⟩
theorem Kh.gro {B : Nat} {w w' : World} {row : Option Nat} (hg : w.grownBy w' row) (h : ∀ b, row = some b → ¬Hole B b) : Kh B w w' := ⟨hg.size, fun x hx hh => hg.block x hx (fun e => h x e.symm hh)⟩
theorem Chg.tr2 {S T : Nat → Prop} {W w w' : World} (h : Chg S W w) (k : Chg T w w') (hT : ∀ b, T b → S b ∨ W.heap.size ≤ b) : Chg S W w' :=
  ⟨k.os.trans h.os, k.tape.trans h.tape, k.output.trans h.output, Nat.le_trans h.size k.size, fun b hb hS => (k.block b (Nat.lt_of_lt_of_le hb h.size) (fun ht => (hT b ht).elim hS (fun h => by omega))).trans (h.block b hb hS)⟩

theorem mem_elemsI {S : BS} {y : Int} : y ∈ (elems S).map (fun i : Nat => (i : Int)) ↔ has S y = true := by
  rw [has, Bool.and_eq_true, fitsB_iff, List.mem_map]
  constructor
  · rintro ⟨i, h, rfl⟩
    have := mem_elems.1 h
    exact ⟨⟨by omega, by omega⟩, by simpa using this.2⟩
  · rintro ⟨⟨h1, h2⟩, h3⟩
    exact ⟨y.toNat, mem_elems.2 ⟨by omega, h3⟩, by omega⟩
theorem elems_len (S : BS) : (elems S).length ≤ 1024 := by
  have := List.length_filter_le (fun i => S.getLsbD i) (List.range 1024)
  simpa [elems] using this

theorem cmpN_self (a : List Int) : ∀ i, cmpN a a i i = 0
  | 0 => rfl
  | i + 1 => by rw [cmpN, if_neg (Int.lt_irrefl _), if_neg (Int.lt_irrefl _)]; exact cmpN_self a i
theorem cmpL_self (a : List Int) : cmpL a a = 0 := cmpN_self a _
/-- marks do not meet cells -/
theorem Ds.ne {D : List Nat} {w : World} (h : Ds D w) {b : Nat} {cs : Array Value} {t : TypeId} (hb : Blk w b cs t) : ¬ b ∈ D := fun hm => by
  have h1 := h.2 b hm
  unfold Blk at hb
  rw [hb] at h1
  cases h1
theorem Ds.lt {D : List Nat} {w : World} (h : Ds D w) {b : Nat} (hm : b ∈ D) : b < w.heap.size := (Array.getElem?_eq_some_iff.1 (h.2 b hm)).1
theorem Ds.ch {D : List Nat} {w w' : World} {S : Nat → Prop} (h : Ds D w) (c : Chg S w w') (hS : ∀ d ∈ D, ¬S d) : Ds D w' := ⟨h.1, fun d hd => (c.block d (h.lt hd) (hS d hd)).trans (h.2 d hd)⟩
theorem Ds.ext {D : List Nat} {w w' : World} (h : Ds D w) (e : Ext w w') : Ds D w' := ⟨h.1, fun d hd => (e.block d (h.lt hd)).trans (h.2 d hd)⟩
theorem Ds.gr {D : List Nat} {w w' : World} {b : Nat} (h : Ds D w) (hg : w.grownBy w' (some b)) (hb : ¬ b ∈ D) : Ds D w' := ⟨h.1, fun d hd => (hg.block d (h.lt hd) (fun he => hb (by cases he; exact hd))).trans (h.2 d hd)⟩
theorem Ds.nil (w : World) : Ds [] w := ⟨List.nodup_nil, fun d hd => by cases hd⟩
theorem Ds.cons {D : List Nat} {w : World} {d : Nat} (h : Ds D w) (hd : w.heap[d]? = some (.deferred (some []))) (hn : ¬ d ∈ D) : Ds (d :: D) w :=
  ⟨List.nodup_cons.2 ⟨hn, h.1⟩, fun x hx => by rcases List.mem_cons.1 hx with rfl | hx; exact hd; exact h.2 x hx⟩
theorem Blk.shut {w : World} {b : Nat} {cs : Array Value} {t : TypeId} {D : List Nat} (h : Blk w b cs t) (hb : ¬ b ∈ D) : Blk (shut D w) b cs t := (shut_heap D w b hb).trans h
end Go.Mono

namespace Go.Mono
open Go Go.Proofs Go.RowKit

/-- what New's closures change -/
def Sn (bn bm : Nat) (c : Nat) : Prop := c = bn ∨ c = bm
theorem FB.ch {w w' : World} {bF bn bm bf n : Nat} {tv : Value} (h : FB w bF bn bm bf n tv) {S : Nat → Prop} (c : Chg S w w') (h1 : ¬S bF) (h2 : ¬S bf) : FB w' bF bn bm bf n tv := ⟨h.f.ch c h1, h.p.ch c h2⟩
theorem FB.ext {w w' : World} {bF bn bm bf n : Nat} {tv : Value} (h : FB w bF bn bm bf n tv) (e : Ext w w') : FB w' bF bn bm bf n tv := ⟨h.f.ext e, h.p.ext e⟩
/-- the map with the elements of s set to b -/
def mIn (s : List Nat) (b : Int) (m : Int → Option Int) : Int → Option Int := fun y => if y ∈ s.map (fun i : Nat => (i : Int)) then some b else m y
theorem mIn_app (s : List Nat) (x : Nat) (b : Int) (m : Int → Option Int) : (fun y => if y = (x : Int) then some b else mIn s b m y) = mIn (s ++ [x]) b m := by
  funext y
  simp only [mIn, List.map_append, List.mem_append, List.map_cons, List.map_nil, List.mem_singleton]
  by_cases h1 : y = (x : Int)
  · simp [h1]
  · by_cases h2 : y ∈ s.map (fun i : Nat => (i : Int)) <;> simp [h1, h2]
theorem mIn_nil (b : Int) (m : Int → Option Int) : mIn [] b m = m := by
  funext y; simp [mIn]
theorem mIn_elems (S : BS) (b : Int) (m : Int → Option Int) : mIn (elems S) b m = fun y => if has S y = true then some b else m y := by
  funext y
  unfold mIn
  by_cases h : has S y = true
  · rw [if_pos (mem_elemsI.2 h), if_pos h]
  · rw [if_neg (fun h' => h (mem_elemsI.1 h')), if_neg h]

/-- where the loop over a bag's new vertices stands -/
structure CJ (G : Nat → Prop) (W : World) (n : Nat) (nd : Nat → Nd) (bF bn bm bf b3 b : Nat) (tv : Value) (cells : Array Value) (cnt : Nat) (m : Int → Option Int) (s : List Nat) (w : World) : Prop where
  c : Chg (fun c => c = bn ∨ c = bm) W w
  t : Tab w
  sz : W.heap.size ≤ w.heap.size
  f : FB w bF bn bm bf n tv
  b3 : Blk w b3 #[I (b : Nat)] 3
  bn : Blk w bn cells 130
  ns : NS n (GB W G) nd cells w
  mp : MapR Tryz.prog 3 3 w bm (cnt + s.length) (mIn s b m)
theorem CJ.kp {G : Nat → Prop} {W : World} {n : Nat} {nd : Nat → Nd} {bF bn bm bf b3 b : Nat} {tv : Value} {cells : Array Value} {cnt : Nat} {m : Int → Option Int} {s : List Nat} {w w' : World} {Bz : Nat} (h : CJ G W n nd bF bn bm bf b3 b tv cells cnt m s w) (k : Kp Bz w w')
    (hW : W.heap.size ≤ Bz) (h0 : 0 < Bz) (lF : bF < Bz) (lf : bf < Bz) (l3 : b3 < Bz) (ln : bn < Bz) (lm : bm < Bz) : CJ G W n nd bF bn bm bf b3 b tv cells cnt m s w' := by
  have no : ∀ {b}, b < Bz → ¬Hole Bz b := fun h hh => by have := hh.1; omega
  exact ⟨⟨k.os.trans h.c.os, k.tape.trans h.c.tape, k.output.trans h.c.output, Nat.le_trans h.c.size k.size, fun b hb hS => (k.same b (Nat.lt_of_lt_of_le hb h.c.size) (fun hh => by have := hh.1; omega)).trans (h.c.block b hb hS)⟩,
    h.t.kp k h0, Nat.le_trans h.sz k.size, h.f.ch k.chg (no lF) (no lf), h.b3.kp k (no l3), h.bn.kp k (no ln), h.ns.ch k.chg fun b hb => .inr (by have := hb.1; omega), h.mp.pres (k.same _ h.mp.lt (no lm))⟩

/-- the depth that come writes -/
def deepN (t : List (Int × BS)) (nd : Nat → Nd) (b : Nat) : Int := if (bg t b).1 < 0 then (nd b).2.2.2.2 else (nd (bg t b).1.toNat).2.2.2.2 + 1
/-- the vertices above -/
def aheadS (t : List (Int × BS)) (b : Nat) : BS := if (bg t b).1 < 0 then 0 else (bg t (bg t b).1.toNat).2
theorem topsS_ahead {t : List (Int × BS)} (hr : Rng t) {b : Nat} (hb : b < t.length) : (bg t b).2 &&& ~~~aheadS t b = topsS t b := by
  have := hr b hb
  rw [topsS, aheadS]
  by_cases h : (bg t b).1 = -1
  · rw [if_pos h, if_pos (by omega)]
    exact BitVec.eq_of_getLsbD_eq fun k hk => by rw [BitVec.getLsbD_and, BitVec.getLsbD_not]; simp [hk]
  · rw [if_neg h, if_neg (by omega)]
theorem come_spec (t : List (Int × BS)) (hl : t.length ≤ 4096) (hr : Rng t) (G : Nat → Prop) (nd : Nat → Nd) (bF bn bm bf b1 b : Nat) (tv fv : Value) (cells : Array Value) (cnt : Nat) (m : Int → Option Int) (W : World) (hT : Tab W) (hG : ∀ c, G c → c < W.heap.size) (hGn : G bn) (hGm : G bm) (h0n : 0 < bn) (h0m : 0 < bm) (hbl : b < t.length)
    (FBx : FB W bF bn bm bf t.length fv) (B1 : Blk W b1 #[tv] 23) (HV : (Dv treeE (Sn bn bm) t).p tv W) (BN : Blk W bn cells 130) (HS : NS t.length G nd cells W) (HM : MapR Tryz.prog 3 3 W bm cnt m) (hcnt : cnt ≤ 100000000) (hdp : ∀ i, i < t.length → 0 ≤ (nd i).2.2.2.2 ∧ (nd i).2.2.2.2 ≤ 100000) :
    Calls Tryz.prog 81 #[I (b : Nat), .pointer (some ⟨b1, 0, none⟩), .pointer (some ⟨bf, 0, none⟩)] W (fun e w' => ∃ v, e = .returned v ∧ Chg (fun c => c = bn ∨ c = bm) W w' ∧ Any.p v w' ∧
      (∃ cells', Blk w' bn cells' 130 ∧ NS t.length G (un nd b ((nd b).1, (nd b).2.1, (nd b).2.2.1, (nd b).2.2.2.1, deepN t nd b)) cells' w') ∧ ∃ cnt', cnt' ≤ cnt + 1024 ∧ MapR Tryz.prog 3 3 w' bm cnt' (fun y => if has (topsS t b) y = true then some (b : Int) else m y)) := by
  obtain ⟨BF, Bf⟩ := FBx
  have hri := hr b hbl
  have nFn : bF ≠ bn := fun h => by
    have h1 := BF; have h2 := BN
    rw [h] at h1; unfold Blk at h1 h2; rw [h1] at h2; simp at h2
  have nfn : bf ≠ bn := fun h => by
    have h1 := Bf; have h2 := BN
    rw [h] at h1; unfold Blk at h1 h2; rw [h1] at h2; simp at h2
  have n1n : b1 ≠ bn := fun h => by
    have h1 := B1; have h2 := BN
    rw [h] at h1; unfold Blk at h1 h2; rw [h1] at h2; simp at h2
  have nmb : ∀ {b' : Nat} {cs : Array Value} {ty : TypeId}, Blk W b' cs ty → b' ≠ bm := fun h1 h => by
    obtain ⟨D, ⟨es, clock, h3, _⟩, _⟩ := HM
    rw [h] at h1; unfold Blk at h1; rw [h1] at h3; cases h3
  have nnm := nmb BN
  have nFm := nmb BF
  have nfm := nmb Bf
  have n1m := nmb B1
  have lF := BF.lt
  have lf := Bf.lt
  have ln := BN.lt
  have l1 := B1.lt
  have lm := HM.lt
  clear nmb
  replace HS := HS.toB
  replace HV := Dv.toB HV
  haveI hin : InR (GB W G) (some bn) := ⟨fun c hc => by cases hc; exact .inl hGn⟩
  refine enterM (args := [I (b : Nat), .pointer (some ⟨b1, 0, none⟩), .pointer (some ⟨bf, 0, none⟩)]) (As := [E (I (b : Nat)), E (.pointer (some ⟨b1, 0, none⟩)), E (.pointer (some ⟨bf, 0, none⟩))]) Tryz.func81 rfl Tryz.ntmps81 (Nat.le_of_ble_eq_true rfl) ?_ (fun a hf => ?_) (Nat.le_of_ble_eq_true rfl)
  · exact arg3 rfl rfl rfl
  dsimp only [params, Nat.reduceAdd] at hf
  have c := Chg.rfl' (fun c => c = bn ∨ c = bm) W
  have hNW := Nat.le_refl W.heap.size
  repeat refine seq ?_
  refine regn0 ?_
  refine tl_box hf rfl (by decide) fun a b3 w v3 hv3 e' hb3 hs3 B3 hf => ?_
  have lo3_hNW := Nat.le_trans hNW (Nat.le_of_eq hb3.symm)
  have lt3_BF := BF.lt
  have lt3_Bf := Bf.lt
  have lt3_B1 := B1.lt
  have lt3_BN := BN.lt
  replace hNW := Nat.le_trans hNW e'.size
  replace hT := hT.ext e'
  replace HV := Dv.ex HV e'
  replace HS := HS.ext e'
  replace c := c.ext e'
  replace BF := BF.ext e'
  replace Bf := Bf.ext e'
  replace B1 := B1.ext e'
  replace BN := BN.ext e'
  replace HM := HM.ext e'
  clear e'
  refine tl_nil ?_
  cases hv3
  have B3' : Blk w b3 #[I (b : Nat)] 3 := B3
  replace B3 := B3'
  clear B3'
  have n3 : b3 ≠ bF ∧ b3 ≠ bf ∧ b3 ≠ b1 ∧ b3 ≠ bn ∧ b3 ≠ bm ∧ W.heap.size ≤ b3 := by omega
  replace hf := hf.keep [1, 2, 3]
  dsimp only [keep, List.filterMap, look, Nat.beq, Option.map] at hf
  repeat refine seq ?_
  refine regn 5 hf (by decide +kernel) ?_
  refine st (ld1 T23 rfl B1 rfl) ?_
  refine st (ld1 T3 rfl B3 rfl) ?_
  refine st (idxD Tryz.underlying23 S70 (isE rfl HV) rfl (by omega) (bg_get hbl)) ?_
  refine st (fldD Tryz.underlying70 rfl T3 (by decide) (Fld.fst Fld.refl) (isR rfl)) ?_
  refine st (ldI T3 (isR rfl)) ?_
  refine en fun a w e' hf => ?_
  replace hNW := Nat.le_trans hNW e'.size
  replace hT := hT.ext e'
  replace HV := Dv.ex HV e'
  replace HS := HS.ext e'
  replace c := c.ext e'
  replace BF := BF.ext e'
  replace Bf := Bf.ext e'
  replace B1 := B1.ext e'
  replace BN := BN.ext e'
  replace HM := HM.ext e'
  replace B3 := B3.ext e'
  clear e'
  refine tl_as hf rfl (by decide) fun a hf => ?_
  refine tl_nil ?_
  replace hf := hf.keep [1, 2, 3, 4]
  dsimp only [keep, List.filterMap, look, Nat.beq, Option.map] at hf
  repeat refine seq ?_
  refine regn0 ?_
  refine tl_alloc I67 hf (by decide) fun a b5 w e' hb5 hs5 B5 hf => ?_
  have lo5_hNW := Nat.le_trans hNW (Nat.le_of_eq hb5.symm)
  have lt5_BF := BF.lt
  have lt5_Bf := Bf.lt
  have lt5_B1 := B1.lt
  have lt5_BN := BN.lt
  have lt5_B3 := B3.lt
  replace hNW := Nat.le_trans hNW e'.size
  replace hT := hT.ext e'
  replace HV := Dv.ex HV e'
  replace HS := HS.ext e'
  replace c := c.ext e'
  replace BF := BF.ext e'
  replace Bf := Bf.ext e'
  replace B1 := B1.ext e'
  replace BN := BN.ext e'
  replace HM := HM.ext e'
  replace B3 := B3.ext e'
  clear e'
  refine tl_nil ?_
  simp only [Value.cells, zeroC] at B5
  have n5 : b5 ≠ bF ∧ b5 ≠ bf ∧ b5 ≠ b1 ∧ b5 ≠ bn ∧ b5 ≠ bm ∧ W.heap.size ≤ b5 ∧ b5 ≠ b3 := by have := B3.lt; omega
  replace hf := hf.keep [1, 2, 3, 4, 5]
  dsimp only [keep, List.filterMap, look, Nat.beq, Option.map] at hf
  repeat refine seq ?_
  refine regn 2 hf (by decide +kernel) ?_
  refine st (mv rfl) ?_
  refine st (geq rfl rfl) ?_
  refine en fun a w e' hf => ?_
  replace hNW := Nat.le_trans hNW e'.size
  replace hT := hT.ext e'
  replace HV := Dv.ex HV e'
  replace HS := HS.ext e'
  replace c := c.ext e'
  replace BF := BF.ext e'
  replace Bf := Bf.ext e'
  replace B1 := B1.ext e'
  replace BN := BN.ext e'
  replace HM := HM.ext e'
  replace B3 := B3.ext e'
  replace B5 := B5.ext e'
  clear e'
  refine tl_nil ?_
  repeat refine seq ?_
  refine cut (J := fun a w => Fr 50 a w [(1, E (.pointer (some ⟨b1, 0, none⟩))), (2, E (.pointer (some ⟨bf, 0, none⟩))), (3, E (.pointer (some ⟨b3, 0, none⟩))), (5, E (.pointer (some ⟨b5, 0, none⟩)))] ∧ Chg (fun c => c = bn ∨ c = bm) W w ∧ Tab w ∧ W.heap.size ≤ w.heap.size ∧
    Blk w bF #[fv, .slice (some ⟨bn, 0, none⟩) t.length t.length, .map (some bm)] 92 ∧ Blk w bf #[.pointer (some ⟨bF, 0, none⟩)] 27 ∧ Blk w b1 #[tv] 23 ∧ Blk w b3 #[I (b : Nat)] 3 ∧ Blk w b5 (setC (aheadS t b)) 67 ∧ (Dv treeE (GB W (Sn bn bm)) t).p tv w ∧ MapR Tryz.prog 3 3 w bm cnt m ∧
    ∃ cells', Blk w bn cells' 130 ∧ NS t.length (GB W G) (un nd b ((nd b).1, (nd b).2.1, (nd b).2.2.1, (nd b).2.2.2.1, deepN t nd b)) cells' w) ?_ (fun a w hJ => ?_)
  · repeat refine seq ?_
    refine ifc hf rfl (fun hb => ?_) (fun hb => ?_)
    · have hup := of_decide_eq_true hb
      obtain ⟨p, hp⟩ : ∃ p : Nat, (bg t b).1 = (p : Int) := ⟨(bg t b).1.toNat, by omega⟩
      have hpl : p < t.length := by omega
      have hd := hdp p hpl
      have fd := HS.deep_at hpl
      have hb4 := HS.bd hbl (f := 4) (by decide)
      have ed : (nd p).2.2.2.2 + 1 = deepN t nd b := by rw [deepN, if_neg (by omega), hp, Int.toNat_natCast]
      have ea : (bg t p).2 = aheadS t b := by rw [aheadS, if_neg (by omega), hp, Int.toNat_natCast]
      rw [hp] at hf
      replace hf := hf.keep [1, 2, 3, 4, 5]
      dsimp only [keep, List.filterMap, look, Nat.beq, Option.map] at hf
      repeat refine seq ?_
      refine reg 16 Mix.mix hf (by decide +kernel) ?_
      refine st (ld1 T27 rfl (by assumption) rfl) ?_
      refine st (nilE rfl) ?_
      refine st (fldA Tryz.underlying92 rfl T89 (by decide) rfl) ?_
      refine st (ld1 T89 rfl BF rfl) ?_
      refine st (ld1 T3 rfl B3 rfl) ?_
      refine st (ld1 T27 rfl (by assumption) rfl) ?_
      refine st (nilE rfl) ?_
      refine st (fldA Tryz.underlying92 rfl T89 (by decide) rfl) ?_
      refine st (ld1 T89 rfl BF rfl) ?_
      refine st (mv rfl) ?_
      refine st (idxS Tryz.underlying89 S130 rfl rfl (by omega)) ?_
      refine st (fldA Tryz.underlying130 rfl T3 (by decide) rfl) ?_
      refine st (ld1 T3 rfl BN fd) ?_
      refine st ((add rfl rfl (by omega)).eq (congrArg (Value.int .i64) ed)) ?_
      refine st (idxS Tryz.underlying89 S130 rfl rfl (by omega)) ?_
      refine st (fldA Tryz.underlying130 rfl T3 (by decide) rfl) ?_
      refine en fun a w e' hf => ?_
      replace hNW := Nat.le_trans hNW e'.size
      replace hT := hT.ext e'
      replace HV := Dv.ex HV e'
      replace HS := HS.ext e'
      replace c := c.ext e'
      replace BF := BF.ext e'
      replace Bf := Bf.ext e'
      replace B1 := B1.ext e'
      replace BN := BN.ext e'
      replace HM := HM.ext e'
      replace B3 := B3.ext e'
      replace B5 := B5.ext e'
      clear e'
      refine tl_st1 T3 hf rfl rfl rfl BN (by exact hb4) fun w hg hsz BN hf => ?_
      replace hNW := Nat.le_trans hNW (Nat.le_of_eq hsz.symm)
      replace hT := hT.gr hg (by omega)
      replace HV := Dv.gr HV hg (by first | exact .inl (.inl rfl) | exact .inr (by omega))
      replace HS := HS.gr hg (by first | exact .inl hGn | exact .inr (by omega))
      replace c := c.gr hg (by first | exact .inl (.inl rfl) | exact .inr (by omega))
      replace BF := BF.gr hg (by omega)
      replace Bf := Bf.gr hg (by omega)
      replace B1 := B1.gr hg (by omega)
      replace HM := HM.gr hg (by omega)
      replace B3 := B3.gr hg (by omega)
      replace B5 := B5.gr hg (by omega)
      clear hg
      refine tl_nil ?_
      have HS1 := HS.set_deep hbl (deepN t nd b)
      obtain ⟨cells1, BN1, HS2⟩ : ∃ cells', Blk w bn cells' 130 ∧ NS t.length (GB W G) (un nd b ((nd b).1, (nd b).2.1, (nd b).2.2.1, (nd b).2.2.2.1, deepN t nd b)) cells' w := ⟨_, BN, HS1⟩
      clear BN HS HS1 fd hb4
      replace BN := BN1
      replace HS := HS2
      clear BN1 HS2
      replace hf := hf.keep [1, 2, 3, 4, 5]
      dsimp only [keep, List.filterMap, look, Nat.beq, Option.map] at hf
      repeat refine seq ?_
      refine regn 5 hf (by decide +kernel) ?_
      refine st (ld1 T23 rfl B1 rfl) ?_
      refine st (mv rfl) ?_
      refine st (idxD Tryz.underlying23 S70 (isE rfl HV) rfl (by omega) (bg_get hpl)) ?_
      refine st (fldD Tryz.underlying70 rfl T67 (by decide) (Fld.snd Fld.refl rfl) (isR rfl)) ?_
      refine st (ldS T67 (isR rfl)) ?_
      refine en fun a w e' hf => ?_
      replace hNW := Nat.le_trans hNW e'.size
      replace hT := hT.ext e'
      replace HV := Dv.ex HV e'
      replace HS := HS.ext e'
      replace c := c.ext e'
      replace BF := BF.ext e'
      replace Bf := Bf.ext e'
      replace B1 := B1.ext e'
      replace BN := BN.ext e'
      replace HM := HM.ext e'
      replace B3 := B3.ext e'
      replace B5 := B5.ext e'
      clear e'
      haveI hinr : ∀ G0, InR (GB W G0) (some b5) := fun G0 => InR.gb (by omega)
      refine tl_stW T67 hf rfl rfl (wordsC_one _) B5 rfl (rfl) fun w hg hsz B5 hf => ?_
      replace hNW := Nat.le_trans hNW (Nat.le_of_eq hsz.symm)
      replace hT := hT.gr hg (by omega)
      replace HV := Dv.gr HV hg (by first | exact .inl (.inl rfl) | exact .inr (by omega))
      replace HS := HS.gr hg (by first | exact .inl hGn | exact .inr (by omega))
      replace c := c.gr hg (by first | exact .inl (.inl rfl) | exact .inr (by omega))
      replace BF := BF.gr hg (by omega)
      replace Bf := Bf.gr hg (by omega)
      replace B1 := B1.gr hg (by omega)
      replace BN := BN.gr hg (by omega)
      replace HM := HM.gr hg (by omega)
      replace B3 := B3.gr hg (by omega)
      clear hg
      refine tl_nil ?_
      rw [ea] at B5
      replace hf := hf.keep [1, 2, 3, 5]
      dsimp only [keep, List.filterMap, look, Nat.beq, Option.map] at hf
      exact ⟨rfl, hf, c, hT, hNW, BF, Bf, B1, B3, B5, HV, HM, _, BN, HS⟩
    · have hup := of_decide_eq_false hb
      have ea : (0 : BS) = aheadS t b := by rw [aheadS, if_pos (by omega)]
      rw [ea] at B5
      refine wskip ?_
      replace hf := hf.keep [1, 2, 3, 5]
      dsimp only [keep, List.filterMap, look, Nat.beq, Option.map] at hf
      refine ⟨rfl, hf, c, hT, hNW, BF, Bf, B1, B3, B5, HV, HM, cells, BN, ?_⟩
      rw [show deepN t nd b = (nd b).2.2.2.2 from by rw [deepN, if_pos (by omega)], show ((nd b).1, (nd b).2.1, (nd b).2.2.1, (nd b).2.2.2.1, (nd b).2.2.2.2) = nd b from rfl, un_self]
      exact HS
  clear hf c hT hNW BF Bf B1 B3 B5 HV HM BN HS
  obtain ⟨hf, c, hT, hNW, BF, Bf, B1, B3, B5, HV, HM, cells1, BN, HS⟩ := hJ
  try simp only [Exit.then]
  obtain ⟨nd1, hnd1⟩ : ∃ nd1, nd1 = un nd b ((nd b).1, (nd b).2.1, (nd b).2.2.1, (nd b).2.2.2.1, deepN t nd b) := ⟨_, rfl⟩
  rw [← hnd1] at HS ⊢
  obtain ⟨Nz, hNz⟩ : ∃ Nz, Nz = w.heap.size := ⟨_, rfl⟩
  repeat refine seq ?_
  refine reg 8 Mix.mix hf (by decide +kernel) ?_
  refine st (ld1 T23 rfl B1 rfl) ?_
  refine st (ld1 T3 rfl B3 rfl) ?_
  refine st (idxD Tryz.underlying23 S70 (isE rfl HV) rfl (by omega) (bg_get hbl)) ?_
  refine st (fldD Tryz.underlying70 rfl T67 (by decide) (Fld.snd Fld.refl rfl) (isR rfl)) ?_
  refine st (ldS T67 (isR rfl)) ?_
  refine st (ldW T67 rfl B5 rfl) ?_
  refine st (call2 En82 rfl rfl (fun v u w he h h' => by cases h; cases h'; exact minus_spec _ _ w)) ?_
  refine st (call1 (A := SeqA Nz (topsS t b)) En58 rfl (fun v w' he h => by cases h; rw [topsS_ahead hr hbl]; exact Calls.mono (all_spec _ w') (fun en w2 ⟨u, h1, h2, b', h3, h4, h5⟩ => ⟨u, h1, h2, b', by have := he.size; omega, h4, h5⟩))) ?_
  refine en fun a w e' hf => ?_
  replace hNW := Nat.le_trans hNW e'.size
  replace hT := hT.ext e'
  replace HV := Dv.ex HV e'
  replace HS := HS.ext e'
  replace c := c.ext e'
  replace BF := BF.ext e'
  replace Bf := Bf.ext e'
  replace B1 := B1.ext e'
  replace BN := BN.ext e'
  replace HM := HM.ext e'
  replace B3 := B3.ext e'
  replace B5 := B5.ext e'
  clear e'
  refine tl_nil ?_
  obtain ⟨v, ⟨b42, h42, rfl, BS⟩, hf⟩ := hf.fix 42 rfl
  replace hf := hf.keep [2, 3, 42]
  dsimp only [keep, List.filterMap, look, Nat.beq, Option.map] at hf
  refine blk ?_
  have lF' := BF.lt
  have lf' := Bf.lt
  have l3' := B3.lt
  have ln' := BN.lt
  have lm' := HM.lt
  have h0w : 0 < w.heap.size := hT.lt
  refine range_all (S := topsS t b) hf rfl BS (by decide) (fun s w1 => CJ G W t.length nd1 bF bn bm bf b3 b fv cells1 cnt m s w1) (fun _ _ => False) (fun s w1 h => h.t) ⟨c, hT, hNW, ⟨BF, Bf⟩, B3, BN, HS, by rw [mIn_nil]; exact HM⟩ (fun s w1 w2 h hs k => h.kp k hNW h0w lF' lf' l3' ln' lm')
    (fun _ _ _ h => h.elim) ?_ ?_ (fun _ _ _ _ _ _ h => h.elim)
  · intro l s x rest a1 w1 hs hJ hlw hf
    have hx1024 : x < 1024 := (mem_elems.1 (by rw [hs]; simp)).1
    have hsl : s.length ≤ 1024 := by have := elems_len (topsS t b); rw [hs] at this; simp at this; omega
    generalize hBz : w.heap.size = Bz at *
    refine regn0 ?_
    refine tl_as hf rfl (by decide) fun a hf => ?_
    refine tl_nil ?_
    simp only [Exit.then]
    refine ⟨Kh.rfl' _ _, fun w3 k3 hsz3 => ?_⟩
    have hJ3 := hJ.kp k3 hNW h0w lF' lf' l3' ln' lm'
    have hWB := hNW
    clear c hT hNW BF Bf B3 BN HS HM HV B1 B5 BS hBz
    replace hf := hf.pure w3
    obtain ⟨c, hT, hNW, ⟨BF, Bf⟩, B3, BN, HS, HM⟩ := hJ3
    have kh := Kh.rfl' Bz w3
    replace hf := hf.keep [2, 3, 6]
    dsimp only [keep, List.filterMap, look, Nat.beq, Option.map] at hf
    repeat refine seq ?_
    refine blk ?_
    repeat refine seq ?_
    refine reg 6 Mix.mix hf (by decide +kernel) ?_
    refine st (ld1 T27 rfl (by assumption) rfl) ?_
    refine st (nilE rfl) ?_
    refine st (fldA Tryz.underlying92 rfl T90 (by decide) rfl) ?_
    refine st (ld1 T90 rfl BF rfl) ?_
    refine st (mv rfl) ?_
    refine st (ld1 T3 rfl B3 rfl) ?_
    refine en fun a w e' hf => ?_
    replace hNW := Nat.le_trans hNW e'.size
    replace hT := hT.ext e'
    replace HS := HS.ext e'
    replace c := c.ext e'
    replace kh := kh.tr (Kh.ext e')
    replace BF := BF.ext e'
    replace Bf := Bf.ext e'
    replace B3 := B3.ext e'
    replace BN := BN.ext e'
    replace HM := HM.ext e'
    clear e'
    refine tl_mput Tryz.underlying3 Tryz.underlying3 Tryz.underlying90 hf rfl rfl rfl HM (by simp only [maxLen]; omega) (wf_small (by omega)) (wf_small (by omega)) fun w hg HM hf => ?_
    replace c := c.gr hg (.inl (.inr rfl))
    replace hNW := Nat.le_trans hNW hg.size
    replace hT := hT.gr hg h0m
    replace HS := HS.gr hg (.inl hGm)
    replace kh := kh.tr (Kh.gr hg (fun hh => by have := hh.1; omega))
    replace BF := BF.gr hg nFm
    replace Bf := Bf.gr hg nfm
    replace B3 := B3.gr hg n3.2.2.2.2.1
    replace BN := BN.gr hg nnm
    rw [mIn_app] at HM
    refine tl_nil ?_
    simp only [Exit.inBlock]
    exact ⟨⟨c, hT, hNW, ⟨BF, Bf⟩, B3, BN, HS, by rw [List.length_append]; exact HM⟩, kh⟩
  · intro a' w' hf' hJ hsz hD
    simp only [Exit.inBlock, ↓reduceIte]
    show LeavesInM _ _ _ _ _ _ _ _ _
    rw [hf'.defers]
    have cs := chg_shut [w.heap.size] w'
    refine leaves [w.heap.size] w' ⟨by simp, by simpa using hD⟩ (results_none rfl _ _ _) ?_
    have nS : ∀ {b}, b < w.heap.size → ¬ b ∈ [w.heap.size] := fun h h' => by rw [List.mem_singleton] at h'; omega
    refine ⟨_, rfl, hJ.c.tr2 cs fun b hb => .inr (by rw [List.mem_singleton] at hb; omega), trivial, ⟨cells1, hJ.bn.ch cs (nS ln'), ?_⟩, cnt + (elems (topsS t b)).length, by have := elems_len (topsS t b); omega, ?_⟩
    · exact (hJ.ns.ch cs fun b hb => .inr (by rw [List.mem_singleton] at hb; omega)).weak fun _ _ h => .inl h
    · have := hJ.mp.ch cs (nS lm')
      rwa [mIn_elems] at this
end Go.Mono

namespace Go.Mono
open Go Go.Proofs Go.RowKit

/-- node i of the finished frame -/
def nodeR (xs : List RB) (i : Nat) : Nd := (kids xs (i : Nat), lightR xs (i : Nat), sizeR xs (i : Nat), heavyR xs (i : Nat), (depthR xs i : Nat))
/-- node i while New runs: dn: who is done; cm: who has been come to -/
def ndS (xs : List RB) (dn cm : Nat → Bool) (i : Nat) : Nd :=
  (kids xs (i : Nat), if dn i = true then lightR xs (i : Nat) else [], if dn i = true then sizeR xs (i : Nat) else 0, if dn i = true then heavyR xs (i : Nat) else 0, if cm i = true then ((depthR xs i : Nat) : Int) else 0)
def mS (xs : List RB) (cm : Nat → Bool) : Int → Option Int := fun id => if (decide (0 ≤ homeR xs id) && cm (homeR xs id).toNat) = true then some (homeR xs id) else none
/-- f, and b -/
def orb (f : Nat → Bool) (b : Nat) : Nat → Bool := fun i => f i || decide (i = b)
theorem has_tops {t : List (Int × BS)} (hr : Rng t) {b : Nat} (hb : b < t.length) (y : Int) : has (topsS t b) y = topB (toT t) y b := by
  by_cases hf : fitsB y = true
  · have h := fitsB_iff.1 hf
    obtain ⟨k, rfl⟩ : ∃ k : Nat, y = (k : Int) := ⟨y.toNat, by omega⟩
    rw [← topsS_bit hr hb (by omega), has, hf, Int.toNat_natCast]; rfl
  · have hf' : fitsB y = false := by simpa using hf
    rw [has, hf', topB, toT_hs hb, hasL_toL, has, hf']; rfl
theorem ndS_come {t : List (Int × BS)} {xs : List RB} (hx : xs = toT t) (V : Vals xs) {b : Nat} (hb : b < xs.length) {dn cm : Nat → Bool} (hu : up xs b < 0 ∨ cm (up xs b).toNat = true) :
    un (ndS xs dn cm) b ((ndS xs dn cm b).1, (ndS xs dn cm b).2.1, (ndS xs dn cm b).2.2.1, (ndS xs dn cm b).2.2.2.1, deepN t (ndS xs dn cm) b) = ndS xs dn (orb cm b) := by
  have hbt : b < t.length := by rw [hx, toT_len] at hb; exact hb
  have eu : up xs b = (bg t b).1 := by rw [hx, toT_up hbt]
  funext i
  by_cases hi : i = b
  · subst hi
    rw [un_same]
    have : deepN t (ndS xs dn cm) i = ((depthR xs i : Nat) : Int) := by
      rw [deepN, ← eu]
      rcases up_cases V hb with h | ⟨p, hp, h⟩
      · rw [if_pos (by omega)]
        have h0 : depthR xs i = 0 := by rw [depthR_eq, ab_root (by omega)]; rfl
        simp only [ndS, h0]
        split <;> rfl
      · rw [if_neg (by omega), h, Int.toNat_natCast]
        have hc : cm p = true := by
          rcases hu with hu | hu
          · omega
          · rwa [h, Int.toNat_natCast] at hu
        have := depth_step V hb h
        simp only [ndS, hc, if_true]
        omega
    rw [this]
    simp [ndS, orb]
  · rw [un_ne hi]
    simp [ndS, orb, hi]
theorem mS_come {t : List (Int × BS)} {xs : List RB} (hx : xs = toT t) (V : Vals xs) (hr : Rng t) {b : Nat} (hb : b < xs.length) {cm : Nat → Bool} :
    (fun y => if has (topsS t b) y = true then some (b : Int) else mS xs cm y) = mS xs (orb cm b) := by
  have hbt : b < t.length := by rw [hx, toT_len] at hb; exact hb
  funext y
  simp only [has_tops hr hbt, ← hx]
  by_cases h : topB xs y b = true
  · have hh := homeR_top V.uni hb h
    rw [if_pos h, mS, hh, Int.toNat_natCast]
    simp [orb]
  · rw [if_neg h]
    rcases homeR_cases xs y with ⟨h1, _⟩ | ⟨k, k1, k2, k3⟩
    · simp [mS, h1]
    · have : k ≠ b := fun e => by subst e; exact h k3
      simp [mS, k2, orb, this]
theorem ndS_leave {xs : List RB} {dn cm : Nat → Bool} {b : Nat} :
    un (ndS xs dn cm) b (kids xs (b : Nat), lightR xs (b : Nat), sizeR xs (b : Nat), heavyR xs (b : Nat), (ndS xs dn cm b).2.2.2.2) = ndS xs (orb dn b) cm := by
  funext i
  by_cases hi : i = b
  · subst hi
    rw [un_same]
    simp [ndS, orb]
  · rw [un_ne hi]
    simp [ndS, orb, hi]
theorem ind_inj {a b : Bool} (h : ind a = ind b) : a = b := by cases a <;> cases b <;> simp [ind] at h ⊢
theorem ind_any {α : Type} (f : α → Bool) : ∀ l : List α, (l.map fun k => ind (f k)).sum = 0 ↔ l.any f = false
  | [] => by simp
  | x :: l => by
    have := ind_any f l
    rw [List.map_cons, List.sum_cons, List.any_cons]
    cases hx : f x
    · rw [Bool.false_or, show ind false = 0 from rfl, Nat.zero_add]; exact this
    · rw [Bool.true_or, show ind true = 1 from rfl]
      exact ⟨fun h => by omega, fun h => by cases h⟩
/-- who lies below b -/
theorem dsc_any {xs : List RB} (V : Vals xs) {b i : Nat} (hi : i < xs.length) : dsc xs b i = (decide (i = b) || (kidN xs b).any fun c => dsc xs c i) := by
  have h := dsc_split V (b := b) i hi
  have h2 := ind_any (fun c => dsc xs c i) (kidN xs b)
  cases h3 : (kidN xs b).any fun c => dsc xs c i
  · rw [h2.2 h3, Nat.add_zero] at h
    rw [ind_inj h, Bool.or_false]
  · rw [Bool.or_true]
    cases h4 : dsc xs b i
    · rw [h4] at h
      have h0 : ind false = 0 := rfl
      have : ((kidN xs b).map fun k => ind (dsc xs k i)).sum = 0 := by omega
      rw [h2.1 this] at h3; cases h3
    · rfl
/-- f, and those below the first k kids of b -/
def orK (xs : List RB) (b k : Nat) (f : Nat → Bool) : Nat → Bool := fun i => f i || ((kidN xs b).take k).any fun c => dsc xs c i
def orD (xs : List RB) (b : Nat) (f : Nat → Bool) : Nat → Bool := fun i => f i || dsc xs b i
theorem orK_zero (xs : List RB) (b : Nat) (f : Nat → Bool) : orK xs b 0 f = f := by funext i; simp [orK]
theorem orK_succ {xs : List RB} {b k j : Nat} {f : Nat → Bool} (h : (kidN xs b)[k]? = some j) : orD xs j (orK xs b k f) = orK xs b (k + 1) f := by
  funext i
  rw [orK, take_succ_get h, List.any_append]
  simp [orD, orK, Bool.or_assoc]
theorem orK_all {xs : List RB} (V : Vals xs) {b : Nat} {f : Nat → Bool} {i : Nat} (hi : i < xs.length) : orb (orK xs b (kidN xs b).length f) b i = orD xs b f i := by
  show ((f i || ((kidN xs b).take (kidN xs b).length).any fun c => dsc xs c i) || decide (i = b)) = (f i || dsc xs b i)
  rw [List.take_length, dsc_any V hi, Bool.or_assoc, Bool.or_comm (decide (i = b))]
theorem orK_all2 {xs : List RB} (V : Vals xs) {b : Nat} {f : Nat → Bool} {i : Nat} (hi : i < xs.length) : orK xs b (kidN xs b).length (orb f b) i = orD xs b f i := by
  show ((f i || decide (i = b)) || ((kidN xs b).take (kidN xs b).length).any fun c => dsc xs c i) = (f i || dsc xs b i)
  rw [List.take_length, dsc_any V hi, Bool.or_assoc]

/-- where New stands -/
structure St (xs : List RB) (G : Nat → Prop) (bn bm : Nat) (dn cm : Nat → Bool) (q : Nat) (w : World) : Prop where
  n : ∃ cells, Blk w bn cells 130 ∧ NS xs.length G (ndS xs dn cm) cells w
  m : ∃ cnt, cnt ≤ 1024 * q ∧ MapR Tryz.prog 3 3 w bm cnt (mS xs cm)
theorem St.ext {xs : List RB} {G : Nat → Prop} {bn bm : Nat} {dn cm : Nat → Bool} {q : Nat} {w w' : World} (h : St xs G bn bm dn cm q w) (e : Ext w w') : St xs G bn bm dn cm q w' := by
  obtain ⟨⟨cells, h1, h2⟩, cnt, h3, h4⟩ := h
  exact ⟨⟨cells, h1.ext e, h2.ext e⟩, cnt, h3, h4.ext e⟩
theorem St.congr {xs : List RB} {G : Nat → Prop} {bn bm : Nat} {dn cm dn' cm' : Nat → Bool} {q q' : Nat} {w : World} (h : St xs G bn bm dn cm q w) (h1 : ∀ i, i < xs.length → dn i = dn' i) (h2 : ∀ i, i < xs.length → cm i = cm' i) (hq : q ≤ q') : St xs G bn bm dn' cm' q' w := by
  obtain ⟨⟨cells, a1, a2⟩, cnt, a3, a4⟩ := h
  refine ⟨⟨cells, a1, a2.congr fun i hi => by simp only [ndS, h1 i hi, h2 i hi]⟩, cnt, Nat.le_trans a3 (Nat.mul_le_mul_left _ hq), ?_⟩
  have : mS xs cm = mS xs cm' := by
    funext y
    rcases homeR_cases xs y with ⟨h, _⟩ | ⟨k, k1, k2, _⟩
    · simp [mS, h]
    · simp [mS, k2, h2 k k1]
  rwa [← this]
/-- what stays as it is -/
structure Kc (t : List (Int × BS)) (G : Nat → Prop) (bF bn bm bf b1 : Nat) (tv fv : Value) (w : World) : Prop where
  tab : Tab w
  g : ∀ c, G c → c < w.heap.size
  f : FB w bF bn bm bf t.length fv
  b1 : Blk w b1 #[tv] 23
  v : (Dv treeE (Sn bn bm) t).p tv w
theorem Kc.ch {t : List (Int × BS)} {G : Nat → Prop} {bF bn bm bf b1 : Nat} {tv fv : Value} {w w' : World} (h : Kc t G bF bn bm bf b1 tv fv w) (c : Chg (Sn bn bm) w w') (hGn : G bn) (hGm : G bm) (h0n : 0 < bn) (h0m : 0 < bm) (ne : bF ≠ bn ∧ bF ≠ bm ∧ bf ≠ bn ∧ bf ≠ bm ∧ b1 ≠ bn ∧ b1 ≠ bm) : Kc t G bF bn bm bf b1 tv fv w' := by
  have hS : ∀ b, Sn bn bm b → G b := by rintro b (rfl | rfl) <;> assumption
  exact ⟨h.tab.ch c (by unfold Sn; omega), fun b hb => Nat.lt_of_lt_of_le (h.g b hb) c.size, h.f.ch c (by unfold Sn; omega) (by unfold Sn; omega), h.b1.ch c (by unfold Sn; omega), Dv.ch h.v c fun b hb => hb⟩
theorem Kc.ext {t : List (Int × BS)} {G : Nat → Prop} {bF bn bm bf b1 : Nat} {tv fv : Value} {w w' : World} (h : Kc t G bF bn bm bf b1 tv fv w) (e : Ext w w') : Kc t G bF bn bm bf b1 tv fv w' :=
  ⟨h.tab.ext e, fun b hb => Nat.lt_of_lt_of_le (h.g b hb) e.size, h.f.ext e, h.b1.ext e, Dv.ex h.v e⟩

/-- how many bags come is through with behind the first k kids -/
def qTo (xs : List RB) (b k : Nat) : Nat := 1 + (((kidN xs b).take k).map fun c => cnt xs c).sum
theorem qTo_succ {xs : List RB} {b k j : Nat} (h : (kidN xs b)[k]? = some j) : qTo xs b (k + 1) = qTo xs b k + cnt xs j := by
  rw [qTo, take_succ_get h, List.map_append, List.sum_append, qTo]
  simp; omega
theorem qTo_le {xs : List RB} (V : Vals xs) {b : Nat} (hb : b < xs.length) (k : Nat) : qTo xs b k ≤ cnt xs b := by
  rw [qTo, cnt_eq V hb]
  conv => rhs; rw [← List.take_append_drop k (kidN xs b), List.map_append, List.sum_append]
  omega
theorem qTo_all {xs : List RB} (V : Vals xs) {b : Nat} (hb : b < xs.length) : qTo xs b (kidN xs b).length = cnt xs b := by
  rw [qTo, cnt_eq V hb, List.take_length]

theorem fdown_spec (t : List (Int × BS)) (xs : List RB) (hx : xs = toT t) (V : Vals xs) (hl : xs.length ≤ 4096) (hr : Rng t) (G : Nat → Prop) (bF bn bm bf b1 : Nat) (tv fv : Value) (hGn : G bn) (hGm : G bm) (h0n : 0 < bn) (h0m : 0 < bm) (ne : bF ≠ bn ∧ bF ≠ bm ∧ bf ≠ bn ∧ bf ≠ bm ∧ b1 ≠ bn ∧ b1 ≠ bm) :
    ∀ b, b < xs.length → ∀ (dn cm : Nat → Bool) (q : Nat) (W : World), Kc t G bF bn bm bf b1 tv fv W → St xs G bn bm dn cm q W → (up xs b < 0 ∨ cm (up xs b).toNat = true) → q + cnt xs b ≤ 5000 →
    Calls Tryz.prog 79 #[.pointer (some ⟨bF, 0, none⟩), I (b : Nat), .func (.func 81) #[] #[.pointer (some ⟨b1, 0, none⟩), .pointer (some ⟨bf, 0, none⟩)], .func (.func 83) #[] #[.pointer (some ⟨bf, 0, none⟩)]] W
      (fun e w' => ∃ v, e = .returned v ∧ Chg (Sn bn bm) W w' ∧ Any.p v w' ∧ St xs G bn bm (orD xs b dn) (orD xs b cm) (q + cnt xs b) w') := by
  have htl : xs.length = t.length := by rw [hx, toT_len]
  refine tree_up V fun b hbl ih => ?_
  intro dn cm q W K S hu hq
  have hkl : (kids xs (b : Nat)).length = (kidN xs b).length := by rw [kids_eq, List.length_map]
  have hkl2 := kids_len xs (b : Nat)
  refine enter (args := [.pointer (some ⟨bF, 0, none⟩), I (b : Nat), .func (.func 81) #[] #[.pointer (some ⟨b1, 0, none⟩), .pointer (some ⟨bf, 0, none⟩)], .func (.func 83) #[] #[.pointer (some ⟨bf, 0, none⟩)]]) (As := [E (.pointer (some ⟨bF, 0, none⟩)), E (I (b : Nat)), E (.func (.func 81) #[] #[.pointer (some ⟨b1, 0, none⟩), .pointer (some ⟨bf, 0, none⟩)]), E (.func (.func 83) #[] #[.pointer (some ⟨bf, 0, none⟩)])]) Tryz.func79 rfl Tryz.ntmps79 (Nat.le_of_ble_eq_true rfl) ?_ (fun a hf => ?_) (Nat.le_of_ble_eq_true rfl)
  rotate_left
  dsimp only [params, Nat.reduceAdd] at hf
  rotate_right
  · exact argC rfl (argC rfl (argC rfl (argC rfl argZ)))
  have c := Chg.rfl' (Sn bn bm) W
  have hdp : ∀ (dn cm : Nat → Bool) i, i < t.length → 0 ≤ (ndS xs dn cm i).2.2.2.2 ∧ (ndS xs dn cm i).2.2.2.2 ≤ 100000 := fun dn cm i hi => by
    have := depth_le V (i := i) (by omega)
    simp only [ndS]
    split <;> omega
  have hSG : ∀ b, Sn bn bm b → G b := by rintro b (rfl | rfl) <;> assumption
  repeat refine seq ?_
  refine regn 2 hf (by decide +kernel) ?_
  refine st (mv rfl) ?_
  refine st (mv rfl) ?_
  refine en fun a w e' hf => ?_
  replace c := c.ext e'
  replace S := S.ext e'
  replace K := K.ext e'
  clear e'
  have v11 : a.eval (.tmp 11) = I (b : Nat) := hf.val 11 _ rfl
  refine tl_callV (S := Sn bn bm) (F := fun w' => St xs G bn bm dn (orb cm b) (q + 1) w') (A := Any) hf (by decide) En81 rfl ?_ fun a w hc S hf => ?_
  · obtain ⟨⟨cells, BN, HS⟩, cnt, hcq, HM⟩ := S
    have h := come_spec t (by omega) hr G (ndS xs dn cm) bF bn bm bf b1 b tv fv cells cnt (mS xs cm) w K.tab K.g hGn hGm h0n h0m (by omega) K.f K.b1 K.v BN (by rw [← htl]; exact HS) HM (by omega) (hdp dn cm)
    rw [ndS_come hx V hbl hu, mS_come hx V hr hbl] at h
    have h' := Calls.mono h (R' := fun e w' => ∃ v, e = .returned v ∧ Chg (Sn bn bm) w w' ∧ Any.p v w' ∧ St xs G bn bm dn (orb cm b) (q + 1) w') (fun e w' ⟨v, h1, h2, h3, ⟨cells', h4, h5⟩, cnt', h6, h7⟩ => ⟨v, h1, h2, h3, ⟨cells', h4, by rw [htl]; exact h5⟩, cnt', by omega, h7⟩)
    simpa [v11] using h'
  replace K := K.ch hc hGn hGm h0n h0m ne
  replace c := c.tr hc
  clear hc v11
  refine tl_nil ?_
  replace hf := hf.keep [0, 1, 2, 3]
  dsimp only [keep, List.filterMap, look, Nat.beq, Option.map] at hf
  obtain ⟨⟨cells, BN, HS⟩, HMx⟩ := S
  obtain ⟨kv, hkv, HK⟩ := HS.kids_at hbl
  have S : St xs G bn bm dn (orb cm b) (q + 1) w := ⟨⟨cells, BN, HS⟩, HMx⟩
  clear HMx
  repeat refine seq ?_
  refine regn 10 hf (by decide +kernel) ?_
  refine st (mv rfl) ?_
  refine st (nilE rfl) ?_
  refine st (fldA Tryz.underlying92 rfl T89 (by decide) rfl) ?_
  refine st (ld1 T89 rfl K.f.f (show (_ : Array Value)[0 + 1]? = some (.slice (some ⟨bn, 0, none⟩) t.length t.length) from rfl)) ?_
  refine st (mv rfl) ?_
  refine st (idxS Tryz.underlying89 S130 rfl rfl (by omega)) ?_
  refine st (fldA Tryz.underlying130 rfl T59 (by decide) rfl) ?_
  refine st ((ld1 T59 rfl BN hkv).as (A := Dv (slE intE) G (kids xs (b : Nat))) HK) ?_
  refine st (lenD Tryz.underlying59 (isR rfl)) ?_
  refine st (mv rfl) ?_
  refine en fun a w e' hf => ?_
  replace c := c.ext e'
  replace S := S.ext e'
  replace K := K.ext e'
  clear e'
  refine tl_nil ?_
  clear BN HS hkv HK
  haveI hinS : InS G (Sn bn bm) := ⟨hSG⟩
  rw [hkl] at hf
  replace hf := hf.keep [0, 1, 2, 3, 20, 21, 22]
  dsimp only [keep, List.filterMap, look, Nat.beq, Option.map] at hf
  rw [show orb cm b = orK xs b 0 (orb cm b) from (orK_zero _ _ _).symm, show dn = orK xs b 0 dn from (orK_zero _ _ _).symm, show q + 1 = q + qTo xs b 0 from rfl] at S
  repeat refine seq ?_
  refine blk (loopN (fun r0 a w => ∃ (k : Nat), r0 = (kidN xs b).length - k ∧ k ≤ (kidN xs b).length ∧ Fr 35 a w [(0, E (.pointer (some ⟨bF, 0, none⟩))), (1, E (I (b : Nat))), (2, E (.func (.func 81) #[] #[.pointer (some ⟨b1, 0, none⟩), .pointer (some ⟨bf, 0, none⟩)])), (3, E (.func (.func 83) #[] #[.pointer (some ⟨bf, 0, none⟩)])),
      (20, Dv (slE intE) G (kids xs (b : Nat))), (21, E (I ((kidN xs b).length : Nat))), (22, E (I k))] ∧ Chg (Sn bn bm) W w ∧ Kc t G bF bn bm bf b1 tv fv w ∧ St xs G bn bm (orK xs b k dn) (orK xs b k (orb cm b)) (q + qTo xs b k) w) (kidN xs b).length ⟨0, rfl, by omega, hf, c, K, S⟩ ?_)
  clear hf c K S
  rintro r0 a w ⟨k, rfl, hk, hf, c, K, S⟩
  repeat refine seq ?_
  refine regn 1 hf (by decide +kernel) ?_
  refine st (lss rfl rfl) ?_
  refine en fun a w e' hf => ?_
  replace c := c.ext e'
  replace S := S.ext e'
  replace K := K.ext e'
  clear e'
  refine tl_nil ?_
  repeat refine seq ?_
  refine ifc hf rfl (fun hc => wskip ?_) (fun hc => wexit ?_)
  · have hlt : k < (kidN xs b).length := by have := of_decide_eq_true hc; omega
    clear hc
    replace hf := hf.keep [0, 1, 2, 3, 20, 21, 22]
    dsimp only [keep, List.filterMap, look, Nat.beq, Option.map] at hf
    obtain ⟨j, hj⟩ : ∃ j, (kidN xs b)[k]? = some j := ⟨_, List.getElem?_eq_getElem hlt⟩
    obtain ⟨j1, j2⟩ := mem_kidN.1 (List.mem_of_getElem? hj)
    have hj' : (kids xs (b : Nat))[k]? = some (j : Int) := by rw [kids_eq, List.getElem?_map, hj]; rfl
    have hqs := qTo_succ hj
    have hqle := qTo_le V hbl (k + 1)
    repeat refine seq ?_
    refine blk ?_
    repeat refine seq ?_
    refine regn 2 hf (by decide +kernel) ?_
    refine st (idxD Tryz.underlying59 S3 (isR rfl) rfl (by omega) (hj')) ?_
    refine st (ldI T3 (isR rfl)) ?_
    refine en fun a w e' hf => ?_
    replace c := c.ext e'
    replace S := S.ext e'
    replace K := K.ext e'
    clear e'
    refine tl_as hf rfl (by decide) fun a hf => ?_
    refine tl_nil ?_
    replace hf := hf.keep [0, 1, 2, 3, 9, 20, 21, 22]
    dsimp only [keep, List.filterMap, look, Nat.beq, Option.map] at hf
    repeat refine seq ?_
    refine regn 4 hf (by decide +kernel) ?_
    refine st (mv rfl) ?_
    refine st (mv rfl) ?_
    refine st (mv rfl) ?_
    refine st (mv rfl) ?_
    refine en fun a w e' hf => ?_
    replace c := c.ext e'
    replace S := S.ext e'
    replace K := K.ext e'
    clear e'
    have v26 : a.eval (.tmp 26) = .pointer (some ⟨bF, 0, none⟩) := hf.val 26 _ rfl
    have v27 : a.eval (.tmp 27) = I (j : Nat) := hf.val 27 _ rfl
    have v28 : a.eval (.tmp 28) = .func (.func 81) #[] #[.pointer (some ⟨b1, 0, none⟩), .pointer (some ⟨bf, 0, none⟩)] := hf.val 28 _ rfl
    have v29 : a.eval (.tmp 29) = .func (.func 83) #[] #[.pointer (some ⟨bf, 0, none⟩)] := hf.val 29 _ rfl
    refine tl_callF (S := Sn bn bm) (F := fun w' => St xs G bn bm (orK xs b (k + 1) dn) (orK xs b (k + 1) (orb cm b)) (q + qTo xs b (k + 1)) w') (A := Any) hf (by decide) En79 ?_ fun a w hc S hf => ?_
    · have h := ih j j1 j2 (orK xs b k dn) (orK xs b k (orb cm b)) (q + qTo xs b k) w K S (.inr (by rw [j2, Int.toNat_natCast]; simp [orK, orb])) (by omega)
      rw [orK_succ hj, orK_succ hj, Nat.add_assoc, ← hqs] at h
      simpa [v26, v27, v28, v29] using h
    replace K := K.ch hc hGn hGm h0n h0m ne
    replace c := c.tr hc
    clear hc v26 v27 v28 v29
    refine tl_nil ?_
    try simp only [Exit.then, Exit.inBlock, ↓reduceIte]
    replace hf := hf.keep [0, 1, 2, 3, 20, 21, 22]
    dsimp only [keep, List.filterMap, look, Nat.beq, Option.map] at hf
    repeat refine seq ?_
    refine regn 1 hf (by decide +kernel) ?_
    refine st ((add rfl rfl (by omega)).eq (congrArg (Value.int .i64) (show (k : Int) + 1 = ((k + 1 : Nat) : Int) from rfl))) ?_
    refine en fun a w e' hf => ?_
    replace c := c.ext e'
    replace S := S.ext e'
    replace K := K.ext e'
    clear e'
    refine tl_op hf (by decide) (mv rfl) fun a w e' hf => ?_
    replace c := c.ext e'
    replace S := S.ext e'
    replace K := K.ext e'
    clear e'
    refine tl_nil ?_
    replace hf := hf.keep [0, 1, 2, 3, 20, 21, 22]
    dsimp only [keep, List.filterMap, look, Nat.beq, Option.map] at hf
    exact ⟨(kidN xs b).length - (k + 1), by omega, k + 1, rfl, by omega, hf, c, K, S⟩
  · obtain rfl : k = (kidN xs b).length := by have := of_decide_eq_false hc; omega
    simp only [Exit.then, Exit.inBlock, ↓reduceIte]
    replace hf := hf.keep [0, 1, 2, 3]
    dsimp only [keep, List.filterMap, look, Nat.beq, Option.map] at hf
    rw [qTo_all V hbl] at S
    repeat refine seq ?_
    refine regn 2 hf (by decide +kernel) ?_
    refine st (mv rfl) ?_
    refine st (mv rfl) ?_
    refine en fun a w e' hf => ?_
    replace c := c.ext e'
    replace S := S.ext e'
    replace K := K.ext e'
    clear e'
    have v33 : a.eval (.tmp 33) = I (b : Nat) := hf.val 33 _ rfl
    refine tl_callV (S := Sn bn bm) (F := fun w' => St xs G bn bm (orD xs b dn) (orD xs b cm) (q + cnt xs b) w') (A := Any) hf (by decide) En83 rfl ?_ fun a w hc S hf => ?_
    · obtain ⟨⟨cells, BN, HS⟩, cnt, hcq, HM⟩ := S
      have h := leave_spec xs V (by omega) G (ndS xs (orK xs b (kidN xs b).length dn) (orK xs b (kidN xs b).length (orb cm b))) bF bn bm bf b fv cells w K.g hGn hbl (by rw [htl]; exact K.f) BN HS rfl (fun i i1 i2 => by
        have hm : i ∈ kidN xs b := mem_kidN.2 ⟨i1, i2⟩
        have : orK xs b (kidN xs b).length dn i = true := by
          rw [orK, List.take_length]
          simp only [Bool.or_eq_true, List.any_eq_true]
          exact .inr ⟨i, hm, dsc_self _ _⟩
        simp only [ndS, this, if_true])
      rw [ndS_leave] at h
      have nnm : bn ≠ bm := fun he => by
        obtain ⟨D, ⟨es, clock, h3, _⟩, _⟩ := HM
        have h1 := BN
        rw [he] at h1; unfold Blk at h1; rw [h1] at h3; cases h3
      have h' := Calls.mono h (R' := fun e w' => ∃ v, e = .returned v ∧ Chg (Sn bn bm) w w' ∧ Any.p v w' ∧ St xs G bn bm (orD xs b dn) (orD xs b cm) (q + Go.Mono.cnt xs b) w') (fun e w' ⟨v, h1, h2, h3, cells', h4, h5⟩ =>
        ⟨v, h1, h2.to fun b _ h => .inl h, h3, St.congr (dn := orb (orK xs b (kidN xs b).length dn) b) (cm := orK xs b (kidN xs b).length (orb cm b)) ⟨⟨cells', h4, h5⟩, cnt, hcq, HM.ch h2 fun h => nnm h.symm⟩ (fun i hi => orK_all V hi) (fun i hi => orK_all2 V hi) (Nat.le_refl _)⟩)
      simpa [v33] using h'
    replace c := c.tr hc
    refine tl_nil ?_
    refine ret0n rfl hf ?_
    exact ⟨_, rfl, c, trivial, S⟩
end Go.Mono

namespace Go.Mono.Pop

theorem land_step (k M c z : Nat) (hc : c < 2 ^ k) : z &&& (2 ^ k * M + c) = 2 ^ k * ((z / 2 ^ k) &&& M) + ((z % 2 ^ k) &&& c) := by
  have h1 : (z % 2 ^ k) &&& c < 2 ^ k := Nat.lt_of_le_of_lt Nat.and_le_right hc
  apply Nat.eq_of_testBit_eq
  intro i
  rw [Nat.testBit_and, Nat.testBit_two_pow_mul_add _ hc, Nat.testBit_two_pow_mul_add _ h1]
  split
  · rename_i hi
    rw [Nat.testBit_and, Nat.testBit_mod_two_pow]
    simp [hi]
  · rename_i hi
    rw [Nat.testBit_and, Nat.testBit_div_two_pow]
    congr 2
    omega
theorem land256 (M c z : Nat) (hc : c < 256) : z &&& (256 * M + c) = 256 * ((z / 256) &&& M) + ((z % 256) &&& c) := land_step 8 M c z hc

def mask (c : Nat) : Nat → Nat
  | 0 => 0
  | n + 1 => 256 * mask c n + c
def pc (b : Nat) : Nat := (List.range 8).countP fun i => b.testBit i
/-- the bytes' counts, each in its byte -/
def F : Nat → Nat → Nat
  | 0, _ => 0
  | n + 1, x => pc (x % 256) + 256 * F n (x / 256)
def sA (m x : Nat) : Nat := ((x / 2) &&& m) + (x &&& m)
def sB (m x : Nat) : Nat := ((x / 4) &&& m) + (x &&& m)
def sC (m x : Nat) : Nat := (x / 16 + x) &&& m

theorem kA : ∀ b, b < 256 → ∀ e, e < 2 → (b / 2 + 128 * e) &&& 85 = (b / 2) &&& 85 := by decide +kernel
theorem kA2 : ∀ b, b < 256 → sA 85 b < 256 := by decide +kernel
theorem kB : ∀ b, b < 256 → ∀ e, e < 4 → (b / 4 + 64 * e) &&& 51 = (b / 4) &&& 51 := by decide +kernel
theorem kB2 : ∀ b, b < 256 → sB 51 (sA 85 b) < 256 ∧ sB 51 (sA 85 b) % 16 < 5 := by decide +kernel
theorem kC : ∀ b, b < 256 → ∀ e, e < 5 → e * 16 + (sB 51 (sA 85 b) / 16 + sB 51 (sA 85 b)) < 256 ∧ (e * 16 + (sB 51 (sA 85 b) / 16 + sB 51 (sA 85 b))) &&& 15 = pc b := by decide +kernel
theorem pc_le : ∀ b, b < 256 → pc b ≤ 8 := by decide +kernel

theorem stepA (n x : Nat) : sA (mask 85 (n + 1)) x = sA 85 (x % 256) + 256 * sA (mask 85 n) (x / 256) := by
  unfold sA
  rw [mask, land256 _ _ _ (by decide), land256 _ _ _ (by decide)]
  have h1 : x / 2 / 256 = x / 256 / 2 := by omega
  have h2 : x / 2 % 256 = x % 256 / 2 + 128 * (x / 256 % 2) := by omega
  rw [h1, h2, kA _ (Nat.mod_lt _ (by decide)) _ (Nat.mod_lt _ (by decide))]
  omega
theorem stepB (n y : Nat) : sB (mask 51 (n + 1)) y = sB 51 (y % 256) + 256 * sB (mask 51 n) (y / 256) := by
  unfold sB
  rw [mask, land256 _ _ _ (by decide), land256 _ _ _ (by decide)]
  have h1 : y / 4 / 256 = y / 256 / 4 := by omega
  have h2 : y / 4 % 256 = y % 256 / 4 + 64 * (y / 256 % 4) := by omega
  rw [h1, h2, kB _ (Nat.mod_lt _ (by decide)) _ (Nat.mod_lt _ (by decide))]
  omega
theorem AB (n x : Nat) : sB (mask 51 (n + 1)) (sA (mask 85 (n + 1)) x) = sB 51 (sA 85 (x % 256)) + 256 * sB (mask 51 n) (sA (mask 85 n) (x / 256)) := by
  have h := kA2 (x % 256) (Nat.mod_lt _ (by decide))
  rw [stepA, stepB]
  have h1 : (sA 85 (x % 256) + 256 * sA (mask 85 n) (x / 256)) % 256 = sA 85 (x % 256) := by omega
  have h2 : (sA 85 (x % 256) + 256 * sA (mask 85 n) (x / 256)) / 256 = sA (mask 85 n) (x / 256) := by omega
  rw [h1, h2]
theorem AB_low : ∀ (n x : Nat), sB (mask 51 n) (sA (mask 85 n) x) % 16 < 5
  | 0, x => by simp [sB, sA, mask]
  | n + 1, x => by
    rw [AB]
    have := (kB2 (x % 256) (Nat.mod_lt _ (by decide))).2
    omega
theorem ABC : ∀ (n x : Nat), sC (mask 15 n) (sB (mask 51 n) (sA (mask 85 n) x)) = F n x
  | 0, x => by simp [sC, mask, F]
  | n + 1, x => by
    have hb := Nat.mod_lt x (show 256 > 0 by decide)
    have hq := AB_low n (x / 256)
    have ih := ABC n (x / 256)
    obtain ⟨k1, k2⟩ := kC _ hb _ hq
    have k3 := (kB2 _ hb).1
    rw [AB, F, ← ih]
    generalize sB (mask 51 n) (sA (mask 85 n) (x / 256)) = q at *
    generalize sB 51 (sA 85 (x % 256)) = b at *
    unfold sC
    rw [mask, land256 _ _ _ (by decide)]
    have h1 : (b + 256 * q) / 16 + (b + 256 * q) = 256 * (q / 16 + q) + (q % 16 * 16 + (b / 16 + b)) := by omega
    rw [h1]
    have h2 : (256 * (q / 16 + q) + (q % 16 * 16 + (b / 16 + b))) / 256 = q / 16 + q := by omega
    have h3 : (256 * (q / 16 + q) + (q % 16 * 16 + (b / 16 + b))) % 256 = q % 16 * 16 + (b / 16 + b) := by omega
    rw [h2, h3, k2]
    omega
theorem masks : mask 85 8 = 6148914691236517205 ∧ mask 51 8 = 3689348814741910323 ∧ mask 15 8 = 1085102592571150095 := by decide

/-- the bytes' sum -/
def G : Nat → Nat → Nat
  | 0, _ => 0
  | n + 1, x => pc (x % 256) + G n (x / 256)
def V : List Nat → Nat
  | [] => 0
  | a :: l => a + 256 * V l
def addL : List Nat → List Nat → List Nat
  | [], m => m
  | l, [] => l
  | a :: l, b :: m => (a + b) :: addL l m
theorem V_add : ∀ l m, V (addL l m) = V l + V m
  | [], m => by simp [addL, V]
  | a :: l, [] => by simp [addL, V]
  | a :: l, b :: m => by simp only [addL, V, V_add l m]; omega
theorem V_div : ∀ (k : Nat) (l : List Nat), (∀ a ∈ l, a < 256) → V l / 256 ^ k = V (l.drop k)
  | 0, l, _ => by simp
  | k + 1, [], _ => by simp [V]
  | k + 1, a :: l, h => by
    have h1 : V (a :: l) / 256 = V l := by
      have := h a (by simp)
      simp only [V]
      omega
    rw [Nat.pow_succ, Nat.mul_comm, ← Nat.div_div_eq_div_mul, h1, V_div k l (fun x hx => h x (by simp [hx]))]
    simp
theorem V_lt : ∀ (l : List Nat), (∀ a ∈ l, a < 256) → V l < 256 ^ l.length
  | [], _ => by simp [V]
  | a :: l, h => by
    have h1 := h a (by simp)
    have h2 := V_lt l (fun x hx => h x (by simp [hx]))
    simp only [V, List.length_cons, Nat.pow_succ]
    omega
theorem addL_le (x y : Nat) : ∀ (l m : List Nat), (∀ a ∈ l, a ≤ x) → (∀ a ∈ m, a ≤ y) → ∀ a ∈ addL l m, a ≤ x + y
  | [], m, _, h2 => fun a ha => by have := h2 a (by simpa [addL] using ha); omega
  | a :: l, [], h1, _ => fun b hb => by have := h1 b (by simpa [addL] using hb); omega
  | a :: l, b :: m, h1, h2 => fun c hc => by
    simp only [addL, List.mem_cons] at hc
    rcases hc with rfl | hc
    · have := h1 a (by simp); have := h2 b (by simp); omega
    · exact addL_le x y l m (fun x hx => h1 x (by simp [hx])) (fun x hx => h2 x (by simp [hx])) c hc
theorem addL_len : ∀ (l m : List Nat), m.length ≤ l.length → (addL l m).length = l.length
  | [], [], _ => rfl
  | a :: l, [], _ => rfl
  | a :: l, b :: m, h => by simp only [addL, List.length_cons] at h ⊢; rw [addL_len l m (by omega)]
/-- one step: a number of eight bytes, no more than b each, and itself shifted down by k bytes -/
theorem stepV (k b : Nat) (l : List Nat) (hl : l.length = 8) (hb : ∀ a ∈ l, a ≤ b) (h : b + b < 256) :
    (V l + V l / 256 ^ k) % 18446744073709551616 = V (addL l (l.drop k)) ∧ (addL l (l.drop k)).length = 8 ∧ ∀ a ∈ addL l (l.drop k), a ≤ b + b := by
  have hd : ∀ a ∈ l.drop k, a ≤ b := fun a ha => hb a (List.mem_of_mem_drop ha)
  have h3 := addL_le b b l (l.drop k) hb hd
  have h2 := addL_len l (l.drop k) (by simp)
  refine ⟨?_, by omega, h3⟩
  rw [V_div k l (fun a ha => by have := hb a ha; omega), ← V_add]
  refine Nat.mod_eq_of_lt ?_
  have := V_lt (addL l (l.drop k)) (fun a ha => by have := h3 a ha; omega)
  rw [h2, hl] at this
  exact this
def bytes (x : Nat) : List Nat := [pc (x % 256), pc (x / 256 % 256), pc (x / 256 / 256 % 256), pc (x / 256 / 256 / 256 % 256), pc (x / 256 / 256 / 256 / 256 % 256), pc (x / 256 / 256 / 256 / 256 / 256 % 256),
  pc (x / 256 / 256 / 256 / 256 / 256 / 256 % 256), pc (x / 256 / 256 / 256 / 256 / 256 / 256 / 256 % 256)]
theorem F_V (x : Nat) : F 8 x = V (bytes x) := rfl
theorem bytes_le (x : Nat) : ∀ a ∈ bytes x, a ≤ 8 := by
  intro a ha
  simp only [bytes, List.mem_cons, List.not_mem_nil, or_false] at ha
  rcases ha with rfl | rfl | rfl | rfl | rfl | rfl | rfl | rfl <;> exact pc_le _ (Nat.mod_lt _ (by decide))
theorem head_sum : ∀ p0 p1 p2 p3 p4 p5 p6 p7 : Nat, ∃ t, addL (addL (addL [p0, p1, p2, p3, p4, p5, p6, p7] [p1, p2, p3, p4, p5, p6, p7]) ((addL [p0, p1, p2, p3, p4, p5, p6, p7] [p1, p2, p3, p4, p5, p6, p7]).drop 2)) ((addL (addL [p0, p1, p2, p3, p4, p5, p6, p7] [p1, p2, p3, p4, p5, p6, p7]) ((addL [p0, p1, p2, p3, p4, p5, p6, p7] [p1, p2, p3, p4, p5, p6, p7]).drop 2)).drop 4) = (p0 + p1 + (p2 + p3) + (p4 + p5 + (p6 + p7))) :: t := by
  intros
  exact ⟨_, rfl⟩
theorem fold8 (x y4 y5 y6 : Nat) (h4 : y4 = (F 8 x + F 8 x / 256) % 18446744073709551616) (h5 : y5 = (y4 + y4 / 65536) % 18446744073709551616) (h6 : y6 = (y5 + y5 / 4294967296) % 18446744073709551616) :
    y6 % 128 = G 8 x := by
  rw [F_V] at h4
  obtain ⟨a1, a2, a3⟩ := stepV 1 8 (bytes x) rfl (bytes_le x) (by decide)
  rw [Nat.pow_one] at a1
  rw [a1] at h4
  obtain ⟨b1, b2, b3⟩ := stepV 2 16 _ a2 a3 (by decide)
  rw [h4, show (65536 : Nat) = 256 ^ 2 from rfl, b1] at h5
  obtain ⟨c1, c2, c3⟩ := stepV 4 32 _ b2 b3 (by decide)
  rw [h5, show (4294967296 : Nat) = 256 ^ 4 from rfl, c1] at h6
  obtain ⟨t, ht⟩ := head_sum (pc (x % 256)) (pc (x / 256 % 256)) (pc (x / 256 / 256 % 256)) (pc (x / 256 / 256 / 256 % 256)) (pc (x / 256 / 256 / 256 / 256 % 256)) (pc (x / 256 / 256 / 256 / 256 / 256 % 256))
    (pc (x / 256 / 256 / 256 / 256 / 256 / 256 % 256)) (pc (x / 256 / 256 / 256 / 256 / 256 / 256 / 256 % 256))
  have hb := bytes_le x
  simp only [bytes, List.mem_cons, List.not_mem_nil, or_false, forall_eq_or_imp, forall_eq] at hb
  have h7 : y6 = V ((pc (x % 256) + pc (x / 256 % 256) + (pc (x / 256 / 256 % 256) + pc (x / 256 / 256 / 256 % 256)) + (pc (x / 256 / 256 / 256 / 256 % 256) + pc (x / 256 / 256 / 256 / 256 / 256 % 256) +
    (pc (x / 256 / 256 / 256 / 256 / 256 / 256 % 256) + pc (x / 256 / 256 / 256 / 256 / 256 / 256 / 256 % 256)))) :: t) := by
    rw [h6, ← ht]
    rfl
  rw [h7]
  simp only [V, G]
  obtain ⟨g0, g1, g2, g3, g4, g5, g6, g7⟩ := hb
  generalize pc (x % 256) = p0 at *
  generalize pc (x / 256 % 256) = p1 at *
  generalize pc (x / 256 / 256 % 256) = p2 at *
  generalize pc (x / 256 / 256 / 256 % 256) = p3 at *
  generalize pc (x / 256 / 256 / 256 / 256 % 256) = p4 at *
  generalize pc (x / 256 / 256 / 256 / 256 / 256 % 256) = p5 at *
  generalize pc (x / 256 / 256 / 256 / 256 / 256 / 256 % 256) = p6 at *
  generalize pc (x / 256 / 256 / 256 / 256 / 256 / 256 / 256 % 256) = p7 at *
  clear a1 a2 a3 b1 b2 b3 c1 c2 c3 h4 h5 h6 h7 ht
  generalize V t = z
  omega
theorem range_split (n : Nat) (f : Nat → Bool) : (List.range (8 * (n + 1))).countP f = (List.range 8).countP f + (List.range (8 * n)).countP (fun i => f (i + 8)) := by
  rw [show 8 * (n + 1) = 8 + 8 * n by omega, List.range_add, List.countP_append, List.countP_map]
  congr 1
  refine List.countP_congr fun i _ => ?_
  simp [Function.comp, Nat.add_comm]
theorem count_G : ∀ (n x : Nat), (List.range (8 * n)).countP (fun i => x.testBit i) = G n x
  | 0, x => rfl
  | n + 1, x => by
    rw [range_split, G, ← count_G n (x / 256)]
    congr 1
    · unfold pc
      refine List.countP_congr fun i hi => ?_
      have := List.mem_range.1 hi
      rw [show (256 : Nat) = 2 ^ 8 from rfl, Nat.testBit_mod_two_pow]
      simp [this]
    · refine List.countP_congr fun i _ => ?_
      rw [show (256 : Nat) = 2 ^ 8 from rfl, Nat.testBit_div_two_pow]
end Go.Mono.Pop

namespace Go.Mono
open Go Go.Proofs Go.RowKit

def popw (x : BitVec 64) : Nat := (List.range 64).countP fun i => x.getLsbD i
theorem popw_le (x : BitVec 64) : popw x ≤ 64 := by
  have := List.countP_le_length (p := fun i => x.getLsbD i) (l := List.range 64)
  simpa [popw] using this
theorem popw_G (x : BitVec 64) : popw x = Pop.G 8 x.toNat := by
  rw [← Pop.count_G 8 x.toNat]
  rfl
theorem pop_calc (x x1 x2 x3 x4 x5 x6 : BitVec 64) (h1 : x1 = ((x >>> 1) &&& 6148914691236517205#64) + (x &&& 6148914691236517205#64)) (h2 : x2 = ((x1 >>> 2) &&& 3689348814741910323#64) + (x1 &&& 3689348814741910323#64))
    (h3 : x3 = ((x2 >>> 4) + x2) &&& 1085102592571150095#64) (h4 : x4 = x3 + (x3 >>> 8)) (h5 : x5 = x4 + (x4 >>> 16)) (h6 : x6 = x5 + (x5 >>> 32)) : (x6 &&& 127#64).toNat = popw x := by
  have e1 : x1.toNat = Pop.sA (Pop.mask 85 8) x.toNat := by
    rw [h1, Pop.masks.1, BitVec.toNat_add, BitVec.toNat_and, BitVec.toNat_and, BitVec.toNat_ushiftRight, Nat.shiftRight_eq_div_pow]
    show ((x.toNat / 2 &&& 6148914691236517205) + (x.toNat &&& 6148914691236517205)) % 2 ^ 64 = _
    have a1 := @Nat.and_le_right (x.toNat / 2) 6148914691236517205
    have a2 := @Nat.and_le_right x.toNat 6148914691236517205
    rw [Nat.mod_eq_of_lt (by omega)]
    rfl
  have e2 : x2.toNat = Pop.sB (Pop.mask 51 8) x1.toNat ∧ x2.toNat ≤ 7378697629483820646 := by
    rw [h2, Pop.masks.2.1, BitVec.toNat_add, BitVec.toNat_and, BitVec.toNat_and, BitVec.toNat_ushiftRight, Nat.shiftRight_eq_div_pow]
    show ((x1.toNat / 4 &&& 3689348814741910323) + (x1.toNat &&& 3689348814741910323)) % 2 ^ 64 = _ ∧ ((x1.toNat / 4 &&& 3689348814741910323) + (x1.toNat &&& 3689348814741910323)) % 2 ^ 64 ≤ _
    have a1 := @Nat.and_le_right (x1.toNat / 4) 3689348814741910323
    have a2 := @Nat.and_le_right x1.toNat 3689348814741910323
    rw [Nat.mod_eq_of_lt (by omega)]
    exact ⟨rfl, by omega⟩
  have e3 : x3.toNat = Pop.sC (Pop.mask 15 8) x2.toNat := by
    rw [h3, Pop.masks.2.2, BitVec.toNat_and, BitVec.toNat_add, BitVec.toNat_ushiftRight, Nat.shiftRight_eq_div_pow]
    show (x2.toNat / 16 + x2.toNat) % 2 ^ 64 &&& 1085102592571150095 = _
    rw [Nat.mod_eq_of_lt (by omega)]
    rfl
  have e3' : x3.toNat = Pop.F 8 x.toNat := by rw [e3, e2.1, e1, Pop.ABC]
  have e4 : x4.toNat = (Pop.F 8 x.toNat + Pop.F 8 x.toNat / 256) % 18446744073709551616 := by
    rw [h4, BitVec.toNat_add, BitVec.toNat_ushiftRight, Nat.shiftRight_eq_div_pow, e3']
  have e5 : x5.toNat = (x4.toNat + x4.toNat / 65536) % 18446744073709551616 := by
    rw [h5, BitVec.toNat_add, BitVec.toNat_ushiftRight, Nat.shiftRight_eq_div_pow]
  have e6 : x6.toNat = (x5.toNat + x5.toNat / 4294967296) % 18446744073709551616 := by
    rw [h6, BitVec.toNat_add, BitVec.toNat_ushiftRight, Nat.shiftRight_eq_div_pow]
  have := Pop.fold8 _ _ _ _ e4 e5 e6
  rw [popw_G, ← this, BitVec.toNat_and]
  exact Nat.and_two_pow_sub_one_eq_mod x6.toNat 7

theorem andI {P : Program} {w0 : World} {L : Env} {dst : Option Tmp} {ty : TypeId} {pos : String} {aft : Array Edge} {g : Option (Nat × Bool)} {x y : Operand} {t yt : TypeId} {a b : Int}
    (hx : opd L x = some (E (.int .i64 a))) (hy : opd L y = some (E (.int .i64 b))) :
    OpC P w0 L ⟨dst, .binOp .and t x y yt, ty, pos, aft, g⟩ (E (.int .i64 (IntKind.i64.wrap ((BitVec.ofInt 64 a &&& BitVec.ofInt 64 b).toNat : Int)))) :=
  binInt rfl hx hy
theorem ofInt_wrap (x : BitVec 64) : BitVec.ofInt 64 (IntKind.i64.wrap (x.toNat : Int)) = x := by
  apply BitVec.eq_of_toInt_eq
  rw [BitVec.toInt_ofInt]
  have := x.isLt
  rw [BitVec.toInt_eq_toNat_bmod]
  rw [IntKind.wrap_i64]
  simp only [Int.bmod]
  split <;> split <;> omega
theorem and127 {x : BitVec 64} {n : Nat} (h : (x &&& 127#64).toNat = n) (hn : n ≤ 64) : IntKind.i64.wrap ((BitVec.ofInt 64 (IntKind.i64.wrap (x.toNat : Int)) &&& BitVec.ofInt 64 127).toNat : Int) = n := by
  rw [ofInt_wrap]
  have e : BitVec.ofInt 64 127 = 127#64 := by decide
  rw [e, h]
  exact IntWalk.i64_in _ (by omega)

theorem ones_spec (x : BitVec 64) (W : World) : Calls Tryz.prog 126 #[Mono.W x] W (Post (E (I (popw x))) W) := by
  obtain ⟨x1, h1⟩ : ∃ x1, x1 = ((x >>> 1) &&& 6148914691236517205#64) + (x &&& 6148914691236517205#64) := ⟨_, rfl⟩
  obtain ⟨x2, h2⟩ : ∃ x2, x2 = ((x1 >>> 2) &&& 3689348814741910323#64) + (x1 &&& 3689348814741910323#64) := ⟨_, rfl⟩
  obtain ⟨x3, h3⟩ : ∃ x3, x3 = ((x2 >>> 4) + x2) &&& 1085102592571150095#64 := ⟨_, rfl⟩
  obtain ⟨x4, h4⟩ : ∃ x4, x4 = x3 + (x3 >>> 8) := ⟨_, rfl⟩
  obtain ⟨x5, h5⟩ : ∃ x5, x5 = x4 + (x4 >>> 16) := ⟨_, rfl⟩
  obtain ⟨x6, h6⟩ : ∃ x6, x6 = x5 + (x5 >>> 32) := ⟨_, rfl⟩
  have hc := and127 (pop_calc x x1 x2 x3 x4 x5 x6 h1 h2 h3 h4 h5 h6) (popw_le x)
  refine enter (args := [Mono.W x]) (As := [E (Mono.W x)]) Tryz.func126 rfl Tryz.ntmps126 (Nat.le_of_ble_eq_true rfl) ?_ (fun a hf => ?_) (Nat.le_of_ble_eq_true rfl)
  rotate_left
  dsimp only [params, Nat.reduceAdd] at hf
  rotate_right
  · exact arg1 rfl
  have e := Ext.rfl' W
  repeat refine seq ?_
  refine regn0 ?_
  refine tl_as hf rfl (by decide) fun a hf => ?_
  refine tl_nil ?_
  replace hf := hf.keep [0]
  dsimp only [keep, List.filterMap, look, Nat.beq, Option.map] at hf
  repeat refine seq ?_
  refine regn 6 hf (by decide +kernel) ?_
  refine st (mv rfl) ?_
  refine st (shrW rfl rfl (by omega)) ?_
  refine st (andW (v := 6148914691236517205#64) rfl rfl) ?_
  refine st (mv rfl) ?_
  refine st (andW (v := 6148914691236517205#64) rfl rfl) ?_
  refine st ((addW rfl rfl).eq (show Mono.W _ = Mono.W x1 from by rw [h1]; rfl)) ?_
  refine en fun a w e' hf => ?_
  replace e := Ext.tr e e'
  clear e'
  refine tl_as hf rfl (by decide) fun a hf => ?_
  refine tl_nil ?_
  replace hf := hf.keep [0]
  dsimp only [keep, List.filterMap, look, Nat.beq, Option.map] at hf
  repeat refine seq ?_
  refine regn 6 hf (by decide +kernel) ?_
  refine st (mv rfl) ?_
  refine st (shrW rfl rfl (by omega)) ?_
  refine st (andW (v := 3689348814741910323#64) rfl rfl) ?_
  refine st (mv rfl) ?_
  refine st (andW (v := 3689348814741910323#64) rfl rfl) ?_
  refine st ((addW rfl rfl).eq (show Mono.W _ = Mono.W x2 from by rw [h2]; rfl)) ?_
  refine en fun a w e' hf => ?_
  replace e := Ext.tr e e'
  clear e'
  refine tl_as hf rfl (by decide) fun a hf => ?_
  refine tl_nil ?_
  replace hf := hf.keep [0]
  dsimp only [keep, List.filterMap, look, Nat.beq, Option.map] at hf
  repeat refine seq ?_
  refine regn 5 hf (by decide +kernel) ?_
  refine st (mv rfl) ?_
  refine st (shrW rfl rfl (by omega)) ?_
  refine st (mv rfl) ?_
  refine st (addW rfl rfl) ?_
  refine st ((andW (v := 1085102592571150095#64) rfl rfl).eq (show Mono.W _ = Mono.W x3 from by rw [h3]; rfl)) ?_
  refine en fun a w e' hf => ?_
  replace e := Ext.tr e e'
  clear e'
  refine tl_as hf rfl (by decide) fun a hf => ?_
  refine tl_nil ?_
  replace hf := hf.keep [0]
  dsimp only [keep, List.filterMap, look, Nat.beq, Option.map] at hf
  repeat refine seq ?_
  refine regn 4 hf (by decide +kernel) ?_
  refine st (mv rfl) ?_
  refine st (mv rfl) ?_
  refine st (shrW rfl rfl (by omega)) ?_
  refine st ((addW rfl rfl).eq (show Mono.W _ = Mono.W x4 from by rw [h4]; rfl)) ?_
  refine en fun a w e' hf => ?_
  replace e := Ext.tr e e'
  clear e'
  refine tl_as hf rfl (by decide) fun a hf => ?_
  refine tl_nil ?_
  replace hf := hf.keep [0]
  dsimp only [keep, List.filterMap, look, Nat.beq, Option.map] at hf
  repeat refine seq ?_
  refine regn 4 hf (by decide +kernel) ?_
  refine st (mv rfl) ?_
  refine st (mv rfl) ?_
  refine st (shrW rfl rfl (by omega)) ?_
  refine st ((addW rfl rfl).eq (show Mono.W _ = Mono.W x5 from by rw [h5]; rfl)) ?_
  refine en fun a w e' hf => ?_
  replace e := Ext.tr e e'
  clear e'
  refine tl_as hf rfl (by decide) fun a hf => ?_
  refine tl_nil ?_
  replace hf := hf.keep [0]
  dsimp only [keep, List.filterMap, look, Nat.beq, Option.map] at hf
  repeat refine seq ?_
  refine regn 4 hf (by decide +kernel) ?_
  refine st (mv rfl) ?_
  refine st (mv rfl) ?_
  refine st (shrW rfl rfl (by omega)) ?_
  refine st ((addW rfl rfl).eq (show Mono.W _ = Mono.W x6 from by rw [h6]; rfl)) ?_
  refine en fun a w e' hf => ?_
  replace e := Ext.tr e e'
  clear e'
  refine tl_as hf rfl (by decide) fun a hf => ?_
  refine tl_nil ?_
  replace hf := hf.keep [0]
  dsimp only [keep, List.filterMap, look, Nat.beq, Option.map] at hf
  repeat refine seq ?_
  refine regn 3 hf (by decide +kernel) ?_
  refine st (mv rfl) ?_
  refine st (convI Tryz.underlying65 Tryz.underlying3 rfl) ?_
  refine st ((andI rfl rfl).eq (congrArg (Value.int .i64) hc)) ?_
  refine en fun a w e' hf => ?_
  replace e := Ext.tr e e'
  clear e'
  refine tl_as hf rfl (by decide) fun a hf => ?_
  refine tl_nil ?_
  refine wret (ret1 rfl hf rfl ?_)
  rintro v rfl
  exact ⟨_, rfl, e, rfl⟩

/-- the number of elements -/
def card (S : BS) : Nat := (List.range 1024).countP fun i => S.getLsbD i
def cardTo (S : BS) (k : Nat) : Nat := (List.range (64 * k)).countP fun i => S.getLsbD i
theorem cardTo_succ (S : BS) (k : Nat) : cardTo S (k + 1) = cardTo S k + popw (word S k) := by
  unfold cardTo popw
  rw [show 64 * (k + 1) = 64 * k + 64 by omega, List.range_add, List.countP_append, List.countP_map]
  refine congrArg (fun n => (List.range (64 * k)).countP (fun i => S.getLsbD i) + n) (List.countP_congr fun i hi => ?_)
  have := List.mem_range.1 hi
  simp [word_bit _ _ _ this]
theorem cardTo_16 (S : BS) : cardTo S 16 = card S := by simp only [cardTo, card, Nat.reduceMul]
theorem cardTo_le (S : BS) (k : Nat) : cardTo S k ≤ 64 * k := by
  have := List.countP_le_length (p := fun i => S.getLsbD i) (l := List.range (64 * k))
  simpa [cardTo] using this

theorem len_spec (S : BS) (W : World) : Calls Tryz.prog 77 #[setV S] W (Post (E (I (card S))) W) := by
  refine enter (args := [setV S]) (As := [E (setV S)]) Tryz.func77 rfl Tryz.ntmps77 (Nat.le_of_ble_eq_true rfl) ?_ (fun a hf => ?_) (Nat.le_of_ble_eq_true rfl)
  rotate_left
  dsimp only [params, Nat.reduceAdd] at hf
  rotate_right
  · exact arg1 rfl
  have e := Ext.rfl' W
  repeat refine seq ?_
  refine regn0 ?_
  refine tl_box hf rfl (by decide) fun a b1 w v1 hv1 e' hb1 hs1 B1 hf => ?_
  have hle1 := Nat.le_trans e.size (Nat.le_of_eq hb1.symm)
  replace e := Ext.tr e e'
  clear e'
  refine tl_as hf rfl (by decide) fun a hf => ?_
  refine tl_nil ?_
  subst hv1
  rw [setV_cells] at B1
  repeat refine seq ?_
  refine regn0 ?_
  refine tl_as hf rfl (by decide) fun a hf => ?_
  refine tl_nil ?_
  repeat refine seq ?_
  refine regn 2 hf (by decide +kernel) ?_
  refine st (ldW T67 rfl (by assumption) rfl) ?_
  refine st (mv rfl) ?_
  refine en fun a w e' hf => ?_
  replace e := Ext.tr e e'
  replace B1 := B1.ext e'
  clear e'
  refine tl_nil ?_
  replace hf := hf.keep [3, 6, 7]
  dsimp only [keep, List.filterMap, look, Nat.beq, Option.map] at hf
  repeat refine seq ?_
  refine blk (loopN (fun r a w => ∃ k : Nat, r = 16 - k ∧ k ≤ 16 ∧ Fr 16 a w [(3, E (I (cardTo S k))), (6, E (setV S)), (7, E (I k))] ∧ Ext W w) 16 ⟨0, rfl, by omega, hf, e⟩ ?_)
  clear hf e B1
  rintro r a w ⟨k, rfl, hk, hf, e⟩
  by_cases hlt : k < 16
  · repeat refine seq ?_
    refine regn 1 hf (by decide +kernel) ?_
    refine st ((lss rfl rfl).eq (congrArg Value.bool (show decide ((k : Int) < 16) = true from decide_eq_true (by omega)))) ?_
    refine en fun a w e' hf => ?_
    replace e := Ext.tr e e'
    clear e'
    refine tl_nil ?_
    repeat refine seq ?_
    refine ifc hf rfl (fun _ => wskip ?_) (fun h => by cases h)
    repeat refine seq ?_
    refine blk ?_
    repeat refine seq ?_
    refine regn 1 hf (by decide +kernel) ?_
    refine st (idxV Tryz.underlying67 T65 rfl rfl (by omega) (by simpa [setC] using wordsC_get (word S) k hlt)) ?_
    refine en fun a w e' hf => ?_
    replace e := Ext.tr e e'
    clear e'
    refine tl_as hf rfl (by decide) fun a hf => ?_
    refine tl_nil ?_
    have hp := popw_le (word S k)
    have hq := cardTo_le S k
    repeat refine seq ?_
    refine regn 4 hf (by decide +kernel) ?_
    refine st (mv rfl) ?_
    refine st (mv rfl) ?_
    refine st (call1 En126 rfl (fun v w' e' h => by cases h; exact ones_spec _ w')) ?_
    refine st ((add rfl rfl (by omega)).eq (congrArg (Value.int .i64) (show ((cardTo S k : Nat) : Int) + (popw (word S k) : Nat) = (cardTo S (k + 1) : Nat) from by rw [cardTo_succ]; omega))) ?_
    refine en fun a w e' hf => ?_
    replace e := Ext.tr e e'
    clear e'
    refine tl_as hf rfl (by decide) fun a hf => ?_
    refine tl_nil ?_
    repeat refine seq ?_
    refine regn 1 hf (by decide +kernel) ?_
    refine st (add rfl rfl (by omega)) ?_
    refine en fun a w e' hf => ?_
    replace e := Ext.tr e e'
    clear e'
    refine tl_op hf (by decide) (mv rfl) fun a w e' hf => ?_
    replace e := Ext.tr e e'
    clear e'
    refine tl_nil ?_
    replace hf := hf.keep [3, 6, 7]
    dsimp only [keep, List.filterMap, look, Nat.beq, Option.map] at hf
    exact ⟨16 - (k + 1), by omega, k + 1, rfl, by omega, by simpa using hf, e⟩
  · obtain rfl : k = 16 := by omega
    repeat refine seq ?_
    refine regn 1 hf (by decide +kernel) ?_
    refine st ((lss rfl rfl).eq (congrArg Value.bool (show decide (((16 : Nat) : Int) < 16) = false from rfl))) ?_
    refine en fun a w e' hf => ?_
    replace e := Ext.tr e e'
    clear e'
    refine tl_nil ?_
    repeat refine seq ?_
    refine ifc hf rfl (fun h => by cases h) (fun _ => wexit ?_)
    simp only [Exit.then, Exit.inBlock, ↓reduceIte]
    repeat refine seq ?_
    refine regn 1 hf (by decide +kernel) ?_
    refine st (mv rfl) ?_
    refine en fun a w e' hf => ?_
    replace e := Ext.tr e e'
    clear e'
    refine tl_as hf rfl (by decide) fun a hf => ?_
    refine tl_nil ?_
    refine wret (ret1 rfl hf rfl ?_)
    rintro v rfl
    exact ⟨_, rfl, e, by rw [cardTo_16]; rfl⟩
end Go.Mono

namespace Go.Mono
open Go Go.Proofs Go.RowKit

theorem new1_spec (b : Int × BS) (W : World) : Calls Tryz.prog 76 #[bagV b] W (Post (E (B (decide (4 < card b.2)))) W) := by
  refine enter (args := [bagV b]) (As := [E (bagV b)]) Tryz.func76 rfl Tryz.ntmps76 (Nat.le_of_ble_eq_true rfl) ?_ (fun a hf => ?_) (Nat.le_of_ble_eq_true rfl)
  rotate_left
  dsimp only [params, Nat.reduceAdd] at hf
  rotate_right
  · exact arg1 rfl
  have e := Ext.rfl' W
  repeat refine seq ?_
  refine regn0 ?_
  refine tl_box hf rfl (by decide) fun a b1 w v1 hv1 e' hb1 hs1 B1 hf => ?_
  have hle1 := Nat.le_trans e.size (Nat.le_of_eq hb1.symm)
  replace e := Ext.tr e e'
  clear e'
  refine tl_as hf rfl (by decide) fun a hf => ?_
  refine tl_nil ?_
  cases hv1
  repeat refine seq ?_
  refine regn 4 hf (by decide +kernel) ?_
  refine st (fldA Tryz.underlying70 rfl T67 (by decide) rfl) ?_
  refine st ((ldP T67 rfl B1 (bagC_le _)).eq (bagC_1 _)) ?_
  refine st (call1 En77 rfl (fun v w he h => by cases h; exact len_spec _ w)) ?_
  refine st (gtr rfl rfl) ?_
  refine en fun a w e' hf => ?_
  replace e := Ext.tr e e'
  replace B1 := B1.ext e'
  clear e'
  refine tl_as hf rfl (by decide) fun a hf => ?_
  refine tl_nil ?_
  refine wret ?_
  try simp only [Exit.then, Exit.inBlock]
  refine ret1 rfl hf rfl ?_
  rintro _ rfl
  exact ⟨_, rfl, e, congrArg B (by rw [decide_eq_decide]; omega)⟩

/-- the frame of a tree -/
def frM (t : List (Int × BS)) : Fm := (t, (List.range t.length).map (nodeR (toT t)), mS (toT t) (fun _ => true))
theorem frM_len (t : List (Int × BS)) : (frM t).2.1.length = (frM t).1.length := by simp [frM]
theorem toL_card (S : BS) : (toL S).length = card S := by
  rw [toL, selN, List.length_map, card, List.countP_eq_length_filter]
theorem node_r {G : Nat → Prop} {w : World} {x : Nd} {kv lv : Value} (h1 : (Dv (slE intE) G x.1).p kv w) (h2 : (Dv (slE intE) G x.2.1).p lv w) : nodeE.r G w x [kv, lv, I x.2.2.1, I x.2.2.2.1, I x.2.2.2.2] :=
  ⟨[kv], [lv, I x.2.2.1, I x.2.2.2.1, I x.2.2.2.2], rfl, Dv.r1 rfl h1, [lv], [I x.2.2.1, I x.2.2.2.1, I x.2.2.2.2], rfl, Dv.r1 rfl h2, [I x.2.2.1], [I x.2.2.2.1, I x.2.2.2.2], rfl, rfl, [I x.2.2.2.1], [I x.2.2.2.2], rfl, rfl, rfl⟩
theorem drop5 {l : List Value} {s : Nat} {a b c d e : Value} (h0 : l[s]? = some a) (h1 : l[s + 1]? = some b) (h2 : l[s + 2]? = some c) (h3 : l[s + 3]? = some d) (h4 : l[s + 4]? = some e) : l.drop s = [a, b, c, d, e] ++ l.drop (s + 5) := by
  have g : ∀ {k : Nat} {x : Value}, l[k]? = some x → l.drop k = x :: l.drop (k + 1) := fun {k x} h => by
    obtain ⟨hk, hx⟩ := List.getElem?_eq_some_iff.1 h
    rw [List.drop_eq_getElem_cons hk, hx]
  rw [g h0, g h1, g h2, g h3, g h4]; rfl
theorem NS.cells {n : Nat} {G : Nat → Prop} {nd : Nat → Nd} {cells : Array Value} {w : World} (h : NS n G nd cells w) : ∀ m s, s + m = n → Cells nodeE G w ((List.range' s m).map nd) (cells.toList.drop (s * 5))
  | 0, s, hs => by
    have : cells.toList.drop (s * 5) = [] := List.drop_eq_nil_of_le (by rw [Array.length_toList, h.size]; omega)
    rw [this]; rfl
  | m + 1, s, hs => by
    obtain ⟨kv, lv, h1, h2, h3, h4, h5, h6, h7⟩ := h.nd s (by omega)
    rw [List.range'_succ, List.map_cons]
    have e : ∀ f (v : Value), cells[0 + s * 5 + f]? = some v → cells.toList[s * 5 + f]? = some v := fun f v hv => by rw [Array.getElem?_toList]; rwa [Nat.zero_add] at hv
    refine ⟨_, _, drop5 (e 0 _ h1) (e 1 _ h2) (e 2 _ h3) (e 3 _ h4) (e 4 _ h5), node_r h6 h7, ?_⟩
    have := h.cells m (s + 1) (by omega)
    rwa [Nat.add_mul, Nat.one_mul] at this
theorem NS.dv {n : Nat} {G : Nat → Prop} {nd : Nat → Nd} {cells : Array Value} {w : World} {bn : Nat} (h : NS n G nd cells w) (hb : Blk w bn cells 130) (hG : ¬G bn) : (Dv (slE nodeE) G ((List.range n).map nd)).p (.slice (some ⟨bn, 0, none⟩) n n) w := by
  have hc := h.cells n 0 (Nat.zero_add n)
  rw [Nat.zero_mul, List.drop_zero, ← List.range_eq_range'] at hc
  refine Dv.sl.2 (.inr ⟨⟨bn, 0, none⟩, n, cells.toList, ?_, by simp, hG, hb.lt, hc, fun i u hu => ?_⟩)
  · simp
  · rw [Addr.add_lit, Nat.zero_add, hb.cell i]
    simpa using hu
theorem fr_built (ao : Option Addr) (n c : Nat) (ao' : Option Addr) (n' c' : Nat) (m : Option Nat) : Tryz.prog.built 92 [(0, .slice ao n c), (1, .slice ao' n' c'), (2, .map m)] = some #[.slice ao n c, .slice ao' n' c', .map m] := by kernel_rfl
/-- where the loop over the children stands -/
def nK (xs : List RB) (k i : Nat) : Nd := (if i < k then kids xs (i : Nat) else [], [], 0, 0, 0)
theorem nK_succ (xs : List RB) (k : Nat) : un (nK xs k) k (kids xs (k : Nat), (nK xs k k).2) = nK xs (k + 1) := by
  funext i
  by_cases hi : i = k
  · subst hi; rw [un_same]; simp [nK]
  · rw [un_ne hi]
    have : (i < k + 1) = (i < k) := by apply propext; omega
    simp only [nK, this]
theorem root_all {xs : List RB} (V : Vals xs) {r : Nat} (h1 : ∀ j, j < xs.length → up xs j < 0 → j = r) : ∀ i, i < xs.length → dsc xs r i = true := by
  refine tree_ind V (fun i hi hu => ?_) (fun i j hi hj hu ih => ?_)
  · rw [h1 i hi (by omega)]; exact dsc_self _ _
  · rw [dsc_step V hi hu, ih, Bool.or_true]
theorem kidT_kids {t : List (Int × BS)} (p : Nat) : kidT t t.length p = kids (toT t) (p : Nat) := by
  rw [kidT, kids, toT_len, selN, selN]
  congr 1
  refine List.filter_congr fun i hi => ?_
  rw [toT_up (List.mem_range.1 hi)]
/-- what New answers -/
def NewA (t : List (Int × BS)) (G : Nat → Prop) : VA := ⟨fun v w => (newR (toT t) = 0 ∧ (Dv (ptE frE) G (some (frM t))).p v w) ∨ (newR (toT t) ≠ 0 ∧ v = .pointer none), fun v w w' e h => h.imp (fun h => ⟨h.1, Dv.ex h.2 e⟩) id⟩

theorem fnew_spec {G : Nat → Prop} (t : List (Int × BS)) (v : Value) (W : World) (hT : Tab W) (h : (Dv treeE G t).p v W) (hl : t.length ≤ 1000) :
    Calls Tryz.prog 28 #[v] W (Post (Tup [NewA t (fun b => b < W.heap.size), E (I (newR (toT t)))]) W) := by
  have hd : Rng t → (rootN t).length = 1 → Dp t t.length := fun h1 h2 => Dp.mk' (by omega) h1 h2
  have hck : chkT t t.length = chkR (toT t) := chkT_eq
  have HV : (Dv treeE (GB W Go.Mono.G0) t).p v W := Dv.toB (Dv.weak h fun b _ hb => hb.elim)
  refine enter (args := [v]) (As := [E v]) Tryz.func28 rfl Tryz.ntmps28 (Nat.le_of_ble_eq_true rfl) ?_ (fun a hf => ?_) (Nat.le_of_ble_eq_true rfl)
  rotate_left
  dsimp only [params, Nat.reduceAdd] at hf
  rotate_right
  · exact arg1 rfl
  have e := Ext.rfl' W
  have hT0 := hT.lt
  repeat refine seq ?_
  refine regn0 ?_
  refine tl_box hf rfl (by decide) fun a b1 w v1 hv1 e' hb1 hs1 B1 hf => ?_
  have hle1 := Nat.le_trans e.size (Nat.le_of_eq hb1.symm)
  replace HV := Dv.ex HV e'
  replace hT := hT.ext e'
  replace e := Ext.tr e e'
  clear e'
  refine tl_as hf rfl (by decide) fun a hf => ?_
  refine tl_as hf rfl (by decide) fun a hf => ?_
  refine tl_nil ?_
  cases hv1
  rw [one_cells (Dv.slOne HV)] at B1
  repeat refine seq ?_
  refine regn 2 hf (by decide +kernel) ?_
  refine st (ld1 T23 rfl B1 rfl) ?_
  refine st (call1 En25 rfl (fun v w he h => by cases h; exact chkT_spec t t.length _ w (Dv.ex HV he) (by omega) hd)) ?_
  refine en fun a w e' hf => ?_
  replace HV := Dv.ex HV e'
  replace hT := hT.ext e'
  replace e := Ext.tr e e'
  replace B1 := B1.ext e'
  clear e'
  refine tl_as hf rfl (by decide) fun a hf => ?_
  refine tl_nil ?_
  repeat refine seq ?_
  refine regn 2 hf (by decide +kernel) ?_
  refine st (mv rfl) ?_
  refine st (neq rfl rfl) ?_
  refine en fun a w e' hf => ?_
  replace HV := Dv.ex HV e'
  replace hT := hT.ext e'
  replace e := Ext.tr e e'
  replace B1 := B1.ext e'
  clear e'
  refine tl_nil ?_
  repeat refine seq ?_
  refine ifc hf rfl (fun hb => ?_) (fun hb => ?_)
  · have hb' : chkR (toT t) ≠ 0 := by rw [← hck]; simpa using hb
    have hn : newR (toT t) = chkR (toT t) := by rw [newR, if_pos hb']
    repeat refine seq ?_
    refine regn 1 hf (by decide +kernel) ?_
    refine st (mv rfl) ?_
    refine en fun a w e' hf => ?_
    replace HV := Dv.ex HV e'
    replace hT := hT.ext e'
    replace e := Ext.tr e e'
    replace B1 := B1.ext e'
    clear e'
    refine tl_as hf rfl (by decide) fun a hf => ?_
    refine tl_as hf rfl (by decide) fun a hf => ?_
    refine tl_nil ?_
    refine wret (ret2 rfl hf rfl rfl ?_)
    rintro _ _ rfl rfl
    exact ⟨_, rfl, e, by rw [hn, ← hck]; exact Tup.two (.inr ⟨by rw [hn]; exact hb', rfl⟩) rfl⟩
  have hb' : chkR (toT t) = 0 := by rw [← hck]; simpa using hb
  have hc0 : chkT t t.length = 0 := hck.trans hb'
  obtain ⟨h0, V⟩ := chkR_ok.1 hb'
  rw [toT_len] at h0
  have hr : Rng t := fun i hi => by have := V.range i (by rw [toT_len]; exact hi); rwa [toT_up hi, toT_len] at this
  clear hb
  refine wskip ?_
  try simp only [Exit.then, Exit.inBlock, ↓reduceIte]
  repeat refine seq ?_
  refine blk ?_
  repeat refine seq ?_
  refine regn 3 hf (by decide +kernel) ?_
  refine st (ld1 T23 rfl B1 rfl) ?_
  refine st (lenD Tryz.underlying23 (isE rfl HV)) ?_
  refine st ((gtr rfl rfl).eq (congrArg Value.bool (show decide ((1024 : Int) < (t.length : Nat)) = false from decide_eq_false (by omega)))) ?_
  refine en fun a w e' hf => ?_
  replace HV := Dv.ex HV e'
  replace hT := hT.ext e'
  replace e := Ext.tr e e'
  replace B1 := B1.ext e'
  clear e'
  refine tl_as hf rfl (by decide) fun a hf => ?_
  refine tl_nil ?_
  repeat refine seq ?_
  refine ifc hf rfl (fun h => by cases h) (fun _ => ?_)
  have hbig : newR (toT t) = if ∀ i, i < (toT t).length → (hs (toT t) i).length ≤ 4 then 0 else 14 := by rw [newR, if_neg (Classical.not_not.2 hb')]
  have hcard : (∀ i, i < (toT t).length → (hs (toT t) i).length ≤ 4) ↔ ∀ i, i < t.length → decide (4 < card (bg t i).2) = false := by
    rw [toT_len]
    constructor
    · intro h i hi
      have := h i hi
      rw [toT_hs hi, toL_card] at this
      exact decide_eq_false (by omega)
    · intro h i hi
      have := of_decide_eq_false (h i hi)
      rw [toT_hs hi, toL_card]; omega
  have hfs := fstB_neg (p := fun b => decide (4 < card b.2)) (t := t)
  repeat refine seq ?_
  refine regn 2 hf (by decide +kernel) ?_
  refine st (ld1 T23 rfl B1 rfl) ?_
  refine st (call2 En65 rfl rfl (fun v u w he h h' => by cases h; cases h'; exact containsFunc_spec t _ _ _ (fun b => decide (4 < card b.2)) w En76 (Dv.ex HV he) (fun w' b _ => new1_spec b w') (by omega))) ?_
  refine en fun a w e' hf => ?_
  replace HV := Dv.ex HV e'
  replace hT := hT.ext e'
  replace e := Ext.tr e e'
  replace B1 := B1.ext e'
  clear e'
  refine tl_as hf rfl (by decide) fun a hf => ?_
  refine tl_nil ?_
  repeat refine seq ?_
  refine ifc hf rfl (fun hb => ?_) (fun hb => ?_)
  · have hn : newR (toT t) = 14 := by
      rw [hbig, if_neg]
      intro h
      rw [hfs.2 (hcard.1 h)] at hb; cases hb
    repeat refine seq ?_
    refine regn0 ?_
    refine tl_as hf rfl (by decide) fun a hf => ?_
    refine tl_as hf rfl (by decide) fun a hf => ?_
    refine tl_nil ?_
    refine wret (ret2 rfl hf rfl rfl ?_)
    rintro _ _ rfl rfl
    exact ⟨_, rfl, e, by rw [hn]; exact Tup.two (.inr ⟨by rw [hn]; decide, rfl⟩) rfl⟩
  have hn0 : newR (toT t) = 0 := by rw [hbig, if_pos (hcard.2 (hfs.1 hb))]
  clear hbig hcard hfs hb
  refine wskip ?_
  try simp only [Exit.then, Exit.inBlock, ↓reduceIte]
  replace hf := hf.keep [1]
  dsimp only [keep, List.filterMap, look, Nat.beq, Option.map] at hf
  obtain ⟨Nw, hNw⟩ : ∃ Nw, Nw = w.heap.size := ⟨_, rfl⟩
  have hNW := e.size
  have l1 := B1.lt
  repeat refine seq ?_
  refine reg 9 Mix.mix hf (by decide +kernel) ?_
  refine st (ld1 T23 rfl B1 rfl) ?_
  refine st (call1 (A := OwA bagE 70 W.heap.size Go.Mono.G0 t) En53 rfl (fun v w he h => by cases h; exact treeCloneO_spec W.heap.size t _ w (Dv.ex HV he) (by omega) (Nat.le_trans hNW he.size))) ?_
  refine st (ld1 T23 rfl B1 rfl) ?_
  refine st (lenD Tryz.underlying23 (isE rfl HV)) ?_
  refine st (mkS (t := 89) (te := 130) Tryz.underlying89 I130 rfl (by omega) (by decide)) ?_
  refine st (mkM (k := 3) (e := 3)) ?_
  refine st (bld3 rfl rfl rfl (fun u0 u1 u2 w h0 h1 h2 => by obtain ⟨ao, n, c, rfl⟩ := Dv.slF (OwR.sl h0); obtain ⟨b', _, rfl, _⟩ := h1; obtain ⟨b'', _, rfl, _⟩ := h2; exact fr_built _ _ _ _ _ _ _)) ?_
  refine st (bxD rfl) ?_
  refine st (alD I27) ?_
  refine en fun a w e' hf => ?_
  replace HV := Dv.ex HV e'
  replace hT := hT.ext e'
  replace e := Ext.tr e e'
  replace B1 := B1.ext e'
  clear e'
  obtain ⟨_, ⟨bF, _, hbF, rfl, ⟨u0, _, _, rfl, H0, ⟨bn, hbn, rfl, BN⟩, ⟨bm, hbm, rfl, HM⟩⟩, BF⟩, hf⟩ := hf.fix 27 rfl
  obtain ⟨_, ⟨b5, hb5, rfl, B5⟩, hf⟩ := hf.fix 5 rfl
  rw [← hNw] at hbF hbn hbm hb5
  replace BF : Blk w bF #[u0, .slice (some ⟨bn, 0, none⟩) t.length t.length, .map (some bm)] 92 := BF
  replace B5 : Blk w b5 #[.pointer none] 27 := B5
  have n1 := BF.ne BN (by decide)
  have n2 := BF.neM HM
  have n3 := B5.ne BN (by decide)
  have n4 := B5.neM HM
  have n5 := B5.ne BF (by decide)
  have n6 := BN.neM HM
  have H0 : OwR bagE 70 W.heap.size Go.Mono.G0 w t u0 := H0
  have o5 := H0.neB B5 (by decide)
  have oN := H0.neB BN (by decide)
  have oM := H0.neM HM
  replace hf := hf.keep [1, 5, 27]
  dsimp only [keep, List.filterMap, look, Nat.beq, Option.map] at hf
  refine tl_st1 T27 hf rfl rfl rfl B5 (by decide) fun w hg hsz B5 hf => ?_
  replace HV := Dv.gr HV hg (.inr (by omega))
  replace hT := hT.gr hg (by omega)
  replace H0 := H0.grE hg o5
  replace e := e.gr hg (by omega)
  replace B1 := B1.gr hg (by omega)
  replace BF := BF.gr hg (by omega)
  replace BN := BN.gr hg (by omega)
  replace HM := HM.gr hg (by omega)
  clear hg
  refine tl_nil ?_
  replace B5 : Blk w b5 #[.pointer (some ⟨bF, 0, none⟩)] 27 := B5
  have hW1 := e.size
  have HS : NS t.length (fun c => Sn bn bm c ∨ c < W.heap.size) (nK (toT t) 0) (madeCells (Value.agg #[.slice none 0 0, .slice none 0 0, I 0, I 0, I 0]).cells (t.length * 5)) w := by
    refine ⟨size_madeCells _ _, fun i hi => ⟨.slice none 0 0, .slice none 0 0, ?_, ?_, ?_, ?_, ?_, ?_, Dv.nil⟩⟩
    all_goals first
      | exact madeCells_get (k := 5) rfl (by decide) hi
      | (rw [nK, if_neg (by omega)]; exact Dv.nil)
  obtain ⟨cells, hcells⟩ : ∃ cells, cells = madeCells (Value.agg #[.slice none 0 0, .slice none 0 0, I 0, I 0, I 0]).cells (t.length * 5) := ⟨_, rfl⟩
  rw [← hcells] at HS BN
  clear hcells
  have hGlt : ∀ {w' : World}, bn < w'.heap.size → bm < w'.heap.size → W.heap.size ≤ w'.heap.size → ∀ b, (Sn bn bm b ∨ b < W.heap.size) → b < w'.heap.size := fun h1 h2 h3 b hb => by
    rcases hb with (rfl | rfl) | hb <;> omega
  have hGn : (fun c => Sn bn bm c ∨ c < W.heap.size) bn := .inl (.inl rfl)
  have hGm : (fun c => Sn bn bm c ∨ c < W.heap.size) bm := .inl (.inr rfl)
  haveI hInN : InR (fun c => Sn bn bm c ∨ c < W.heap.size) (some bn) := ⟨fun c hc => by cases hc; exact hGn⟩
  have lN := BN.lt
  have lM := HM.lt
  repeat refine seq ?_
  refine regn 4 hf (by decide +kernel) ?_
  refine st (ld1 T23 rfl B1 rfl) ?_
  refine st (call1 (A := Dv (slE (slE intE)) (fun c => Sn bn bm c ∨ c < W.heap.size) (belowT t)) En78 rfl (fun v w he h => by cases h; exact children2_spec t t.length _ w (Dv.ex HV he) (hGlt (by have := he.size; omega) (by have := he.size; omega) (by have := he.size; omega)) (by omega) hd hr hc0)) ?_
  refine st (lenD Tryz.underlying127 (isR rfl)) ?_
  refine st (mv rfl) ?_
  refine en fun a w e' hf => ?_
  replace HV := Dv.ex HV e'
  replace hT := hT.ext e'
  replace H0 := H0.ext e'
  replace HS := HS.ext e'
  replace e := Ext.tr e e'
  replace B1 := B1.ext e'
  replace BF := BF.ext e'
  replace B5 := B5.ext e'
  replace BN := BN.ext e'
  replace HM := HM.ext e'
  clear e'
  refine tl_nil ?_
  rw [show (belowT t).length = t.length from belowTo_len t _] at hf
  replace hf := hf.keep [1, 5, 29, 30, 31]
  dsimp only [keep, List.filterMap, look, Nat.beq, Option.map] at hf
  repeat refine seq ?_
  refine blk (loopN (fun r0 a w => ∃ (k : Nat) (cells : Array Value), r0 = t.length - k ∧ k ≤ t.length ∧ Fr 52 a w [(1, E (.pointer (some ⟨b1, 0, none⟩))), (5, E (.pointer (some ⟨b5, 0, none⟩))), (29, Dv (slE (slE intE)) (fun c => Sn bn bm c ∨ c < W.heap.size) (belowT t)), (30, E (I (t.length : Nat))), (31, E (I k))] ∧
    Ext W w ∧ Blk w b1 #[v] 23 ∧ Blk w bF #[u0, .slice (some ⟨bn, 0, none⟩) t.length t.length, .map (some bm)] 92 ∧ Blk w b5 #[.pointer (some ⟨bF, 0, none⟩)] 27 ∧ Blk w bn cells 130 ∧ MapR Tryz.prog 3 3 w bm 0 (fun _ => none) ∧
    OwR bagE 70 W.heap.size Go.Mono.G0 w t u0 ∧ (Dv treeE (GB W Go.Mono.G0) t).p v w ∧ Tab w ∧ NS t.length (fun c => Sn bn bm c ∨ c < W.heap.size) (nK (toT t) k) cells w) t.length ⟨0, cells, rfl, by omega, hf, e, B1, BF, B5, BN, HM, H0, HV, hT, HS⟩ ?_)
  clear hf e B1 BF B5 BN HM H0 HV hT HS
  rintro r0 a w ⟨k, cells, rfl, hk, hf, e, B1, BF, B5, BN, HM, H0, HV, hT, HS⟩
  repeat refine seq ?_
  refine regn 1 hf (by decide +kernel) ?_
  refine st (lss rfl rfl) ?_
  refine en fun a w e' hf => ?_
  replace HV := Dv.ex HV e'
  replace hT := hT.ext e'
  replace H0 := H0.ext e'
  replace HS := HS.ext e'
  replace e := Ext.tr e e'
  replace B1 := B1.ext e'
  replace BF := BF.ext e'
  replace B5 := B5.ext e'
  replace BN := BN.ext e'
  replace HM := HM.ext e'
  clear e'
  refine tl_nil ?_
  repeat refine seq ?_
  refine ifc hf rfl (fun hc => wskip ?_) (fun hc => wexit ?_)
  · have hlt : k < t.length := by have := of_decide_eq_true hc; omega
    clear hc
    have hkb : (belowT t)[k]? = some (kids (toT t) (k : Nat)) := by rw [← kidT_kids]; exact belowTo_get hlt
    repeat refine seq ?_
    refine blk ?_
    replace hf := hf.keep [1, 5, 29, 30, 31]
    dsimp only [keep, List.filterMap, look, Nat.beq, Option.map] at hf
    repeat refine seq ?_
    refine regn 3 hf (by decide +kernel) ?_
    refine st (mv rfl) ?_
    refine st (idxD Tryz.underlying127 S59 (isR rfl) rfl (by omega) (hkb)) ?_
    refine st (ldD T59 (isR rfl)) ?_
    refine en fun a w e' hf => ?_
    replace HV := Dv.ex HV e'
    replace hT := hT.ext e'
    replace H0 := H0.ext e'
    replace HS := HS.ext e'
    replace e := Ext.tr e e'
    replace B1 := B1.ext e'
    replace BF := BF.ext e'
    replace B5 := B5.ext e'
    replace BN := BN.ext e'
    replace HM := HM.ext e'
    clear e'
    refine tl_as hf rfl (by decide) fun a hf => ?_
    refine tl_as hf rfl (by decide) fun a hf => ?_
    refine tl_nil ?_
    replace hf := hf.keep [1, 5, 6, 7, 29, 30, 31]
    dsimp only [keep, List.filterMap, look, Nat.beq, Option.map] at hf
    repeat refine seq ?_
    refine regn 8 hf (by decide +kernel) ?_
    refine st (ld1 T27 rfl B5 rfl) ?_
    refine st (nilE rfl) ?_
    refine st (fldA Tryz.underlying92 rfl T89 (by decide) rfl) ?_
    refine st (ld1 T89 rfl BF rfl) ?_
    refine st (mv rfl) ?_
    refine st (mv rfl) ?_
    refine st (idxS Tryz.underlying89 S130 rfl rfl (by omega)) ?_
    refine st (fldA Tryz.underlying130 rfl T59 (by decide) rfl) ?_
    refine en fun a w e' hf => ?_
    replace HV := Dv.ex HV e'
    replace hT := hT.ext e'
    replace H0 := H0.ext e'
    replace HS := HS.ext e'
    replace e := Ext.tr e e'
    replace B1 := B1.ext e'
    replace BF := BF.ext e'
    replace B5 := B5.ext e'
    replace BN := BN.ext e'
    replace HM := HM.ext e'
    clear e'
    obtain ⟨kv, HK, hf⟩ := hf.fix 41 rfl
    replace hf := hf.keep [1, 5, 29, 30, 31, 41, 43]
    dsimp only [keep, List.filterMap, look, Nat.beq, Option.map] at hf
    refine tl_st1 T59 hf rfl rfl (Dv.slOne HK) BN (HS.bd hlt (f := 0) (by decide)) fun w hg hsz BN hf => ?_
    replace HK := Dv.gr HK hg hGn
    replace e := e.gr hg (by omega)
    replace B1 := B1.gr hg (by omega)
    replace BF := BF.gr hg (by omega)
    replace B5 := B5.gr hg (by omega)
    replace HM := HM.gr hg (by omega)
    replace HV := Dv.gr HV hg (.inr (by omega))
    replace hT := hT.gr hg (by omega)
    replace H0 := H0.grE hg oN
    replace HS := (HS.gr hg hGn).set_kids hlt HK
    rw [nK_succ] at HS
    clear hg HK
    obtain ⟨cells1, BN1, HS1⟩ : ∃ cells1, Blk w bn cells1 130 ∧ NS t.length (fun c => Sn bn bm c ∨ c < W.heap.size) (nK (toT t) (k + 1)) cells1 w := ⟨_, BN, HS⟩
    clear BN HS
    have BN := BN1
    have HS := HS1
    clear BN1 HS1
    refine tl_nil ?_
    try simp only [Exit.then, Exit.inBlock, ↓reduceIte]
    replace hf := hf.keep [1, 5, 29, 30, 31]
    dsimp only [keep, List.filterMap, look, Nat.beq, Option.map] at hf
    repeat refine seq ?_
    refine regn 1 hf (by decide +kernel) ?_
    refine st ((add rfl rfl (by omega)).eq (congrArg (Value.int .i64) (show (k : Int) + 1 = ((k + 1 : Nat) : Int) from rfl))) ?_
    refine en fun a w e' hf => ?_
    replace HV := Dv.ex HV e'
    replace hT := hT.ext e'
    replace H0 := H0.ext e'
    replace HS := HS.ext e'
    replace e := Ext.tr e e'
    replace B1 := B1.ext e'
    replace BF := BF.ext e'
    replace B5 := B5.ext e'
    replace BN := BN.ext e'
    replace HM := HM.ext e'
    clear e'
    refine tl_op hf (by decide) (mv rfl) fun a w e' hf => ?_
    replace HV := Dv.ex HV e'
    replace hT := hT.ext e'
    replace H0 := H0.ext e'
    replace HS := HS.ext e'
    replace e := Ext.tr e e'
    replace B1 := B1.ext e'
    replace BF := BF.ext e'
    replace B5 := B5.ext e'
    replace BN := BN.ext e'
    replace HM := HM.ext e'
    clear e'
    refine tl_nil ?_
    replace hf := hf.keep [1, 5, 29, 30, 31]
    dsimp only [keep, List.filterMap, look, Nat.beq, Option.map] at hf
    exact ⟨t.length - (k + 1), by omega, k + 1, cells1, rfl, by omega, hf, e, B1, BF, B5, BN, HM, H0, HV, hT, HS⟩
  · obtain rfl : k = t.length := by have := of_decide_eq_false hc; omega
    simp only [Exit.then, Exit.inBlock, ↓reduceIte]
    replace hf := hf.keep [1, 5]
    dsimp only [keep, List.filterMap, look, Nat.beq, Option.map] at hf
    have hr1 : (rootN t).length = 1 := by
      apply Classical.byContradiction
      intro h
      rw [chkT, if_neg (by omega), if_neg (Classical.not_not.2 hr), if_pos h] at hc0
      cases hc0
    obtain ⟨r, r1, r2, r3, r4⟩ := root_one hr1
    have hr0 : (rootsT t)[0]? = some (r : Int) := by rw [rootsT_eq, r1]; rfl
    have hlen : (toT t).length = t.length := toT_len t
    have hur : up (toT t) r = -1 := by rw [toT_up r2, r3]
    have hone : ∀ j, j < (toT t).length → up (toT t) j < 0 → j = r := fun j hj hu => by
      rw [hlen] at hj
      rw [toT_up hj] at hu
      have := hr j hj
      exact r4 j hj (by omega)
    have Kw : Kc t (fun c => Sn bn bm c ∨ c < W.heap.size) bF bn bm b5 b1 v u0 w := ⟨hT, hGlt BN.lt HM.lt e.size, ⟨BF, B5⟩, B1, Dv.weak HV fun b _ hb => .inr (by rcases hb with rfl | rfl <;> omega)⟩
    have Sw : St (toT t) (fun c => Sn bn bm c ∨ c < W.heap.size) bn bm (fun _ => false) (fun _ => false) 0 w := by
      refine ⟨⟨cells, BN, ?_⟩, 0, Nat.zero_le _, ?_⟩
      · rw [hlen]
        exact HS.congr fun i hi => by simp [nK, ndS, hi]
      · have : mS (toT t) (fun _ => false) = fun _ => none := by funext y; simp [mS]
        rw [this]; exact HM
    have hcl := cnt_le (toT t) r
    have oS : ∀ b, u0.ownBlock = some b → ¬Sn bn bm b := by
      rintro b hb (rfl | rfl)
      · exact oN hb
      · exact oM hb
    have ne6 : bF ≠ bn ∧ bF ≠ bm ∧ b5 ≠ bn ∧ b5 ≠ bm ∧ b1 ≠ bn ∧ b1 ≠ bm := by omega
    repeat refine seq ?_
    refine regZ 6 [false, false, false, false, false] (Sn bn bm) (fun w => St (toT t) (fun c => Sn bn bm c ∨ c < W.heap.size) bn bm (orD (toT t) r fun _ => false) (orD (toT t) r fun _ => false) (0 + cnt (toT t) r) w) (fun w w1 k h => h.ext k) Mix.mix hf (by decide +kernel) (by decide +kernel) ?_
    refine za (ld1 T27 rfl B5 rfl) ?_
    refine za (ld1 T23 rfl B1 rfl) ?_
    refine za (call1 En80 rfl (fun v w he h => by cases h; exact root_spec t t.length _ w (Dv.ex HV he) (by omega) hd hc0 r hr0)) ?_
    refine za (makeF2 rfl rfl) ?_
    refine za (makeF1 rfl) ?_
    refine zx (xcall4Z (A := Any) En79 rfl rfl rfl rfl (fun v1 v2 v3 v4 w' he h1 h2 h3 h4 => by cases h1; cases h2; cases h3; cases h4; exact fdown_spec t (toT t) rfl V (by omega) hr _ bF bn bm b5 b1 v u0 hGn hGm (by omega) (by omega) ne6 r (by omega) _ _ 0 w' (Kw.ext he) (Sw.ext he) (.inl (by omega)) (by omega))) ?_
    refine fun a w hc HF hf => ?_
    try dsimp only [push] at hf
    clear Kw Sw HV hT HM HS BN
    replace e := e.ch hc fun b hb => by rcases hb with rfl | rfl <;> omega
    replace BF := BF.ch hc (by unfold Sn; omega)
    replace B5 := B5.ch hc (by unfold Sn; omega)
    replace H0 := H0.chE hc oS
    have HF2 := HF.congr (dn' := fun _ => true) (cm' := fun _ => true) (fun i hi => by simp [orD, root_all V hone i hi]) (fun i hi => by simp [orD, root_all V hone i hi]) (Nat.le_refl _)
    clear HF hc
    refine tl_nil ?_
    replace hf := hf.keep [5]
    dsimp only [keep, List.filterMap, look, Nat.beq, Option.map] at hf
    repeat refine seq ?_
    refine regn 1 hf (by decide +kernel) ?_
    refine st (ld1 T27 rfl B5 rfl) ?_
    refine en fun a w e' hf => ?_
    replace H0 := H0.ext e'
    replace e := Ext.tr e e'
    replace BF := BF.ext e'
    replace B5 := B5.ext e'
    replace HF2 := HF2.ext e'
    clear e'
    refine tl_as hf rfl (by decide) fun a hf => ?_
    refine tl_as hf rfl (by decide) fun a hf => ?_
    refine tl_nil ?_
    refine wret (ret2 rfl hf rfl rfl ?_)
    rintro _ _ rfl rfl
    obtain ⟨⟨cells2, BN, HS⟩, cn, _, HM⟩ := HF2
    rw [hlen] at HS
    have hGW : ∀ b, W.heap.size ≤ b → ¬ b < W.heap.size := fun b h => Nat.not_lt.2 h
    have hN := (HS.weak (G' := fun b => b < W.heap.size) fun _ _ h => .inr h).dv BN (hGW bn (by omega))
    have hN2 : (Dv (slE nodeE) (fun b => b < W.heap.size) ((List.range t.length).map (nodeR (toT t)))).p (.slice (some ⟨bn, 0, none⟩) t.length t.length) w := by
      have : ndS (toT t) (fun _ => true) (fun _ => true) = nodeR (toT t) := by funext i; simp [ndS, nodeR]
      rw [← this]; exact hN
    have hfin : (Dv (ptE frE) (fun b => b < W.heap.size) (some (frM t))).p (.pointer (some ⟨bF, 0, none⟩)) w := by
      refine Dv.pt.2 ⟨⟨bF, 0, none⟩, rfl, hGW bF (by omega), BF.lt, [u0, .slice (some ⟨bn, 0, none⟩) t.length t.length, .map (some bm)], ?_, ?_⟩
      · exact ⟨[u0], [.slice (some ⟨bn, 0, none⟩) t.length t.length, .map (some bm)], rfl, Dv.r1 rfl (OwR.reG H0 fun b hb => hb).sl, [.slice (some ⟨bn, 0, none⟩) t.length t.length], [.map (some bm)], rfl, Dv.r1 rfl hN2, ⟨bm, cn, rfl, hGW bm (by omega), HM⟩⟩
      · intro i u hu
        rw [Addr.add_lit, Nat.zero_add, BF.cell i, List.getElem?_toArray]
        exact hu
    exact ⟨_, rfl, e, by rw [hn0]; exact Tup.two (.inl ⟨hn0, hfin⟩) rfl⟩
end Go.Mono

namespace Go.Mono
open Go Go.RowKit

theorem foldl_set : ∀ (c : List Value) (n off : Nat) (cells : Array Value), off + n + c.length ≤ cells.size →
    (c.zipIdx n).foldl (fun cs (p : Value × Nat) => cs.setIfInBounds (off + p.2) p.1) cells = (cells.toList.take (off + n) ++ c ++ cells.toList.drop (off + n + c.length)).toArray := by
  intro c
  induction c with
  | nil => intro n off cells h; simp
  | cons u c ih =>
    intro n off cells h
    simp only [List.length_cons] at h
    rw [List.zipIdx_cons, List.foldl_cons, ih (n + 1) off _ (by simp; omega)]
    simp only [Array.toList_setIfInBounds, List.length_cons]
    congr 1
    have hlt : off + n < cells.toList.length := by simp; omega
    rw [← Nat.add_assoc, List.take_succ_eq_append_getElem (by simpa using hlt), List.getElem_set_self, List.take_set_of_le (Nat.le_refl _), List.drop_set_of_lt (by omega)]
    rw [show off + n + 1 + c.length = off + n + (c.length + 1) by omega]
    simp
def pl {α : Type} : Nat → List α → List (Nat × α)
  | _, [] => []
  | n, v :: vs => (n, v) :: pl (n + 1) vs
theorem pl_map {α β : Type} (f : α → β) : ∀ (n : Nat) (vs : List α), (pl n vs).map (fun p => (p.1, f p.2)) = pl n (vs.map f)
  | _, [] => rfl
  | n, v :: vs => by rw [pl, List.map_cons, pl_map f (n + 1) vs]; rfl
theorem fill_seq {k : Nat} : ∀ (vs : List Value) (cs : List (List Value)) (n : Nat) (done : List Value) (cells : Array Value), vs.map Value.cells = cs.map List.toArray → (∀ c ∈ cs, c.length = k) → done.length = n * k → cells.toList.take (n * k) = done → cells.size = (n + vs.length) * k →
    Instr.fill (fun i => some (i * k, k)) cells (pl n vs) = some (done ++ cs.flatten).toArray
  | [], cs, n, done, cells, hv, hc, hd, ht, hs => by
    have : cs = [] := by cases cs <;> simp at hv ⊢
    subst this
    have : cells.toList = done := by rw [← ht, List.take_of_length_le]; rw [Array.length_toList, hs]; simp
    simp [pl, Instr.fill, ← this]
  | v :: vs, [], n, done, cells, hv, hc, hd, ht, hs => by simp at hv
  | v :: vs, c :: cs, n, done, cells, hv, hc, hd, ht, hs => by
    simp only [List.map_cons, List.cons.injEq] at hv
    have hcl := hc c (by simp)
    have hsz : v.cells.size = k := by rw [hv.1, List.size_toArray, hcl]
    rw [List.length_cons] at hs
    have hb : n * k + k ≤ cells.size := by rw [hs, Nat.add_mul, Nat.add_mul]; omega
    rw [pl, Instr.fill]
    have n1 : ¬ (n * k + k > cells.size) := by omega
    simp only [hsz, ne_eq, not_true_eq_false, decide_false, Bool.false_or, decide_eq_true_eq, n1, if_false, Bool.false_eq_true]
    rw [hv.1]
    have e1 : c.toArray.zipIdx.foldl (fun cs (p : Value × Nat) => cs.setIfInBounds (n * k + p.2) p.1) cells = (cells.toList.take (n * k) ++ c ++ cells.toList.drop (n * k + c.length)).toArray := by
      rw [foldl_zip]
      have := foldl_set c 0 (n * k) cells (by omega)
      simpa using this
    have e2 := fill_seq vs cs (n + 1) (done ++ c) (cells.toList.take (n * k) ++ c ++ cells.toList.drop (n * k + c.length)).toArray hv.2 (fun x hx => hc x (by simp [hx])) (by rw [List.length_append, hd, hcl, Nat.add_mul, Nat.one_mul]) (by
      rw [ht]
      simp only [List.append_assoc]
      rw [← List.append_assoc, List.take_left' (by rw [List.length_append, hd, hcl, Nat.add_mul, Nat.one_mul])]) (by
      simp only [List.size_toArray, List.length_append, List.length_take, List.length_drop, Array.length_toList, hcl]
      rw [Nat.min_eq_left (by omega), hs]
      have : (n + (vs.length + 1)) * k = (n + 1 + vs.length) * k := by congr 1; omega
      rw [this] at hs ⊢
      have : n * k + k ≤ (n + 1 + vs.length) * k := by omega
      omega)
    rw [List.flatten_cons, ← List.append_assoc, ← e2]
    exact congrArg (fun x => Instr.fill (fun i => some (i * k, k)) x (pl (n + 1) vs)) e1
section
variable {P : Program} {w0 : World} {L : Env} {dst : Option Tmp} {ty : TypeId} {pos : String} {aft : Array Edge} {g : Option (Nat × Bool)} {t te : TypeId}
variable {α : Type} {e : Enc α} {G : Nat → Prop}
def IsL (L : Env) (w0 : World) (e : Enc α) (G : Nat → Prop) : List Operand → List α → Prop
  | [], [] => True
  | x :: xs, z :: zs => Is L w0 x (Dv e G z) ∧ IsL L w0 e G xs zs
  | _, _ => False
theorem isL_vals {ρ : Operand → Value} {w : World} {xs0 : List Operand} (he : Ext w0 w) (hv : ∀ x ∈ xs0, ∀ B, opd L x = some B → B.p (ρ x) w) : ∀ (xs : List Operand) (zs : List α), (∀ x ∈ xs, x ∈ xs0) → IsL L w0 e G xs zs →
    ∃ cs : List (List Value), (xs.map ρ).map Value.cells = cs.map List.toArray ∧ (∀ c ∈ cs, c.length = e.k) ∧ Cells e G w zs cs.flatten ∧ xs.length = zs.length
  | [], [], _, _ => ⟨[], rfl, (fun c hc => by cases hc), rfl, rfl⟩
  | [], _ :: _, _, h => h.elim
  | _ :: _, [], _, h => h.elim
  | x :: xs, z :: zs, hm, h => by
    obtain ⟨⟨B, hB, hB2⟩, h2⟩ := h
    obtain ⟨c, h3, h4⟩ := hB2 _ _ he (hv x (hm x (by simp)) B hB)
    obtain ⟨cs, a1, a2, a3, a4⟩ := isL_vals he hv xs zs (fun y hy => hm y (by simp [hy])) h2
    refine ⟨c :: cs, ?_, ?_, ⟨c, cs.flatten, rfl, h3, a3⟩, by simp [a4]⟩
    · simp only [List.map_cons, a1]
      rw [h4, e.pack_cells h3]
    · intro d hd
      rcases List.mem_cons.1 hd with rfl | hd
      · exact e.len h3
      · exact a2 d hd
theorem bslN {z0 : Value} {sz bz n : Nat} {xs : List Operand} {zs : List α} (ht : P.underlying t = some (.slice te)) (hi : (P.info? te).map (fun i => (i.zero, i.size, i.bytes)) = some (some z0, sz, bz)) (hk : sz = e.k) (hn : zs.length = n) (hn0 : 0 < n) (hk2 : n * e.k ≤ 16777216) (hz0 : z0.cells.size = e.k) (hG : ∀ b, G b → b < w0.heap.size)
    (hx : IsL L w0 e G xs zs) : OpC P w0 L ⟨dst, .buildSlice t n (pl 0 xs).toArray, ty, pos, aft, g⟩ (Dv (slE e) G zs) := by
  refine ⟨fun ρ w he hv => ?_⟩
  obtain ⟨it, hit, hiz, hsz, _⟩ := info_parts hi
  subst hk
  have hops : (Op.buildSlice t n (pl 0 xs).toArray).operands = xs.toArray := by
    have : ∀ (k : Nat) (xs : List Operand), (pl k xs).map (·.2) = xs := by
      intro k xs
      induction xs generalizing k with
      | nil => rfl
      | cons x xs ih => rw [pl, List.map_cons, ih]
    simp [Op.operands, this]
  have hv' : ∀ x ∈ xs, ∀ B, opd L x = some B → B.p (ρ x) w := fun x hx B hB => hv x (by
    show x ∈ (Op.buildSlice t n (pl 0 xs).toArray).operands
    rw [hops]; simpa using hx) B hB
  obtain ⟨cs, a1, a2, a3, a4⟩ := isL_vals he hv' xs zs (fun x h => h) hx
  have hxl : xs.length = n := by rw [a4, hn]
  have hpos := e.pos
  have hnk : 0 < n * e.k := Nat.mul_pos hn0 hpos
  have hfl := fill_seq (k := e.k) (xs.map ρ) cs 0 [] ((Array.range (n * it.size)).map (z0.cells[· % z0.cells.size]!)) a1 a2 (by simp) (by simp) (by simp [hsz, hxl])
  have hr := run_buildSlice (P := P) w t te n (pl 0 (xs.map ρ)).toArray cs.flatten.toArray it z0 ht hit hiz (by rw [hsz]; omega) (by rw [hsz]; omega) (by rw [hsz] at hfl ⊢; simpa using hfl)
  have hm : ((pl 0 xs).toArray.map fun p => (p.1, ρ p.2)) = (pl 0 (xs.map ρ)).toArray := by
    rw [List.map_toArray, pl_map]
  have hrun : (execOp ρ ⟨dst, .buildSlice t n (pl 0 xs).toArray, ty, pos, aft, g⟩).run P w = .ok (.value (.slice (some ⟨w.heap.size, 0, none⟩) n n)) (w.alloc (.cells cs.flatten.toArray te)) := by
    simp only [execOp, Sem.run_bind]
    rw [show ((pl 0 xs).toArray.map fun (x : Nat × Operand) => match x with | (i, x) => (i, ρ x)) = (pl 0 (xs.map ρ)).toArray from hm, hr]
    simp only [Result.andThen_ok, Sem.run_pure]
  simp only [OpR, hrun]
  have hx := ext_alloc w (.cells cs.flatten.toArray te)
  refine ⟨hx, Dv.sl.2 (.inr ⟨_, n, cs.flatten, by rw [hn], by omega, fun hg => ?_, by simp, a3.pres (fun b hb hn => hx.block b hb) hx.size, fun i u hu => ?_⟩)⟩
  · exact absurd (hG _ hg) (Nat.not_lt.2 he.size)
  · rw [Addr.add_lit, Nat.zero_add, (blk_alloc w cs.flatten.toArray te).cell i, List.getElem?_toArray]
    exact hu
theorem bsl2 {z0 : Value} {sz bz : Nat} {x y : Operand} {a b : α} (ht : P.underlying t = some (.slice te)) (hi : (P.info? te).map (fun i => (i.zero, i.size, i.bytes)) = some (some z0, sz, bz)) (hk : sz = e.k) (hk2 : 2 * e.k ≤ 16777216) (hz0 : z0.cells.size = e.k) (hG : ∀ b, G b → b < w0.heap.size)
    (hx : Is L w0 x (Dv e G a)) (hy : Is L w0 y (Dv e G b)) : OpC P w0 L ⟨dst, .buildSlice t 2 #[(0, x), (1, y)], ty, pos, aft, g⟩ (Dv (slE e) G [a, b]) :=
  bslN (n := 2) (xs := [x, y]) ht hi hk rfl (by decide) hk2 hz0 hG ⟨hx, hy, trivial⟩
theorem bsl3 {z0 : Value} {sz bz : Nat} {x y z : Operand} {a b c : α} (ht : P.underlying t = some (.slice te)) (hi : (P.info? te).map (fun i => (i.zero, i.size, i.bytes)) = some (some z0, sz, bz)) (hk : sz = e.k) (hk2 : 3 * e.k ≤ 16777216) (hz0 : z0.cells.size = e.k) (hG : ∀ b, G b → b < w0.heap.size)
    (hx : Is L w0 x (Dv e G a)) (hy : Is L w0 y (Dv e G b)) (hz : Is L w0 z (Dv e G c)) : OpC P w0 L ⟨dst, .buildSlice t 3 #[(0, x), (1, y), (2, z)], ty, pos, aft, g⟩ (Dv (slE e) G [a, b, c]) :=
  bslN (n := 3) (xs := [x, y, z]) ht hi hk rfl (by decide) hk2 hz0 hG ⟨hx, hy, hz, trivial⟩

/-- s[:i] of a datum -/
theorem slcD {x y : Operand} {xs : List α} {i : Nat} (ht : P.underlying t = some (.slice te)) (hs : (P.info? te).map (·.size) = some e.k) (hx : Is L w0 x (Dv (slE e) G xs)) (hy : opd L y = some (E (.int .i64 (i : Nat)))) (hi : i ≤ xs.length) :
    OpC P w0 L ⟨dst, .slice t x none (some y) none, ty, pos, aft, g⟩ (Dv (slE e) G (xs.take i)) :=
  opc_pure fun ρ w he hv => by
    have h := Dv.sl.1 (hx.v he hv (by simp [Op.operands]))
    have h2 := opE hv (x := y) (by simp [Op.operands]) hy
    rcases h with ⟨h, rfl⟩ | ⟨ad, cap, cs, h, hc, h3, h4, h5, h6⟩
    · have hi0 : i = 0 := by simpa using hi
      subst hi0
      refine ⟨.slice none 0 0, ?_, Dv.nil⟩
      simp [execOp, h, h2, Instr.sliceAt, Instr.slice, Instr.sliceBounds, Instr.sliceBound, asIntOf, run_underlying ht, sz_of hs]
    · have h8 := h5.take i
      have hic : (i : Nat) ≤ cap := Nat.le_trans hi hc
      refine ⟨.slice (some ad) i cap, ?_, Dv.sl.2 (.inr ⟨ad, cap, cs.take (i * e.k), by rw [List.length_take, Nat.min_eq_left hi], by rw [List.length_take, Nat.min_eq_left hi]; exact hic, h3, h4, h8, fun j u hu => h6 j u (by rw [List.getElem?_take] at hu; split at hu; exact hu; cases hu)⟩)⟩
      simp [execOp, h, h2, Instr.sliceAt, Instr.slice, Instr.sliceBounds, Instr.sliceBound, asIntOf, run_underlying ht, sz_of hs, hic, Addr.add]
end
/-- the end of a function: three results -/
theorem ret3 {P : Program} {fn : Func} {t u s : Nat} {R : Ending → World → Prop} {n : Nat} {a : Act} {w : World} {L : Env} {A B C : VA} (hr : fn.results = #[.tmp t, .tmp u, .tmp s]) (hf : Fr n a w L) (h : look L t = some A) (h' : look L u = some B) (h'' : look L s = some C)
    (hR : ∀ v x y, A.p v w → B.p x w → C.p y w → R (.returned (.tuple #[v, x, y])) w) : bodyPost P fn R .ret a w :=
  ⟨hf.defers, .tuple #[a.eval (.tmp t), a.eval (.tmp u), a.eval (.tmp s)], by simp [results, hr, Act.eval], hR _ _ _ (hf.val t A h) (hf.val u B h') (hf.val s C h'')⟩
end Go.Mono

namespace Go.Mono
open Go Go.Proofs Go.RowKit

def cutT (t : List (Int × BS)) : List (Int × BS) := t.take (min t.length 60)
theorem cutT_len (t : List (Int × BS)) : (cutT t).length ≤ 60 := by
  rw [cutT, List.length_take]; omega

theorem cut45_spec {G : Nat → Prop} (t : List (Int × BS)) (v : Value) (W : World) (h : (Dv treeE G t).p v W) :
    Calls Tryz.prog 27 #[v] W (Post (Dv treeE G (cutT t)) W) := by
  refine enter (args := [v]) (As := [Dv treeE G t]) Tryz.func27 rfl Tryz.ntmps27 (Nat.le_of_ble_eq_true rfl) ?_ (fun a hf => ?_) (Nat.le_of_ble_eq_true rfl)
  rotate_left
  dsimp only [params, Nat.reduceAdd] at hf
  rotate_right
  · exact arg1 h
  have e := Ext.rfl' W
  repeat refine seq ?_
  refine regn0 ?_
  refine tl_as hf rfl (by decide) fun a hf => ?_
  refine tl_nil ?_
  repeat refine seq ?_
  refine regn 5 hf (by decide +kernel) ?_
  refine st (mv rfl) ?_
  refine st (mv rfl) ?_
  refine st (lenD Tryz.underlying23 (isR rfl)) ?_
  refine st ((min2 rfl rfl).eq (congrArg (Value.int .i64) (show min (t.length : Int) 60 = ((min t.length 60 : Nat) : Int) from by omega))) ?_
  refine st (slcD Tryz.underlying23 S70 (isR rfl) rfl (Nat.min_le_left _ _)) ?_
  refine en fun a w e' hf => ?_
  replace e := Ext.tr e e'
  clear e'
  refine tl_as hf rfl (by decide) fun a hf => ?_
  refine tl_nil ?_
  refine wret ?_
  try simp only [Exit.then, Exit.inBlock]
  refine ret1 rfl hf rfl ?_
  intro v hv
  exact ⟨_, rfl, e, hv⟩

theorem Tup.map2 {A A' B : VA} {v : Value} {w : World} (h : (Tup [A, B]).p v w) (hA : ∀ u, A.p u w → A'.p u w) : (Tup [A', B]).p v w := by
  obtain ⟨vs, h1, h2, h3⟩ := h
  refine ⟨vs, h1, h2, fun i C hC => ?_⟩
  match i, hC with
  | 0, hC => simp at hC; subst hC; exact hA _ (h3 0 A rfl)
  | i + 1, hC => exact h3 (i + 1) C (by simpa using hC)
theorem fnew0_spec {G : Nat → Prop} (t : List (Int × BS)) (v : Value) (W : World) (hT : Tab W) (h : (Dv treeE G t).p v W) (hl : t.length ≤ 1000) :
    Calls Tryz.prog 28 #[v] W (Post (Tup [NewA t Go.Mono.G0, E (I (newR (toT t)))]) W) :=
  Calls.mono (fnew_spec t v W hT h hl) fun en w' ⟨u, h1, h2, h3⟩ => ⟨u, h1, h2, Tup.map2 h3 fun x hx => hx.imp (fun hx => ⟨hx.1, Dv.weak hx.2 fun b _ hb => hb.elim⟩) id⟩

theorem framed_spec {G : Nat → Prop} (t : List (Int × BS)) (v : Value) (W : World) (hT : Tab W) (h : (Dv treeE G t).p v W) :
    Calls Tryz.prog 6 #[v] W (Post (Tup [NewA (cutT t) Go.Mono.G0, Dv rtE Go.Mono.G0 (toT (cutT t)), E (B (decide (newR (toT (cutT t)) = 0)))]) W) := by
  have hl := cutT_len t
  have htl := toT_len (cutT t)
  refine enter (args := [v]) (As := [Dv treeE Go.Mono.G0 t]) Tryz.func6 rfl Tryz.ntmps6 (Nat.le_of_ble_eq_true rfl) ?_ (fun a hf => ?_) (Nat.le_of_ble_eq_true rfl)
  rotate_left
  dsimp only [params, Nat.reduceAdd] at hf
  rotate_right
  · exact arg1 (Dv.weak h fun b _ hb => hb.elim)
  have e := Ext.rfl' W
  repeat refine seq ?_
  refine regn0 ?_
  refine tl_as hf rfl (by decide) fun a hf => ?_
  refine tl_as hf rfl (by decide) fun a hf => ?_
  refine tl_as hf rfl (by decide) fun a hf => ?_
  refine tl_nil ?_
  repeat refine seq ?_
  refine regn 2 hf (by decide +kernel) ?_
  refine st (mv rfl) ?_
  refine st (call1 En27 rfl (fun v w he h => cut45_spec t v w h)) ?_
  refine en fun a w e' hf => ?_
  replace hT := hT.ext e'
  replace e := Ext.tr e e'
  clear e'
  refine tl_as hf rfl (by decide) fun a hf => ?_
  refine tl_nil ?_
  repeat refine seq ?_
  refine regn 2 hf (by decide +kernel) ?_
  refine st (mv rfl) ?_
  refine st (call1 En19 rfl (fun v w he h => toT_spec (cutT t) v w h (fun b hb => hb.elim) (by omega))) ?_
  refine en fun a w e' hf => ?_
  replace hT := hT.ext e'
  replace e := Ext.tr e e'
  clear e'
  refine tl_as hf rfl (by decide) fun a hf => ?_
  refine tl_nil ?_
  repeat refine seq ?_
  refine regn 3 hf (by decide +kernel) ?_
  refine st (mv rfl) ?_
  refine st (call1 En21 rfl (fun v w he h => newR_spec (toT (cutT t)) v w h (by omega) (fun i _ => Nat.le_trans (hs_le _ i) (by decide)))) ?_
  refine st (neq rfl rfl) ?_
  refine en fun a w e' hf => ?_
  replace hT := hT.ext e'
  replace e := Ext.tr e e'
  clear e'
  refine tl_nil ?_
  replace hf := hf.keep [0, 5, 14]
  dsimp only [keep, List.filterMap, look, Nat.beq, Option.map] at hf
  repeat refine seq ?_
  refine ifc hf rfl (fun hb => ?_) (fun hb => ?_)
  · have hb' : newR (toT (cutT t)) ≠ 0 := by simpa using hb
    repeat refine seq ?_
    refine regn 1 hf (by decide +kernel) ?_
    refine st (mv rfl) ?_
    refine en fun a w e' hf => ?_
    replace hT := hT.ext e'
    replace e := Ext.tr e e'
    clear e'
    refine tl_as hf rfl (by decide) fun a hf => ?_
    refine tl_as hf rfl (by decide) fun a hf => ?_
    refine tl_as hf rfl (by decide) fun a hf => ?_
    refine tl_nil ?_
    refine wret (ret3 rfl hf rfl rfl rfl ?_)
    rintro _ x _ rfl hx rfl
    exact ⟨_, rfl, e, by rw [decide_eq_false hb']; exact Tup.three (.inr ⟨hb', rfl⟩) hx rfl⟩
  · have hb' : newR (toT (cutT t)) = 0 := by simpa using hb
    refine wskip ?_
    try simp only [Exit.then, Exit.inBlock, ↓reduceIte]
    repeat refine seq ?_
    refine regn 5 hf (by decide +kernel) ?_
    refine st (mv rfl) ?_
    refine st (call1 En28 rfl (fun v w he h => fnew0_spec (cutT t) v w (hT.ext he) h (by omega))) ?_
    refine st (mv rfl) ?_
    refine st (ext_ rfl rfl) ?_
    refine st (ext_ rfl rfl) ?_
    refine en fun a w e' hf => ?_
    replace hT := hT.ext e'
    replace e := Ext.tr e e'
    clear e'
    refine tl_as hf rfl (by decide) fun a hf => ?_
    refine tl_as hf rfl (by decide) fun a hf => ?_
    refine tl_nil ?_
    repeat refine seq ?_
    refine regn 2 hf (by decide +kernel) ?_
    refine st (mv rfl) ?_
    refine st ((neq rfl rfl).eq (congrArg Value.bool (show (newR (toT (cutT t)) != 0) = false from by rw [hb']; rfl))) ?_
    refine en fun a w e' hf => ?_
    replace hT := hT.ext e'
    replace e := Ext.tr e e'
    clear e'
    refine tl_nil ?_
    repeat refine seq ?_
    refine ifc hf rfl (fun h => by cases h) (fun _ => ?_)
    refine wskip ?_
    try simp only [Exit.then, Exit.inBlock, ↓reduceIte]
    repeat refine seq ?_
    refine regn 2 hf (by decide +kernel) ?_
    refine st (mv rfl) ?_
    refine st (mv rfl) ?_
    refine en fun a w e' hf => ?_
    replace hT := hT.ext e'
    replace e := Ext.tr e e'
    clear e'
    refine tl_as hf rfl (by decide) fun a hf => ?_
    refine tl_as hf rfl (by decide) fun a hf => ?_
    refine tl_as hf rfl (by decide) fun a hf => ?_
    refine tl_nil ?_
    refine wret (ret3 rfl hf rfl rfl rfl ?_)
    rintro _ x _ hv hx rfl
    exact ⟨_, rfl, e, by rw [decide_eq_true hb']; exact Tup.three hv hx rfl⟩

end Go.Mono

namespace Go.Mono
open Go Go.Proofs Go.RowKit

def s12 : BS := [(1 : Int), 2].foldl ins 0
def s23 : BS := [(2 : Int), 3].foldl ins 0
def s24 : BS := [(2 : Int), 4].foldl ins 0
/-- the example's tree -/
def kt : List (Int × BS) := [(1, s12), (-1, s23), (1, s24)]
def kx : List RB := [(1, [1, 2]), (-1, [2, 3]), (1, [2, 4])]
theorem l12 : toL s12 = [1, 2] := by decide +kernel
theorem l23 : toL s23 = [2, 3] := by decide +kernel
theorem l24 : toL s24 = [2, 4] := by decide +kernel
theorem kt_kx : toT kt = kx := by
  show [toB (1, s12), toB (-1, s23), toB (1, s24)] = _
  simp only [toB, l12, l23, l24]; rfl
theorem kx_vals : Vals kx :=
  ⟨by decide +kernel, by decide +kernel, by decide +kernel, by decide +kernel⟩
theorem kt_new : newR (toT kt) = 0 := by
  have h1 : chkR kx = 0 := chkR_ok.2 ⟨by decide, kx_vals⟩
  have h2 : ∀ i, i < kx.length → (hs kx i).length ≤ 4 := by decide +kernel
  rw [kt_kx, newR, if_neg (by rw [h1]; decide), if_pos h2]
theorem k_home (y : Int) : (frM kt).2.2 y = mS kx (fun _ => true) y := by rw [frM, kt_kx]
theorem k_node {i : Nat} (h : i < 3) : ndG (frM kt) i = nodeR kx i := by
  have : (frM kt).2.1 = (List.range 3).map (nodeR kx) := by rw [frM, kt_kx]; rfl
  rw [ndG, this, List.getElem?_map, List.getElem?_range h]; rfl
theorem k_of {i : Nat} (h : i < 3) : ofF (frM kt) (i : Int) = nodeR kx i := by
  rw [ofF, if_pos, Int.toNat_natCast, k_node h]
  have : (frM kt).1.length = 3 := rfl
  simp [inT, this]; omega
theorem k_h2 : mS kx (fun _ => true) 2 = some 1 := by decide +kernel
theorem k_h3 : mS kx (fun _ => true) 3 = some 1 := by decide +kernel
theorem k_h4 : mS kx (fun _ => true) 4 = some 2 := by decide +kernel
theorem k_d1 : depthR kx 1 = 0 := by decide +kernel
theorem k_d2 : depthR kx 2 = 1 := by decide +kernel
theorem k_b24 : bothF kt 2 4 = true := by decide +kernel
theorem k_b32 : bothF kt 3 2 = true := by decide +kernel
theorem k_e24 : ehF (frM kt) 2 4 = (2, true) := by
  have d1 : (ofF (frM kt) (1 : Int)).2.2.2.2 = 0 := by rw [show (1 : Int) = ((1 : Nat) : Int) from rfl, k_of (by decide)]; show ((depthR kx 1 : Nat) : Int) = 0; rw [k_d1]; rfl
  have d2 : (ofF (frM kt) (2 : Int)).2.2.2.2 = 1 := by rw [show (2 : Int) = ((2 : Nat) : Int) from rfl, k_of (by decide)]; show ((depthR kx 2 : Nat) : Int) = 1; rw [k_d2]; rfl
  rw [ehF, k_home, k_home, k_h2, k_h4]
  simp only [Option.isSome_some, Option.getD_some, Bool.true_and]
  rw [show bothF (frM kt).1 2 4 = true from k_b24, d1, d2]
  rfl
theorem k_e32 : ehF (frM kt) 3 2 = (1, true) := by
  have d1 : (ofF (frM kt) (1 : Int)).2.2.2.2 = 0 := by rw [show (1 : Int) = ((1 : Nat) : Int) from rfl, k_of (by decide)]; show ((depthR kx 1 : Nat) : Int) = 0; rw [k_d1]; rfl
  rw [ehF, k_home, k_home, k_h2, k_h3]
  simp only [Option.isSome_some, Option.getD_some, Bool.true_and]
  rw [show bothF (frM kt).1 3 2 = true from k_b32, d1]
  rfl
theorem k_light : (ofF (frM kt) 1).2.1 = [2] := by
  rw [show (1 : Int) = ((1 : Nat) : Int) from rfl, k_of (by decide)]
  show lightR kx ((1 : Nat) : Int) = [2]
  decide +kernel
theorem k_size : (ofF (frM kt) 1).2.2.1 = 3 := by
  rw [show (1 : Int) = ((1 : Nat) : Int) from rfl, k_of (by decide)]
  show sizeR kx ((1 : Nat) : Int) = 3
  decide +kernel
theorem k_heavy : (ofF (frM kt) 1).2.2.2.1 = 0 := by
  rw [show (1 : Int) = ((1 : Nat) : Int) from rfl, k_of (by decide)]
  show heavyR kx ((1 : Nat) : Int) = 0
  decide +kernel
theorem k_root : fstB (fun b => decide (b.1 < 0)) (frM kt).1 = 1 := by
  show fstB (fun b => decide (b.1 < 0)) kt = 1
  decide +kernel

theorem k_wf : (Lit.int .i64 2).wf = true ∧ (Lit.int .i64 3).wf = true ∧ (Lit.int .i64 4).wf = true := by decide
theorem known_spec (W : World) (hT : Tab W) : Calls Tryz.prog 7 #[] W (Post (E (B true)) W) := by
  refine enter (args := []) (As := []) Tryz.func7 rfl Tryz.ntmps7 (Nat.le_of_ble_eq_true rfl) ?_ (fun a hf => ?_) (Nat.le_of_ble_eq_true rfl)
  · exact argZ
  dsimp only [params, Nat.reduceAdd] at hf
  have e := Ext.rfl' W
  have hg0 : ∀ {w : World}, ∀ b, Go.Mono.G0 b → b < w.heap.size := fun b hb => hb.elim
  have hkl : (frM kt).1.length ≤ 4096 := by decide
  have hkn := frM_len kt
  have hl1 : (ofF (frM kt) 1).2.1.length ≤ 4096 := by rw [k_light]; decide
  repeat refine seq ?_
  refine regn0 ?_
  refine tl_as hf rfl (by decide) fun a hf => ?_
  refine tl_nil ?_
  repeat refine seq ?_
  refine regn 14 hf (by decide +kernel) ?_
  refine st (bsl2 (e := intE) (G := Go.Mono.G0) Tryz.underlying59 I3 rfl (by decide) rfl hg0 (isI rfl) (isI rfl)) ?_
  refine st (call1 (A := E (setV s12)) En29 rfl (fun v w he h => of_spec [1, 2] v w h (by decide))) ?_
  refine st (bld2 (e1 := intE) (e2 := setE) (a := 1) (b := s12) (G := Go.Mono.G0) Tryz.underlying70 rfl rfl rfl S3 S67 I70 rfl (isI rfl) (isS rfl)) ?_
  refine st (bsl2 (e := intE) (G := Go.Mono.G0) Tryz.underlying59 I3 rfl (by decide) rfl hg0 (isI rfl) (isI rfl)) ?_
  refine st (call1 (A := E (setV s23)) En29 rfl (fun v w he h => of_spec [2, 3] v w h (by decide))) ?_
  refine st (bld2 (e1 := intE) (e2 := setE) (a := -1) (b := s23) (G := Go.Mono.G0) Tryz.underlying70 rfl rfl rfl S3 S67 I70 rfl (isI rfl) (isS rfl)) ?_
  refine st (bsl2 (e := intE) (G := Go.Mono.G0) Tryz.underlying59 I3 rfl (by decide) rfl hg0 (isI rfl) (isI rfl)) ?_
  refine st (call1 (A := E (setV s24)) En29 rfl (fun v w he h => of_spec [2, 4] v w h (by decide))) ?_
  refine st (bld2 (e1 := intE) (e2 := setE) (a := 1) (b := s24) (G := Go.Mono.G0) Tryz.underlying70 rfl rfl rfl S3 S67 I70 rfl (isI rfl) (isS rfl)) ?_
  refine st (bsl3 (e := bagE) (G := Go.Mono.G0) Tryz.underlying23 I70 rfl (by decide) rfl hg0 (isR rfl) (isR rfl) (isR rfl)) ?_
  refine st (call1 En28 rfl (fun v w he h => fnew0_spec kt v w (hT.ext he) h (by decide))) ?_
  refine st (mv rfl) ?_
  refine st (ext_ rfl rfl) ?_
  refine st ((ext_ rfl rfl).eq (congrArg (Value.int .i64) kt_new)) ?_
  refine en fun a w e' hf => ?_
  replace hT := hT.ext e'
  replace e := Ext.tr e e'
  clear e'
  refine tl_as hf rfl (by decide) fun a hf => ?_
  refine tl_as hf rfl (by decide) fun a hf => ?_
  refine tl_nil ?_
  replace hf := hf.upd 1 rfl (B := Dv (ptE frE) Go.Mono.G0 (some (frM kt))) (fun v h => h.elim (·.2) (fun h => absurd kt_new h.1))
  replace hf := hf.keep [1, 2]
  dsimp only [keep, List.filterMap, look, Nat.beq, Option.map] at hf
  repeat refine seq ?_
  refine regn 5 hf (by decide +kernel) ?_
  refine st (mv rfl) ?_
  refine st ((call3 En30 rfl rfl rfl (fun v u s w he h h' h'' => by cases h'; cases h''; exact fehome_spec (frM kt) 2 4 _ w h k_wf.1 k_wf.2.2 hkl hkn)).eq (show Value.tuple _ = .tuple #[I 2, B true] from by rw [k_e24])) ?_
  refine st (mv rfl) ?_
  refine st (exE rfl rfl) ?_
  refine st (exE rfl rfl) ?_
  refine en fun a w e' hf => ?_
  replace hT := hT.ext e'
  replace e := Ext.tr e e'
  clear e'
  refine tl_as hf rfl (by decide) fun a hf => ?_
  refine tl_as hf rfl (by decide) fun a hf => ?_
  refine tl_nil ?_
  replace hf := hf.keep [1, 2, 3, 4]
  dsimp only [keep, List.filterMap, look, Nat.beq, Option.map] at hf
  repeat refine seq ?_
  refine regn 5 hf (by decide +kernel) ?_
  refine st (mv rfl) ?_
  refine st ((call3 En30 rfl rfl rfl (fun v u s w he h h' h'' => by cases h'; cases h''; exact fehome_spec (frM kt) 3 2 _ w h k_wf.2.1 k_wf.1 hkl hkn)).eq (show Value.tuple _ = .tuple #[I 1, B true] from by rw [k_e32])) ?_
  refine st (mv rfl) ?_
  refine st (exE rfl rfl) ?_
  refine st (exE rfl rfl) ?_
  refine en fun a w e' hf => ?_
  replace hT := hT.ext e'
  replace e := Ext.tr e e'
  clear e'
  refine tl_as hf rfl (by decide) fun a hf => ?_
  refine tl_as hf rfl (by decide) fun a hf => ?_
  refine tl_nil ?_
  replace hf := hf.keep [1, 2, 3, 4, 5, 6]
  dsimp only [keep, List.filterMap, look, Nat.beq, Option.map] at hf
  repeat refine seq ?_
  refine regn 5 hf (by decide +kernel) ?_
  refine st (mv rfl) ?_
  refine st ((call2 En31 rfl rfl (fun v u w he h h' => by cases h'; exact fvhome_spec (frM kt) 2 _ w h k_wf.1)).eq (show Value.tuple _ = .tuple #[I 1, B true] from by rw [k_home, k_h2]; rfl)) ?_
  refine st (mv rfl) ?_
  refine st (exE rfl rfl) ?_
  refine st (exE rfl rfl) ?_
  refine en fun a w e' hf => ?_
  replace hT := hT.ext e'
  replace e := Ext.tr e e'
  clear e'
  refine tl_as hf rfl (by decide) fun a hf => ?_
  refine tl_as hf rfl (by decide) fun a hf => ?_
  refine tl_nil ?_
  replace hf := hf.keep [1, 2, 3, 4, 5, 6, 7, 8]
  dsimp only [keep, List.filterMap, look, Nat.beq, Option.map] at hf
  repeat refine seq ?_
  refine regn 2 hf (by decide +kernel) ?_
  refine st (mv rfl) ?_
  refine st ((call2 En32 rfl rfl (fun v u w he h h' => by cases h'; exact postG (G := Go.Mono.G0) (flight_spec (frM kt) 1 _ w h hkn hl1) (fun b hb => hb.elim))).dv (k_light)) ?_
  refine en fun a w e' hf => ?_
  replace hT := hT.ext e'
  replace e := Ext.tr e e'
  clear e'
  refine tl_as hf rfl (by decide) fun a hf => ?_
  refine tl_nil ?_
  replace hf := hf.keep [1, 2, 3, 4, 5, 6, 7, 8, 9]
  dsimp only [keep, List.filterMap, look, Nat.beq, Option.map] at hf
  repeat refine seq ?_
  refine regn 54 hf (by decide +kernel) ?_
  refine st (mv rfl) ?_
  refine st ((eql rfl rfl).eq (congrArg Value.bool (show ((0 : Int) == 0) = true from rfl))) ?_
  refine st (mv rfl) ?_
  refine sy rfl rfl (mv rfl) ?_
  refine sy rfl rfl (call1 En33 rfl (fun v w he h => flen_spec (frM kt) v w h hkl)) ?_
  refine sy rfl rfl ((eql rfl rfl).eq (congrArg Value.bool (show ((((frM kt).1.length : Nat) : Int) == 3) = true from by decide))) ?_
  refine st (pkT rfl rfl) ?_
  refine st (mv rfl) ?_
  refine sy rfl rfl (mv rfl) ?_
  refine sy rfl rfl ((call1 En34 rfl (fun v w he h => froot_spec (frM kt) v w h hkl)).eq (congrArg (Value.int .i64) k_root)) ?_
  refine sy rfl rfl ((eql rfl rfl).eq (congrArg Value.bool (show ((1 : Int) == 1) = true from rfl))) ?_
  refine st (pkT rfl rfl) ?_
  refine st (mv rfl) ?_
  refine sy rfl rfl (mv rfl) ?_
  refine sy rfl rfl ((call2 En35 rfl rfl (fun v u w he h h' => by cases h'; exact fsize_spec (frM kt) 1 _ w h hkn)).eq (congrArg (Value.int .i64) k_size)) ?_
  refine sy rfl rfl ((eql rfl rfl).eq (congrArg Value.bool (show ((3 : Int) == 3) = true from rfl))) ?_
  refine st (pkT rfl rfl) ?_
  refine st (mv rfl) ?_
  refine sy rfl rfl (mv rfl) ?_
  refine sy rfl rfl ((call2 En36 rfl rfl (fun v u w he h h' => by cases h'; exact fheavy_spec (frM kt) 1 _ w h hkn)).eq (congrArg (Value.int .i64) k_heavy)) ?_
  refine sy rfl rfl ((eql rfl rfl).eq (congrArg Value.bool (show ((0 : Int) == 0) = true from rfl))) ?_
  refine st (pkT rfl rfl) ?_
  refine st (mv rfl) ?_
  refine sy rfl rfl (mv rfl) ?_
  refine sy rfl rfl (lenD Tryz.underlying59 (isR rfl)) ?_
  refine sy rfl rfl ((eql rfl rfl).eq (congrArg Value.bool (show ((([(2 : Int)].length : Nat) : Int) == 1) = true from rfl))) ?_
  refine st (pkT rfl rfl) ?_
  refine st (mv rfl) ?_
  refine sy rfl rfl (mv rfl) ?_
  refine sy rfl rfl (idxD (j := 0) Tryz.underlying59 S3 (isR rfl) rfl rfl rfl) ?_
  refine sy rfl rfl (ldI T3 (isR rfl)) ?_
  refine sy rfl rfl ((eql rfl rfl).eq (congrArg Value.bool (show ((2 : Int) == 2) = true from rfl))) ?_
  refine st (pkT rfl rfl) ?_
  refine st (mv rfl) ?_
  refine sy rfl rfl (mv rfl) ?_
  refine st (pkT rfl rfl) ?_
  refine st (mv rfl) ?_
  refine sy rfl rfl (mv rfl) ?_
  refine st (pkT rfl rfl) ?_
  refine st (mv rfl) ?_
  refine sy rfl rfl (mv rfl) ?_
  refine st (pkT rfl rfl) ?_
  refine st (mv rfl) ?_
  refine sy rfl rfl (mv rfl) ?_
  refine sy rfl rfl ((eql rfl rfl).eq (congrArg Value.bool (show ((2 : Int) == 2) = true from rfl))) ?_
  refine st (pkT rfl rfl) ?_
  refine st (mv rfl) ?_
  refine sy rfl rfl (mv rfl) ?_
  refine sy rfl rfl ((eql rfl rfl).eq (congrArg Value.bool (show ((1 : Int) == 1) = true from rfl))) ?_
  refine st (pkT rfl rfl) ?_
  refine st (mv rfl) ?_
  refine sy rfl rfl (mv rfl) ?_
  refine sy rfl rfl ((eql rfl rfl).eq (congrArg Value.bool (show ((1 : Int) == 1) = true from rfl))) ?_
  refine st (pkT rfl rfl) ?_
  refine en fun a w e' hf => ?_
  replace hT := hT.ext e'
  replace e := Ext.tr e e'
  clear e'
  refine tl_as hf rfl (by decide) fun a hf => ?_
  refine tl_nil ?_
  refine wret ?_
  try simp only [Exit.then, Exit.inBlock]
  refine ret1 rfl hf rfl ?_
  rintro _ rfl
  exact ⟨_, rfl, e, rfl⟩
end Go.Mono

namespace Go.Mono
open Go Go.Proofs Go.RowKit Go.ChangeShapes Go.WideShapes

theorem cellsBag : Tryz.prog.cellsOf 70 = 17 := by kernel_rfl
theorem cellsInt : Tryz.prog.cellsOf 3 = 1 := by kernel_rfl
theorem cellsSet : Tryz.prog.cellsOf 67 = 16 := by kernel_rfl
theorem cellsU64 : Tryz.prog.cellsOf 65 = 1 := by kernel_rfl
/-- sixteen words make a set -/
def ofW (f : Nat → BitVec 64) : Nat → BS
  | 0 => 0
  | n + 1 => ofW f n ||| ((f n).setWidth 1024 <<< (64 * n))
theorem word_shl (x : BitVec 64) (n i : Nat) (hi : i < 16) (hn : n < 16) : word (x.setWidth 1024 <<< (64 * n)) i = if i = n then x else 0 := by
  refine BitVec.eq_of_getLsbD_eq fun j hj => ?_
  rw [word_bit _ _ _ hj]
  have e : (x.setWidth 1024 <<< (64 * n)).getLsbD (64 * i + j) = (decide (64 * i + j < 1024) && !decide (64 * i + j < 64 * n) && (x.setWidth 1024).getLsbD (64 * i + j - 64 * n)) := BitVec.getLsbD_shiftLeft _ _
  rw [e, BitVec.getLsbD_setWidth]
  by_cases h : i = n
  · subst h
    have h1 : 64 * i + j - 64 * i = j := by omega
    have h2 : 64 * i + j < 1024 := by omega
    have h3 : ¬ 64 * i + j < 64 * i := by omega
    have h4 : j < 1024 := by omega
    simp only [h1, h2, h3, h4, decide_true, decide_false, Bool.not_false, Bool.true_and, if_true]
  · rw [if_neg h]
    by_cases h3 : i < n
    · have : 64 * i + j < 64 * n := by omega
      simp [this]
    · have h5 : 64 ≤ 64 * i + j - 64 * n := by omega
      have : x.getLsbD (64 * i + j - 64 * n) = false := BitVec.getLsbD_of_ge _ _ h5
      simp [this]
theorem ofW_word (f : Nat → BitVec 64) : ∀ n, n ≤ 16 → ∀ i, i < 16 → word (ofW f n) i = if i < n then f i else 0
  | 0, _, i, hi => by rw [ofW, word_zero]; simp
  | n + 1, hn, i, hi => by
    rw [ofW, word_or, ofW_word f n (by omega) i hi, word_shl _ _ _ hi (by omega)]
    by_cases h1 : i = n
    · subst h1; simp
    · by_cases h2 : i < n
      · rw [if_pos h2, if_neg h1, if_pos (by omega)]; simp
      · rw [if_neg h2, if_neg h1, if_neg (by omega)]; simp
theorem wordsC_ofW (f : Nat → BitVec 64) : setC (ofW f 16) = wordsC f := wordsC_congr fun i hi => by rw [ofW_word f 16 (Nat.le_refl _) i hi, if_pos hi]

section
variable {H : Type} {enc : TypeId × Value → H} {w : World} {base : Nat} {spare : Nat → Bool} {held : Bool}
theorem u64_of {z : Int} (h : (Lit.int .u64 z).wf = true) : Value.int .u64 z = Mono.W (BitVec.ofNat 64 z.toNat) := by
  have h1 : IntKind.u64.min = 0 := by decide
  have h2 : IntKind.u64.max = 18446744073709551615 := by decide
  simp only [Lit.wf, h1, h2, Bool.and_eq_true, decide_eq_true_eq] at h
  rw [Mono.W, BitVec.toNat_ofNat, Nat.mod_eq_of_lt (by omega), Int.toNat_of_nonneg h.1]
/-- the cells of one bag -/
theorem bag_cells {n : Nat} {cs : List Value} {x : DataW H × List MemPlace} (h : DataW.trod enc Tryz.prog w base spare held n 70 cs = some x) : ∃ b : Int × BS, cs = (bagC b).toList := by
  obtain ⟨y0, y1, m, _, hl, h0, h1⟩ := trod_struct2 Tryz.underlying70 h
  rw [cellsBag] at hl
  change DataW.trod enc Tryz.prog w base spare held m 3 ((cs.drop 0).take (Tryz.prog.cellsOf 3)) = some y0 at h0
  change DataW.trod enc Tryz.prog w base spare held m 67 ((cs.drop 1).take (Tryz.prog.cellsOf 67)) = some y1 at h1
  rw [cellsInt] at h0
  rw [cellsSet] at h1
  obtain ⟨z, hz, _, _⟩ := DataW.trod_int Tryz.underlying3 h0
  obtain ⟨xs, m2, _, _, hl2, hxl, hall⟩ := DataW.trod_array Tryz.underlying67 h1
  have hw : ∀ i, i < 16 → ∃ y : BitVec 64, cs[1 + i]? = some (Mono.W y) := by
    intro i hi
    have := hall i hi
    rw [cellsU64, Nat.mul_one] at this
    obtain ⟨b, hb⟩ : ∃ b, xs[i]? = some b := ⟨_, List.getElem?_eq_getElem (by omega)⟩
    rw [hb] at this
    obtain ⟨u, hu, _, hwf⟩ := DataW.trod_int Tryz.underlying65 this
    refine ⟨BitVec.ofNat 64 u.toNat, ?_⟩
    rw [← u64_of hwf]
    have h3 := congrArg (fun l : List Value => l[0]?) hu
    simp only [List.getElem?_cons_zero] at h3
    rw [List.getElem?_take, if_pos (by decide), List.getElem?_drop, Nat.add_zero, List.getElem?_take, if_pos hi, List.getElem?_drop] at h3
    exact h3
  obtain ⟨f, hf⟩ := Deep.choose_lt (n := 16) (p := fun i (y : BitVec 64) => cs[1 + i]? = some (Mono.W y)) hw
  refine ⟨(z, ofW f 16), ?_⟩
  apply List.ext_getElem?
  intro j
  simp only [bagC, wordsC_ofW]
  cases j with
  | zero =>
    have h3 := congrArg (fun l : List Value => l[0]?) hz
    simp only [List.getElem?_cons_zero] at h3
    rw [List.getElem?_take, if_pos (by decide), List.getElem?_drop] at h3
    simpa using h3
  | succ j =>
    simp only [List.getElem?_cons_succ, Array.getElem?_toList]
    by_cases hj : j < 16
    · rw [wordsC_get _ _ hj, Nat.add_comm]; exact hf j hj
    · rw [List.getElem?_eq_none (by omega), Array.getElem?_eq_none (by rw [wordsC_size]; omega)]
theorem bagC_len (b : Int × BS) : (bagC b).toList.length = 17 := by rw [Array.length_toList, bagC_size]
theorem bags_at {a : Addr} {f : Nat → Int × BS} : ∀ (n s : Nat), (∀ i, s ≤ i → i < s + n → ∀ j u, (bagC (f i)).toList[j]? = some u → w.cell? (a.add (i * 17 + j)) = some u) → ∀ j u, (((List.range' s n).map f).flatMap fun b => (bagC b).toList)[j]? = some u → w.cell? (a.add (s * 17 + j)) = some u
  | 0, s, h, j, u, hu => by simp at hu
  | n + 1, s, h, j, u, hu => by
    rw [List.range'_succ, List.map_cons, List.flatMap_cons] at hu
    by_cases hj : j < 17
    · rw [List.getElem?_append_left (by rw [bagC_len]; exact hj)] at hu
      exact h s (Nat.le_refl _) (by omega) j u hu
    · rw [List.getElem?_append_right (by rw [bagC_len]; omega), bagC_len] at hu
      have := bags_at n (s + 1) (fun i h1 h2 => h i (by omega) (by omega)) (j - 17) u hu
      rwa [show (s + 1) * 17 + (j - 17) = s * 17 + j by omega] at this
theorem bags_cells {G : Nat → Prop} : ∀ t : List (Int × BS), Cells bagE G w t (t.flatMap fun b => (bagC b).toList)
  | [] => rfl
  | b :: t => ⟨(bagC b).toList, _, rfl, ⟨[I b.1], (setC b.2).toList, rfl, rfl, rfl⟩, bags_cells t⟩
set_option maxRecDepth 100000 in
/-- THE ARGUMENT, OPENED -/
theorem open_tree {v : Value} {d : DataW H} {ps : List MemPlace} {b0 : Nat} (hok : Value.okWide Tryz.prog w .any b0 23 v) (h : DataW.Trod enc Tryz.prog w 0 spare held 23 v d ps) : ∃ t, (Dv treeE Go.Mono.G0 t).p v w := by
  obtain ⟨fuel, hf⟩ := h
  obtain ⟨a0, n0, c0, rfl⟩ := okWide_slice Tryz.underlying23 hok
  rcases Deep.open_slice Tryz.underlying23 hf with ⟨hcs, _⟩ | ⟨a, len, cap, m, n, D, Pl, hcs, _, hlc, _, hm, _, hall⟩
  · simp [Value.cells] at hcs
    obtain ⟨rfl, rfl, rfl⟩ := hcs
    exact ⟨[], Dv.nil⟩
  · simp [Value.cells] at hcs
    obtain ⟨rfl, rfl, rfl⟩ := hcs
    have hlm : n0 ≤ m := by rw [hm]; split <;> omega
    have each : ∀ i, i < n0 → ∃ b : Int × BS, ∀ j u, (bagC b).toList[j]? = some u → w.cell? (a.add (i * 17 + j)) = some u := by
      intro i hi
      obtain ⟨cs', h1, h2⟩ := hall i (by omega)
      rw [cellsBag] at h1
      obtain ⟨_, hlen, hcell⟩ := World.cells?_some h1
      obtain ⟨b, rfl⟩ := bag_cells h2
      refine ⟨b, fun j u hu => ?_⟩
      have hj : j < 17 := by have := (List.getElem?_eq_some_iff.1 hu).1; rw [bagC_len] at this; exact this
      have := hcell j hj
      rw [Deep.add_add] at this
      rw [this]; exact hu
    obtain ⟨f, hf'⟩ := Deep.choose_lt each
    by_cases h0 : n0 = 0
    · subst h0
      have hb : a.block < w.heap.size := by
        have h1 : Cell.ok Tryz.prog w .any b0 23 (.slice (some a) 0 c0) := by
          have := hok
          simpa [Value.okWide, Cell.okWide, Tryz.underlying23] using this
        have h2 : 0 ≤ c0 ∧ (c0 : Int) ≤ IntKind.i64.max ∧ w.has Tryz.prog .any b0 a 70 c0 := by
          simpa [Cell.ok, Tryz.underlying23] using h1
        have h3 := h2.2.2.2.2
        obtain ⟨row, h3⟩ := h3
        obtain ⟨cells, h3⟩ := h3
        have h4 := h3.1
        apply Classical.byContradiction
        intro hn
        have : w.heap[a.block]? = none := Array.getElem?_eq_none (by omega)
        simp [World.shape?, this] at h4
      exact ⟨[], Dv.sl.2 (.inr ⟨a, c0, [], rfl, by simp, fun hg => hg.elim, hb, rfl, fun j u hu => by simp at hu⟩)⟩
    · refine ⟨(List.range n0).map f, Dv.sl.2 (.inr ⟨a, c0, ((List.range n0).map f).flatMap fun b => (bagC b).toList, by simp, by simpa using hlc, fun hg => hg.elim, ?_, bags_cells _, fun j u hu => ?_⟩)⟩
      · have := hf' 0 (by omega) 0 (I (f 0).1) rfl
        have := World.block_lt_of_cell? w _ this
        simpa [add_block] using this
      · rw [List.range_eq_range'] at hu
        have := bags_at (w := w) (a := a) (f := f) n0 0 (fun i _ hi j u hu => hf' i (by omega) j u hu) j u hu
        simpa using this
end
end Go.Mono

namespace Go.Mono
open Go Go.Proofs Go.RowKit

/-- a slice of the call's own: the data avoid G and the slice's own block -/
structure OwX {α : Type} (e : Enc α) (ty : TypeId) (B : Nat) (G : Nat → Prop) (w : World) (xs : List α) (v : Value) : Prop where
  own : ∃ cs, w.ownsRow B ty e.k v xs.length cs ∧ Cells e (GO G v) w xs cs
  base : B ≤ w.heap.size
section
variable {α β : Type} {e : Enc α} {ty ty' : TypeId} {B B' : Nat} {G G' : Nat → Prop} {w w' : World} {xs : List α} {ys : List β} {v u : Value}
theorem OwX.lt (h : OwX e ty B G w xs v) {b : Nat} (hb : v.ownBlock = some b) : B ≤ b ∧ b < w.heap.size := by
  obtain ⟨cs, h1, _⟩ := h.own
  exact h1.lt b hb
theorem OwX.nil (e : Enc α) (ty : TypeId) {B : Nat} (hB : B ≤ w.heap.size) : OwX e ty B G w [] (.slice none 0 0) :=
  ⟨⟨[], World.ownsRow_nil _ _ _ _, rfl⟩, hB⟩
theorem OwX.weak (h : OwX e ty B G w xs v) (hG : ∀ b, b < w.heap.size → G' b → G b) : OwX e ty B G' w xs v := by
  obtain ⟨cs, h1, h2⟩ := h.own
  exact ⟨⟨cs, h1, h2.weak fun b hb h => h.imp (hG b hb) id⟩, h.base⟩
theorem OwX.ch (h : OwX e ty B G w xs v) {S : Nat → Prop} (c : Chg S w w') (hS : ∀ b, v.ownBlock = some b → ¬S b) (hG : ∀ b, S b → G b) : OwX e ty B G w' xs v := by
  obtain ⟨cs, h1, h2⟩ := h.own
  refine ⟨⟨cs, ⟨h1.1, ?_⟩, h2.pres (fun b hb hn => c.block b hb fun hs => hn (.inl (hG b hs))) c.size⟩, Nat.le_trans h.base c.size⟩
  rcases h1.2 with h3 | ⟨g, cap, cur, a1, a2, a3, a4⟩
  · exact .inl h3
  · refine .inr ⟨g, cap, cur, a1, a2, ?_, a4⟩
    rw [c.block g (Array.getElem?_eq_some_iff.1 a3).1 (hS g (by rw [a1]; rfl))]
    exact a3
theorem OwX.ext (h : OwX e ty B G w xs v) (k : Ext w w') : OwX e ty B G w' xs v := h.ch (k.chg fun _ => False) (fun _ _ h => h) fun _ h => h.elim
theorem OwX.sl (h : OwX e ty B G w xs v) (hG : ∀ b, v.ownBlock = some b → ¬G' b) (hGG : ∀ b, b < w.heap.size → G' b → G b) : (Dv (slE e) G' xs).p v w := by
  obtain ⟨cs, h1, h2⟩ := h.own
  refine Dv.sl.2 ?_
  rcases h1.2 with ⟨hv, hn⟩ | ⟨g, cap, cur, hv, hB, hg, hn, hm, hs, ht⟩
  · exact .inl ⟨hv, List.eq_nil_of_length_eq_zero hn⟩
  · refine .inr ⟨_, cap, cs, hv, hn, hG _ (by rw [hv]; rfl), (Array.getElem?_eq_some_iff.1 hg).1, h2.weak fun b hb h => .inl (hGG b hb h), h1.cells (by rw [hv]; rfl)⟩
theorem OwX.sl0 (h : OwX e ty B G w xs v) : (Dv (slE e) Go.Mono.G0 xs).p v w := h.sl (fun _ _ h => h) fun _ _ h => h.elim
theorem OwX.one (h : OwX e ty B G w xs v) : v.oneCell' = true := by
  rcases Dv.sl.1 h.sl0 with ⟨rfl, _⟩ | ⟨ad, cap, cs, rfl, _⟩ <;> rfl
end
section tail
variable {P : Program} {L : Env} {ty : TypeId} {pos : String} {aft : Array Edge} {r : Option Nat} {ds : List Deferred}
variable {ops : Array Oper} {rest : List Oper} {Q : Exit → Act → World → Prop} {n : Nat} {a : Act} {w : World} {x y : Operand}
variable {α : Type} {e : Enc α} {G : Nat → Prop} {xs ys : List α} {v : Value}
/-- a call whose post speaks of its value -/
theorem tl_callE {S : Nat → Prop} {F : Value → World → Prop} {id : FuncId} {xs : Array Operand} {tys : Array TypeId} {d : Nat} (hf : FrD n ds a w L) [hL : AvSL S L] (hd : d < n) (he : Proofs.Enters P id)
    (h : Calls P id (xs.map a.eval) w (fun e w' => ∃ v, e = .returned v ∧ Chg S w w' ∧ F v w'))
    (k : ∀ a' v w', Chg S w w' → F v w' → FrD n ds a' w' ((d, E v) :: L) → wpListIn (FW r) 0 P ops Q rest a' w') :
    wpListIn (FW r) 0 P ops Q (⟨some d, .call ⟨.value (.func id), xs, tys⟩, ty, pos, aft, none⟩ :: rest) a w :=
  wpListIn_plain rfl fun K hK => by
    have hfv : a.eval (.func id) = .func (.func id) #[] #[] := rfl
    have hrun : (execOp a.eval ⟨some d, .call ⟨.value (.func id), xs, tys⟩, ty, pos, aft, none⟩).run P w = .ok (.enter id (xs.map a.eval)) w := by
      have := he (xs.map a.eval) w
      simp [execOp, resolve, hfv, Deferred.ofValue, invoke, this]
    refine OpR.wp (R := fun v w' => Chg S w w' ∧ F v w') ?_ ?_
    · simp only [OpR, hrun]
      exact h
    · rintro v w' ⟨h1, h3⟩
      exact hK _ _ (k _ _ _ h1 h3 ((hf.ch h1).put (d := some d) (A := E v) (Ext.rfl' _) (fun k hk => by cases hk; exact hd) rfl))
end tail
end Go.Mono

namespace Go.Mono
open Go Go.RowKit
/-- A under the condition p, undefined otherwise -/
def CdP (p : Bool) (A : VA) : VA := ⟨fun v w => (p = true ∧ A.p v w) ∨ (p = false ∧ v = undef), fun v w w' e h => h.imp (fun h => ⟨h.1, A.st v w w' e h.2⟩) id⟩
instance (row : Option Nat) (p : Bool) (A : VA) [h : AvR row A] : AvR row (CdP p A) := ⟨fun v w w' hg hv => hv.imp (fun hv => ⟨hv.1, h.av v w w' hg hv.2⟩) id⟩
/-- L' : some of L's slots, those under a condition that follows from p opened -/
inductive Opn (p : Bool) (L : Env) : Env → Prop
  | n : Opn p L []
  | k (t : Nat) {A : VA} {L' : Env} (h : look L t = some A) (r : Opn p L L') : Opn p L ((t, A) :: L')
  | c (t : Nat) {q : Bool} {A : VA} {L' : Env} (h : look L t = some (CdP q A)) (hp : p = true → q = true) (r : Opn p L L') : Opn p L ((t, A) :: L')
theorem Opn.get {p : Bool} {L L' : Env} (h : Opn p L L') : ∀ t A, look L' t = some A → ∃ B, look L t = some B ∧ ∀ v w, p = true → B.p v w → A.p v w := by
  induction h with
  | n => intro t A h; simp [look] at h
  | k t0 h r ih =>
    intro t A hA
    by_cases ht : t0 = t
    · subst ht; rw [look_cons_same] at hA; obtain rfl := Option.some.inj hA; exact ⟨_, h, fun _ _ _ h => h⟩
    · rw [look_cons_ne _ _ ht] at hA; exact ih t A hA
  | c t0 h hp r ih =>
    intro t A hA
    by_cases ht : t0 = t
    · subst ht; rw [look_cons_same] at hA; obtain rfl := Option.some.inj hA
      exact ⟨_, h, fun v w hpt hB => by
        rcases hB with ⟨_, hB⟩ | ⟨hq, _⟩
        · exact hB
        · rw [hp hpt] at hq; cases hq⟩
    · rw [look_cons_ne _ _ ht] at hA; exact ih t A hA
section
variable {P : Program} {w0 : World} {L L' : Env} {ty : TypeId} {pos : String} {aft : Array Edge} {ops : Array Oper} {rest : List Oper} {K : Env → Prop} {A : VA} {op : Op} {dd : Nat}
theorem opn_vals {p : Bool} {a : Act} {w : World} {o : Oper} (hL : Opn p L L') (hp : p = true) (hv : ∀ x ∈ o.op.operands, ∀ B, opd L x = some B → B.p (a.eval x) w) : ∀ x ∈ o.op.operands, ∀ B, opd L' x = some B → B.p (a.eval x) w := by
  intro x hx B hB
  cases x with
  | tmp t =>
    obtain ⟨C, h1, h2⟩ := hL.get t B hB
    exact h2 _ _ hp (hv _ hx C h1)
  | const v => exact hv _ hx B hB
  | global g => exact hv _ hx B hB
  | func f => exact hv _ hx B hB
/-- under a guard -/
theorem sgE {i d : Nat} {want b : Bool} (hd : (ops[i]?).bind (·.dst) = some d) (hl : look L d = some (E (.bool b))) (hL : Opn (b == want) L L')
    (h : (b == want) = true → OpC P w0 L' ⟨some dd, op, ty, pos, aft, some (i, want)⟩ A) (k : RegM P ops w0 rest K ((dd, CdP (b == want) A) :: L)) : RegM P ops w0 (⟨some dd, op, ty, pos, aft, some (i, want)⟩ :: rest) K L :=
  ⟨CdP (b == want) A, fun a w he hv hgd => by
    have h1 : a.eval (.tmp d) = .bool b := hgd d _ (by simp [gdst, hd]) hl
    have h2 := yielded_of (ops := ops) hd h1
    cases hb : b == want with
    | true =>
      obtain rfl : b = want := by simpa using hb
      simp only [Region.wanted, h2, beq_self_eq_true, if_true]
      exact ((h hb).out _ w he (opn_vals hL hb hv)).mono fun v w' ⟨h1, h2⟩ => ⟨h1, .inl ⟨rfl, h2⟩⟩
    | false =>
      have h3 : (some b == some want) = false := by cases b <;> cases want <;> simp_all
      simp only [Region.wanted, h2, h3]
      exact .inr ⟨rfl, rfl⟩, k⟩
/-- under a guard that stands under a guard -/
theorem sgC {i d : Nat} {q want c : Bool} (hd : (ops[i]?).bind (·.dst) = some d) (hl : look L d = some (CdP q (E (.bool c)))) (hL : Opn (q && c == want) L L')
    (h : (q && c == want) = true → OpC P w0 L' ⟨some dd, op, ty, pos, aft, some (i, want)⟩ A) (k : RegM P ops w0 rest K ((dd, CdP (q && c == want) A) :: L)) : RegM P ops w0 (⟨some dd, op, ty, pos, aft, some (i, want)⟩ :: rest) K L :=
  ⟨CdP (q && c == want) A, fun a w he hv hgd => by
    have h1 := hgd d _ (by simp [gdst, hd]) hl
    rcases h1 with ⟨hq, h1⟩ | ⟨hq, h1⟩
    · have h2 := yielded_of (ops := ops) hd (show a.eval (.tmp d) = .bool c from h1)
      subst hq
      cases hb : c == want with
      | true =>
        have hb' : (true && c == want) = true := by rw [hb]; rfl
        obtain rfl : c = want := by simpa using hb
        simp only [Region.wanted, h2, beq_self_eq_true, if_true]
        exact ((h hb').out _ w he (opn_vals hL hb' hv)).mono fun v w' ⟨h1, h2⟩ => ⟨h1, .inl ⟨rfl, h2⟩⟩
      | false =>
        have h3 : (some c == some want) = false := by cases c <;> cases want <;> simp_all
        simp only [Region.wanted, h2, h3]
        exact .inr ⟨rfl, rfl⟩
    · subst hq
      have h2 : yielded ops a.tmps i = none := by
        unfold yielded
        rw [hd]
        simp only [Act.eval] at h1
        cases hh : a.tmps[d]? with
        | none => simp [hh]
        | some v => simp [hh] at h1; subst h1; simp [hh, undef]
      simp only [Region.wanted, h2]
      exact .inr ⟨rfl, rfl⟩, k⟩
variable {dst : Option Tmp} {g : Option (Nat × Bool)}
/-- b && v -/
theorem pkAnd {c x : Operand} {b q v : Bool} (hc : opd L c = some (E (.bool b))) (hx : opd L x = some (CdP q (E (.bool v)))) (hq : b = true → q = true) :
    OpC P w0 L ⟨dst, .pick c x (.const (.bool false)), ty, pos, aft, g⟩ (E (.bool (b && v))) := by
  refine opc_pure fun ρ w he hv => ?_
  have h1 := opE hv (x := c) (by simp [Op.operands]) hc
  have h2 := hv x (by simp [Op.operands]) _ hx
  have h3 : ρ (.const (.bool false)) = .bool false := hv (.const (.bool false)) (by simp [Op.operands]) _ rfl
  cases hb : b with
  | false => subst hb; exact ⟨_, by simp [execOp, h1, h3, asBool], rfl⟩
  | true =>
    subst hb
    rcases h2 with ⟨_, h2⟩ | ⟨h2, _⟩
    · exact ⟨_, by simp [execOp, h1, asBool], h2⟩
    · rw [hq rfl] at h2; cases h2
/-- b || v -/
theorem pkOr {c x : Operand} {b q v : Bool} (hc : opd L c = some (E (.bool b))) (hx : opd L x = some (CdP q (E (.bool v)))) (hq : b = false → q = true) :
    OpC P w0 L ⟨dst, .pick c (.const (.bool true)) x, ty, pos, aft, g⟩ (E (.bool (b || v))) := by
  refine opc_pure fun ρ w he hv => ?_
  have h1 := opE hv (x := c) (by simp [Op.operands]) hc
  have h2 := hv x (by simp [Op.operands]) _ hx
  have h3 : ρ (.const (.bool true)) = .bool true := hv (.const (.bool true)) (by simp [Op.operands]) _ rfl
  cases hb : b with
  | true => subst hb; exact ⟨_, by simp [execOp, h1, h3, asBool], rfl⟩
  | false =>
    subst hb
    rcases h2 with ⟨_, h2⟩ | ⟨h2, _⟩
    · exact ⟨_, by simp [execOp, h1, asBool], h2⟩
    · rw [hq rfl] at h2; cases h2
end
/-- a box that is only read -/
theorem tl_boxP {P : Program} {r : Option Nat} {ds : List Deferred} {L : Env} {ops : Array Oper} {rest : List Oper} {Q : Exit → Act → World → Prop} {n : Nat} {a : Act} {w : World} {ty : TypeId} {pos : String} {aft : Array Edge} {α : Type} {e : Enc α} {G : Nat → Prop} {z : α} {t : TypeId} {x : Operand} {d : Nat}
    (hf : FrD n ds a w L) (hx : opd L x = some (Dv e G z)) (hd : d < n) (hG : ∀ b, G b → b < w.heap.size)
    (k : ∀ a' w', Ext w w' → FrD n ds a' w' ((d, Dv (ptE e) G (some z)) :: L) → wpListIn (FW r) 0 P ops Q rest a' w') :
    wpListIn (FW r) 0 P ops Q (⟨some d, .box t x, ty, pos, aft, none⟩ :: rest) a w :=
  tl_box hf hx hd fun a' b w' v hv e' hb hs hB hf' => k a' w' e' (by
    obtain ⟨cs, h1, rfl⟩ := hv
    have hPt : (Dv (ptE e) G (some z)).p (.pointer (some ⟨b, 0, none⟩)) w' := Dv.pt.2 ⟨_, rfl, fun h => by have := hG _ h; simp only at this; omega, by simp only; omega, cs, Enc.ext h1 e', fun i u hu => by
      rw [Enc.pack_cells h1] at hB
      have : (Addr.mk b 0 none).add i = ⟨b, i, none⟩ := by simp [Addr.add]; intro h; exact h.symm
      rw [this, hB.cell]
      simpa using hu⟩
    exact hf'.weak fun v hv => by cases hv; exact hPt)
end Go.Mono

namespace Go.Gr
abbrev VT := Int × (Int × Int)
abbrev ET := (Int × Int) × (Int × Int)
abbrev DT := Int × Int × Int × Int × Int
abbrev GT := List VT × List ET
def lt2 (p q : Int × Int) : Bool := decide (p.1 < q.1 ∨ p.1 = q.1 ∧ p.2 < q.2)
def lt1 (p q : Int) : Bool := decide (p < q)
def insW {γ : Type} (after : γ → Bool) (x : γ) (l : List γ) : List γ := l.takeWhile (fun y => !after y) ++ x :: l.dropWhile (fun y => !after y)
def insV (l : List VT) (x : VT) : List VT := insW (fun y => lt1 x.1 y.1) x l
def insE (l : List ET) (x : ET) : List ET := insW (fun y => lt2 x.1 y.1) x l
/-- what a sorted list becomes when a key gets a value -/
def putL {α β : Type} [DecidableEq α] (lt : α → α → Bool) (l : List (α × β)) (k : α) (c : β) : List (α × β) :=
  if l.any (fun y => decide (y.1 = k)) then l.map (fun y => if y.1 = k then (k, c) else y) else insW (fun y => lt k y.1) (k, c) l
def pairs (op : Int) : Bool := op == 2 || op == 3 || op == 6 || op == 7
def weighs (op : Int) : Bool := op == 0 || op == 2 || op == 5 || op == 7
def idOk (n : Int) : Bool := decide (0 ≤ n) && decide (n < 1024)
def heavy (n : Int) : Bool := decide (n < -1048576) || decide (1048576 < n)
def inV (l : List VT) (n : Int) : Bool := l.any fun y => decide (y.1 = n)
def ends (u v : Int) : Int × Int := (min u v, max u v)
def inE (l : List ET) (u v : Int) : Bool := l.any fun y => decide (y.1 = ends u v)
def tests (g : GT) (d : DT) : List (Bool × Int) :=
  let (op, u, v, _, x) := d
  [(decide (op < 0) || decide (8 ≤ op), 11),
   ((!idOk u) || (pairs op && !idOk v) || (weighs op && heavy x), 2),
   (pairs op && u == v, 15),
   (op == 0 && inV g.1 u, 7),
   ((op != 0 && !pairs op && !inV g.1 u) || (op == 2 && !(inV g.1 u && inV g.1 v)), 9),
   (pairs op && op != 2 && !inE g.2 u v, 9),
   (op == 2 && inE g.2 u v, 7),
   (op == 2 && decide ((1024 : Int) ≤ (g.2.length : Nat)), 8)]
def firstOf : List (Bool × Int) → Int
  | [] => 0
  | (b, c) :: r => if b then c else firstOf r
def wrongM (g : GT) (d : DT) : Int := firstOf (tests g d)
/-- the program's edits of a vertex and of an edge -/
def doM (g : GT) (d : DT) : GT :=
  if d.1 = 0 then (putL lt1 g.1 d.2.1 d.2.2.2, g.2) else if d.1 = 2 then (g.1, putL lt2 g.2 (ends d.2.1 d.2.2.1) d.2.2.2) else g

/-- a valid graph: sorted, in range, edges between vertices -/
structure Ok (g : GT) : Prop where
  sv : g.1.Pairwise fun a b => lt1 a.1 b.1 = true
  se : g.2.Pairwise fun a b => lt2 a.1 b.1 = true
  rv : ∀ x ∈ g.1, idOk x.1 = true ∧ (0 ≤ x.2.1 ∧ x.2.1 < 256) ∧ heavy x.2.2 = false
  re : ∀ x ∈ g.2, x.1.1 < x.1.2 ∧ inV g.1 x.1.1 = true ∧ inV g.1 x.1.2 = true ∧ (0 ≤ x.2.1 ∧ x.2.1 < 256) ∧ heavy x.2.2 = false
  ne : g.2.length ≤ 1024
theorem insW_last {γ : Type} (after : γ → Bool) (x : γ) (l : List γ) (h : ∀ y ∈ l, after y = false) : insW after x l = l ++ [x] := by
  unfold insW
  induction l with
  | nil => rfl
  | cons y r ih =>
    have hy := h y (by simp)
    simp only [List.takeWhile_cons, List.dropWhile_cons, hy, Bool.not_false, if_true, List.cons_append]
    rw [ih fun z hz => h z (by simp [hz])]
theorem putL_last {α β : Type} [DecidableEq α] (lt : α → α → Bool) (l : List (α × β)) (k : α) (c : β) (h : ∀ y ∈ l, y.1 ≠ k ∧ lt k y.1 = false) : putL lt l k c = l ++ [(k, c)] := by
  unfold putL
  rw [if_neg]
  · exact insW_last _ _ _ fun y hy => (h y hy).2
  · simp only [List.any_eq_true, decide_eq_true_eq, not_exists, not_and]
    exact fun y hy => (h y hy).1
theorem lt2_irr (a : Int × Int) : lt2 a a = false := by simp [lt2]
theorem lt2_asy {a b : Int × Int} (h : lt2 a b = true) : lt2 b a = false ∧ a ≠ b := by
  obtain ⟨a1, a2⟩ := a; obtain ⟨b1, b2⟩ := b
  simp only [lt2, decide_eq_true_eq, decide_eq_false_iff_not] at *
  exact ⟨by omega, fun h' => by simp only [Prod.mk.injEq] at h'; omega⟩
theorem lt2_tr {a b c : Int × Int} (h : lt2 a b = true) (k : lt2 b c = true) : lt2 a c = true := by
  simp only [lt2, decide_eq_true_eq] at *; omega
theorem lt2_tot {a b : Int × Int} (h : lt2 a b = false) (k : a ≠ b) : lt2 b a = true := by
  obtain ⟨a1, a2⟩ := a; obtain ⟨b1, b2⟩ := b
  simp only [lt2, decide_eq_true_eq, decide_eq_false_iff_not, ne_eq, Prod.mk.injEq] at *; omega
theorem lt1_asy {a b : Int} (h : lt1 a b = true) : lt1 b a = false ∧ a ≠ b := by
  simp only [lt1, decide_eq_true_eq, decide_eq_false_iff_not] at *; omega
theorem lt1_tr {a b c : Int} (h : lt1 a b = true) (k : lt1 b c = true) : lt1 a c = true := by
  simp only [lt1, decide_eq_true_eq] at *; omega
theorem lt1_tot {a b : Int} (h : lt1 a b = false) (k : a ≠ b) : lt1 b a = true := by
  simp only [lt1, decide_eq_true_eq, decide_eq_false_iff_not] at *; omega

/-- the edits that build a graph -/
def dV (x : VT) : DT := (0, x.1, 0, x.2)
def dE (x : ET) : DT := (2, x.1.1, x.1.2, x.2)
theorem before {γ : Type} {R : γ → γ → Prop} {l : List γ} (h : l.Pairwise R) {i : Nat} {x : γ} (hx : l[i]? = some x) : ∀ y ∈ l.take i, R y x := by
  intro y hy
  obtain ⟨j, hj, rfl⟩ := List.getElem_of_mem hy
  obtain ⟨hi, rfl⟩ := List.getElem?_eq_some_iff.1 hx
  simp only [List.length_take] at hj
  rw [List.getElem_take]
  exact List.pairwise_iff_getElem.1 h _ _ (by omega) hi (by omega)
theorem take_succ' {γ : Type} {l : List γ} {i : Nat} {x : γ} (hx : l[i]? = some x) : l.take (i + 1) = l.take i ++ [x] := by
  rw [List.take_add_one, hx]; rfl
theorem ends_lt {u v : Int} (h : u < v) : ends u v = (u, v) := by
  simp only [ends, Prod.mk.injEq]; omega
theorem stepV {g : GT} (G : Ok g) {i : Nat} {x : VT} (hx : g.1[i]? = some x) : wrongM (g.1.take i, []) (dV x) = 0 ∧ doM (g.1.take i, []) (dV x) = (g.1.take (i + 1), []) := by
  have hb := before G.sv hx
  obtain ⟨h1, h2, h3⟩ := G.rv x (List.mem_of_getElem? hx)
  have hin : inV (g.1.take i) x.1 = false := by
    simp only [inV, List.any_eq_false, decide_eq_true_eq]
    exact fun y hy => (lt1_asy (hb y hy)).2
  constructor
  · simp [wrongM, tests, dV, firstOf, pairs, weighs, h1, h3, hin]
  · simp only [doM, dV, if_true]
    rw [putL_last _ _ _ _ fun y hy => ⟨(lt1_asy (hb y hy)).2, (lt1_asy (hb y hy)).1⟩, take_succ' hx]
theorem stepE {g : GT} (G : Ok g) {i : Nat} {x : ET} (hx : g.2[i]? = some x) : wrongM (g.1, g.2.take i) (dE x) = 0 ∧ doM (g.1, g.2.take i) (dE x) = (g.1, g.2.take (i + 1)) := by
  have hb := before G.se hx
  obtain ⟨h1, h2, h3, h4, h5⟩ := G.re x (List.mem_of_getElem? hx)
  have hid : ∀ n, inV g.1 n = true → idOk n = true := fun n hn => by
    simp only [inV, List.any_eq_true, decide_eq_true_eq] at hn
    obtain ⟨y, hy, rfl⟩ := hn
    exact (G.rv y hy).1
  have he : ends x.1.1 x.1.2 = x.1 := ends_lt h1
  have hin : inE (g.2.take i) x.1.1 x.1.2 = false := by
    simp only [inE, he, List.any_eq_false, decide_eq_true_eq]
    exact fun y hy => (lt2_asy (hb y hy)).2
  have hil : i < g.2.length := (List.getElem?_eq_some_iff.1 hx).1
  have hn := G.ne
  have h6 : ¬(x.1.1 = x.1.2) := by omega
  have h7 : ¬((1024 : Int) ≤ ((g.2.take i).length : Nat)) := by simp only [List.length_take]; omega
  constructor
  · simp only [wrongM, tests, dE, firstOf, pairs, weighs, hid _ h2, hid _ h3, h5, h2, h3, hin, h6, h7]
    simp [h6]
  · simp only [doM, dE]
    rw [if_neg (by decide), if_pos trivial, he, putL_last _ _ _ _ fun y hy => ⟨(lt2_asy (hb y hy)).2, (lt2_asy (hb y hy)).1⟩, take_succ' hx]
end Go.Gr
namespace Go.Gr
section
variable {γ : Type} (after : γ → Bool) (x : γ) (l : List γ)
def outW (k : Nat) : List γ := if (l.take k).any after then insW after x (l.take k) else l.take k
theorem insW_any {m : List γ} (h : m.any after = true) (r : List γ) : insW after x (m ++ r) = insW after x m ++ r := by
  induction m with
  | nil => simp at h
  | cons y m ih =>
    unfold insW
    by_cases hy : after y = true
    · simp [List.takeWhile_cons, List.dropWhile_cons, hy]
    · have hy' : after y = false := by simpa using hy
      have h' : m.any after = true := by simpa [hy'] using h
      have := ih h'
      unfold insW at this
      simp only [List.cons_append, List.takeWhile_cons, List.dropWhile_cons, hy', Bool.not_false, if_true]
      rw [this]
theorem outW_succ {k : Nat} {y : γ} (h : l[k]? = some y) : outW after x l (k + 1) = (if (!(l.take k).any after && after y) = true then outW after x l k ++ [x] else outW after x l k) ++ [y] := by
  unfold outW
  rw [take_succ' h, List.any_append]
  cases h1 : (l.take k).any after with
  | true => simp [insW_any after x h1]
  | false =>
    cases h2 : after y with
    | true =>
      simp only [List.any_cons, List.any_nil, h2, Bool.or_false, Bool.or_true, if_true, Bool.not_false, Bool.and_self, Bool.false_eq_true, if_false]
      have hn : ∀ z ∈ l.take k, after z = false := by simpa using h1
      have e1 : (l.take k ++ [y]).takeWhile (fun y => !after y) = l.take k := by
        rw [List.takeWhile_append_of_pos (fun z hz => by simp [hn z hz])]; simp [h2]
      have e2 : (l.take k ++ [y]).dropWhile (fun y => !after y) = [y] := by
        rw [List.dropWhile_append_of_pos (fun z hz => by simp [hn z hz])]; simp [h2]
      rw [insW, e1, e2]; simp
    | false => simp [h2]
theorem any_succ {k : Nat} {y : γ} (h : l[k]? = some y) : (l.take (k + 1)).any after = ((l.take k).any after || after y) := by
  rw [take_succ' h, List.any_append]; simp
theorem outW_end : (if l.any after then outW after x l l.length else outW after x l l.length ++ [x]) = insW after x l := by
  unfold outW
  rw [List.take_length]
  cases h : l.any after with
  | true => simp
  | false => simp only [Bool.false_eq_true, if_false]; rw [insW_last after x l (by simpa using h)]
theorem outW_len (k : Nat) : (outW after x l k).length ≤ l.length + 1 := by
  unfold outW insW
  split
  · have := congrArg List.length (List.takeWhile_append_dropWhile (p := fun y => !after y) (l := l.take k))
    simp only [List.length_append, List.length_cons, List.length_take] at *
    omega
  · simp only [List.length_take]; omega
end
end Go.Gr
namespace Go.Gr
/-- the other edits of the reference -/
def keepV (d : DT) (x : VT) : Option VT := if (x.1 == d.2.1 && d.1 == 1) = true then none else some (x.1, (if (x.1 == d.2.1 && d.1 == 4) = true then d.2.2.2.1 else x.2.1), (if (x.1 == d.2.1 && d.1 == 5) = true then d.2.2.2.2 else x.2.2))
def keepE (d : DT) (at' : Int) (i : Nat) (x : ET) : Option ET :=
  if ((d.1 == 1 && (x.1.1 == d.2.1 || x.1.2 == d.2.1)) || (d.1 == 3 && (i : Int) == at')) = true then none else some (x.1, (if ((i : Int) == at' && d.1 == 6) = true then d.2.2.2.1 else x.2.1), (if ((i : Int) == at' && d.1 == 7) = true then d.2.2.2.2 else x.2.2))
def edgesK (d : DT) (at' : Int) : Nat → List ET → List ET
  | _, [] => []
  | i, x :: r => (keepE d at' i x).toList ++ edgesK d at' (i + 1) r
theorem edgesK_append (d : DT) (at' : Int) : ∀ (i : Nat) (l m : List ET), edgesK d at' i (l ++ m) = edgesK d at' i l ++ edgesK d at' (i + l.length) m
  | i, [], m => by simp [edgesK]
  | i, x :: r, m => by rw [List.cons_append, edgesK, edgesK_append d at' (i + 1) r m, edgesK, List.append_assoc, List.length_cons]; congr 3; omega
theorem edgesK_succ (d : DT) (at' : Int) {l : List ET} {k : Nat} {x : ET} (h : l[k]? = some x) : edgesK d at' 0 (l.take (k + 1)) = edgesK d at' 0 (l.take k) ++ (keepE d at' k x).toList := by
  rw [take_succ' h, edgesK_append]
  have : 0 + (l.take k).length = k := by have := (List.getElem?_eq_some_iff.1 h).1; simp; omega
  rw [this, edgesK, edgesK, List.append_nil]
theorem edgesK_len (d : DT) (at' : Int) : ∀ (i : Nat) (l : List ET), (edgesK d at' i l).length ≤ l.length
  | _, [] => Nat.le_refl _
  | i, x :: r => by
    have := edgesK_len d at' (i + 1) r
    have h2 : (keepE d at' i x).toList.length ≤ 1 := by cases keepE d at' i x <;> simp
    rw [edgesK, List.length_append, List.length_cons]; omega
theorem keepV_succ (d : DT) {l : List VT} {k : Nat} {x : VT} (h : l[k]? = some x) : (l.take (k + 1)).filterMap (keepV d) = (l.take k).filterMap (keepV d) ++ (keepV d x).toList := by
  rw [take_succ' h, List.filterMap_append]; cases h : keepV d x <;> simp [h]
end Go.Gr
namespace Go.Gr
theorem perm_sorted {γ : Type} {lt : γ → γ → Bool} : ∀ {xs l : List γ}, xs.Perm l → l.Pairwise (fun x y => lt x y = true) → xs.Pairwise (fun x y => lt y x = false) → xs = l
  | [], l, hp, _, _ => hp.symm.eq_nil.symm ▸ rfl
  | x :: r, [], hp, _, _ => absurd hp.eq_nil (by simp)
  | x :: r, y :: s, hp, hl, hx => by
    obtain ⟨l1, l2⟩ := List.pairwise_cons.1 hl
    obtain ⟨x1, x2⟩ := List.pairwise_cons.1 hx
    have hxy : x = y := by
      have hy : y ∈ x :: r := hp.mem_iff.2 (by simp)
      have hx' : x ∈ y :: s := hp.mem_iff.1 (by simp)
      rcases List.mem_cons.1 hy with h | h
      · exact h.symm
      · rcases List.mem_cons.1 hx' with h' | h'
        · exact h'
        · have h2 := l1 x h'
          have h3 := x1 y h
          rw [h2] at h3; cases h3
    subst hxy
    rw [perm_sorted ((List.perm_cons x).1 hp) l2 x2]
end Go.Gr

namespace Go.Mono
open Go Go.RowKit Go.Gr
def u8E : Enc Int := flat 1 false (fun n => [.int .u8 n]) (by decide) (fun _ => rfl) (fun _ => rfl) (fun x u hu => by simp at hu; subst hu; rfl)
instance : FlE u8E := ⟨fun h => h⟩
def thE : Enc (Int × Int) := prE u8E intE
def vtE : Enc VT := prE intE thE
def edE : Enc (Int × Int) := prE intE intE
def etE : Enc ET := prE edE thE
def dtE : Enc DT := prE intE (prE intE (prE intE thE))
def gtE : Enc GT := prE (slE vtE) (slE etE)
instance : FlE thE := inferInstanceAs (FlE (prE u8E intE))
instance : FlE vtE := inferInstanceAs (FlE (prE intE thE))
instance : FlE edE := inferInstanceAs (FlE (prE intE intE))
instance : FlE etE := inferInstanceAs (FlE (prE edE thE))
instance : FlE dtE := inferInstanceAs (FlE (prE intE (prE intE (prE intE thE))))
def vtV (x : VT) : Value := .agg #[.int .i64 x.1, .int .u8 x.2.1, .int .i64 x.2.2]
def etV (x : ET) : Value := .agg #[.int .i64 x.1.1, .int .i64 x.1.2, .int .u8 x.2.1, .int .i64 x.2.2]
def dtV (x : DT) : Value := .agg #[.int .i64 x.1, .int .i64 x.2.1, .int .i64 x.2.2.1, .int .u8 x.2.2.2.1, .int .i64 x.2.2.2.2]
section
variable {G : Nat → Prop} {v : Value} {w : World}
theorem Dv.u8 {n : Int} : (Dv u8E G n).p v w ↔ v = .int .u8 n := ⟨fun ⟨cs, h, hv⟩ => by cases h; exact hv, fun h => ⟨_, rfl, h⟩⟩
theorem Dv.vt {x : VT} : (Dv vtE G x).p v w ↔ v = vtV x :=
  ⟨fun ⟨cs, ⟨c, d, h, h1, c2, d2, h2, h3, h4⟩, hv⟩ => by cases h1; cases h3; cases h4; subst h2; subst h; exact hv, fun h => ⟨_, ⟨_, _, rfl, rfl, _, _, rfl, rfl, rfl⟩, h⟩⟩
theorem Dv.et {x : ET} : (Dv etE G x).p v w ↔ v = etV x :=
  ⟨fun ⟨cs, ⟨c, d, h, ⟨c1, d1, h1, h1a, h1b⟩, c2, d2, h2, h3, h4⟩, hv⟩ => by cases h1a; cases h1b; cases h3; cases h4; subst h1; subst h2; subst h; exact hv, fun h => ⟨_, ⟨_, _, rfl, ⟨_, _, rfl, rfl, rfl⟩, _, _, rfl, rfl, rfl⟩, h⟩⟩
theorem Dv.dt {x : DT} : (Dv dtE G x).p v w ↔ v = dtV x :=
  ⟨fun ⟨cs, ⟨c, d, h, h1, c2, d2, h2, h3, c3, d3, h4, h5, c4, d4, h6, h7, h8⟩, hv⟩ => by cases h1; cases h3; cases h5; cases h7; cases h8; subst h6; subst h4; subst h2; subst h; exact hv, fun h => ⟨_, ⟨_, _, rfl, rfl, _, _, rfl, rfl, _, _, rfl, rfl, _, _, rfl, rfl, rfl⟩, h⟩⟩
/-- a reference graph: two slices -/
theorem Dv.gt {g : GT} : (Dv gtE G g).p v w ↔ ∃ u1 u2, v = .agg #[u1, u2] ∧ (Dv (slE vtE) G g.1).p u1 w ∧ (Dv (slE etE) G g.2).p u2 w := by
  constructor
  · rintro ⟨cs, ⟨c, d, h, h1, h2⟩, hv⟩
    have l1 := (slE vtE).len h1
    have l2 := (slE etE).len h2
    match c, l1, d, l2 with
    | [u1], _, [u2], _ => exact ⟨u1, u2, by subst h; exact hv, ⟨_, h1, rfl⟩, ⟨_, h2, rfl⟩⟩
  · rintro ⟨u1, u2, rfl, h1, h2⟩
    exact ⟨[u1, u2], ⟨[u1], [u2], rfl, Dv.r1 rfl h1, Dv.r1 rfl h2⟩, rfl⟩
end
section
variable {P : Program} {w0 : World} {L : Env} {dst : Option Tmp} {ty : TypeId} {pos : String} {aft : Array Edge} {g : Option (Nat × Bool)} {t : TypeId} {G : Nat → Prop} {x : Operand}
theorem ldVt {n : VT} (ht : TI P t true 3) (hx : Is L w0 x (Dv (ptE vtE) G (some n))) : OpC P w0 L ⟨dst, .load t x, ty, pos, aft, g⟩ (E (vtV n)) := (ldD (e := vtE) ht hx).conv fun v w => Dv.vt.1
theorem ldEt {n : ET} (ht : TI P t true 4) (hx : Is L w0 x (Dv (ptE etE) G (some n))) : OpC P w0 L ⟨dst, .load t x, ty, pos, aft, g⟩ (E (etV n)) := (ldD (e := etE) ht hx).conv fun v w => Dv.et.1
theorem ldDt {n : DT} (ht : TI P t true 5) (hx : Is L w0 x (Dv (ptE dtE) G (some n))) : OpC P w0 L ⟨dst, .load t x, ty, pos, aft, g⟩ (E (dtV n)) := (ldD (e := dtE) ht hx).conv fun v w => Dv.dt.1
theorem isVt {n : VT} (h : opd L x = some (E (vtV n))) : Is L w0 x (Dv vtE G n) := isE h (Dv.vt.2 rfl)
theorem isEt {n : ET} (h : opd L x = some (E (etV n))) : Is L w0 x (Dv etE G n) := isE h (Dv.et.2 rfl)
/-- a struct of known values -/
theorem bldV {fs : Array (Nat × Operand)} (vs : List (Nat × Value)) {cs : Array Value} (hv : fs.toList.map (fun p => (p.1, opd L p.2)) = vs.map (fun p => (p.1, some (E p.2)))) (hb : P.built t vs = some cs) :
    OpC P w0 L ⟨dst, .build t fs, ty, pos, aft, g⟩ (E (.agg cs)) :=
  opc_pure fun ρ w _ h => by
    have key : ∀ (l : List (Nat × Operand)) (us : List (Nat × Value)), (∀ p ∈ l, p ∈ fs) → l.map (fun p => (p.1, opd L p.2)) = us.map (fun p => (p.1, some (E p.2))) → l.map (fun p => (p.1, ρ p.2)) = us := by
      intro l
      induction l with
      | nil => intro us _ hu; cases us with
        | nil => rfl
        | cons _ _ => simp at hu
      | cons p r ih =>
        intro us hm hu
        cases us with
        | nil => simp at hu
        | cons q us =>
          simp only [List.map_cons, List.cons.injEq, Prod.mk.injEq] at hu
          obtain ⟨⟨h1, h2⟩, h3⟩ := hu
          have hp : p.2 ∈ (Op.build t fs).operands := by simp only [Op.operands, List.mem_toArray, List.mem_map]; exact ⟨p, by simpa using hm p (by simp), rfl⟩
          have h4 : ρ p.2 = q.2 := h p.2 hp _ h2
          rw [List.map_cons, ih us (fun z hz => hm z (by simp [hz])) h3, h1, h4]
    have hk : (fs.map fun p => (p.1, ρ p.2)).toList = vs := by rw [Array.toList_map]; exact key fs.toList vs (fun p hp => by simpa using hp) hv
    exact ⟨_, by simp only [execOp, Sem.run_bind, run_build w t _ cs (by rw [hk]; exact hb), Result.andThen_ok, Sem.run_pure], rfl⟩
variable {i0 i1 i2 i3 i4 : Operand}
theorem bldVt (x : VT) (hb : P.built t [(0, .int .i64 x.1), (1, .int .u8 x.2.1), (2, .int .i64 x.2.2)] = some #[.int .i64 x.1, .int .u8 x.2.1, .int .i64 x.2.2]) (h0 : opd L i0 = some (E (.int .i64 x.1))) (h1 : opd L i1 = some (E (.int .u8 x.2.1))) (h2 : opd L i2 = some (E (.int .i64 x.2.2))) :
    OpC P w0 L ⟨dst, .build t #[(0, i0), (1, i1), (2, i2)], ty, pos, aft, g⟩ (E (vtV x)) := bldV _ (by simp only [List.map_cons, List.map_nil, h0, h1, h2]) hb
theorem bldEt (x : ET) (hb : P.built t [(0, .int .i64 x.1.1), (1, .int .i64 x.1.2), (2, .int .u8 x.2.1), (3, .int .i64 x.2.2)] = some #[.int .i64 x.1.1, .int .i64 x.1.2, .int .u8 x.2.1, .int .i64 x.2.2]) (h0 : opd L i0 = some (E (.int .i64 x.1.1))) (h1 : opd L i1 = some (E (.int .i64 x.1.2))) (h2 : opd L i2 = some (E (.int .u8 x.2.1))) (h3 : opd L i3 = some (E (.int .i64 x.2.2))) :
    OpC P w0 L ⟨dst, .build t #[(0, i0), (1, i1), (2, i2), (3, i3)], ty, pos, aft, g⟩ (E (etV x)) := bldV _ (by simp only [List.map_cons, List.map_nil, h0, h1, h2, h3]) hb
/-- an edit of a vertex: the second number is left out -/
theorem bldD4 (x : DT) (hx : x.2.2.1 = 0) (hb : P.built t [(0, .int .i64 x.1), (1, .int .i64 x.2.1), (3, .int .u8 x.2.2.2.1), (4, .int .i64 x.2.2.2.2)] = some #[.int .i64 x.1, .int .i64 x.2.1, .int .i64 0, .int .u8 x.2.2.2.1, .int .i64 x.2.2.2.2]) (h0 : opd L i0 = some (E (.int .i64 x.1))) (h1 : opd L i1 = some (E (.int .i64 x.2.1))) (h2 : opd L i2 = some (E (.int .u8 x.2.2.2.1))) (h3 : opd L i3 = some (E (.int .i64 x.2.2.2.2))) :
    OpC P w0 L ⟨dst, .build t #[(0, i0), (1, i1), (3, i2), (4, i3)], ty, pos, aft, g⟩ (E (dtV x)) := by
  have : dtV x = .agg #[.int .i64 x.1, .int .i64 x.2.1, .int .i64 0, .int .u8 x.2.2.2.1, .int .i64 x.2.2.2.2] := by rw [dtV, hx]
  rw [this]
  exact bldV _ (by simp only [List.map_cons, List.map_nil, h0, h1, h2, h3]) hb
theorem bldD5 (x : DT) (hb : P.built t [(0, .int .i64 x.1), (1, .int .i64 x.2.1), (2, .int .i64 x.2.2.1), (3, .int .u8 x.2.2.2.1), (4, .int .i64 x.2.2.2.2)] = some #[.int .i64 x.1, .int .i64 x.2.1, .int .i64 x.2.2.1, .int .u8 x.2.2.2.1, .int .i64 x.2.2.2.2]) (h0 : opd L i0 = some (E (.int .i64 x.1))) (h1 : opd L i1 = some (E (.int .i64 x.2.1))) (h2 : opd L i2 = some (E (.int .i64 x.2.2.1))) (h3 : opd L i3 = some (E (.int .u8 x.2.2.2.1))) (h4 : opd L i4 = some (E (.int .i64 x.2.2.2.2))) :
    OpC P w0 L ⟨dst, .build t #[(0, i0), (1, i1), (2, i2), (3, i3), (4, i4)], ty, pos, aft, g⟩ (E (dtV x)) := bldV _ (by simp only [List.map_cons, List.map_nil, h0, h1, h2, h3, h4]) hb
end
theorem OwR.neLt {α : Type} {e : Enc α} {ty : TypeId} {B : Nat} {G : Nat → Prop} {w : World} {xs : List α} {v : Value} (h : OwR e ty B G w xs v) {b : Nat} (hb : b < B) : v.ownBlock ≠ some b := fun hv => by
  have := (h.lt hv).1; omega
/-- a slot's value gets a name -/
theorem FrD.opn {n : Nat} {ds : List Deferred} {a : Act} {w : World} {L : Env} {A : VA} (h : FrD n ds a w L) (k : Nat) (hk : look L k = some A) : ∃ v, A.p v w ∧ FrD n ds a w ((k, E v) :: L) :=
  ⟨a.eval (.tmp k), h.val k A hk, ⟨h.size, h.defers, fun t B ht => by
    by_cases hkt : k = t
    · subst hkt; rw [look_cons_same] at ht; obtain rfl := Option.some.inj ht; rfl
    · rw [look_cons_ne _ _ hkt] at ht; exact h.val t B ht⟩⟩
theorem Dv.grN {α : Type} {e : Enc α} {G : Nat → Prop} {x : α} {v : Value} {w w' : World} {row : Option Nat} (h : (Dv e G x).p v w) (hg : w.grownBy w' row) (hG : ∀ b, row = some b → G b) : (Dv e G x).p v w' := by
  obtain ⟨cs, h1, h2⟩ := h
  exact ⟨cs, Enc.gro h1 hg hG, h2⟩
theorem OwR.low {α : Type} {e : Enc α} {ty : TypeId} {B B' : Nat} {G : Nat → Prop} {w : World} {xs : List α} {v : Value} (h : OwR e ty B G w xs v) (hB : B' ≤ B) (hG : ∀ b, G b → b < B') : OwR e ty B' G w xs v := by
  obtain ⟨⟨cs, ⟨h1, h2⟩, h3⟩, h4, h5⟩ := h
  refine ⟨⟨cs, ⟨h1, ?_⟩, h3⟩, hG, Nat.le_trans hB h5⟩
  rcases h2 with h2 | ⟨g, cap, cur, k1, k2, k3⟩
  · exact .inl h2
  · exact .inr ⟨g, cap, cur, k1, Nat.le_trans hB k2, k3⟩
end Go.Mono

namespace Go.Mono
open Go

end Go.Mono

namespace Go.Mono
open Go Go.Proofs Go.RowKit

theorem fm_nd {t : List (Int × BS)} {i : Nat} (h : i < t.length) : ofF (frM t) (i : Int) = nodeR (toT t) i := by
  rw [ofF, if_pos, Int.toNat_natCast, ndG]
  · show (match ((List.range t.length).map (nodeR (toT t)))[i]? with | some x => x | none => _) = _
    rw [List.getElem?_map, List.getElem?_range h]; rfl
  · have : (frM t).1.length = t.length := rfl
    simp [inT, this, h]
theorem new_vals {t : List (Int × BS)} (h : newR (toT t) = 0) : Vals (toT t) := by
  by_cases hc : chkR (toT t) = 0
  · exact (chkR_ok.1 hc).2
  · rw [newR, if_pos hc] at h
    exact absurd h hc
end Go.Mono

namespace Go.Mono
open Go Go.RowKit
theorem OwR.slN {α : Type} {e : Enc α} [FlE e] {ty : TypeId} {B : Nat} {G N : Nat → Prop} {w : World} {xs : List α} {v : Value} (h : OwR e ty B G w xs v) (hN : ∀ b, v.ownBlock = some b → ¬N b) : (Dv (slE e) N xs).p v w := by
  obtain ⟨cs, h1, h2⟩ := h.own
  refine Dv.sl.2 ?_
  rcases h1.2 with ⟨hv, hn⟩ | ⟨g, cap, cur, hv, hB, hg, hn, hm, hs, ht⟩
  · exact .inl ⟨hv, List.eq_nil_of_length_eq_zero hn⟩
  · exact .inr ⟨_, cap, cs, hv, hn, hN g (by rw [hv]; rfl), (Array.getElem?_eq_some_iff.1 hg).1, Cells.fl h2, h1.cells (by rw [hv]; rfl)⟩
end Go.Mono

namespace Go.Mono
open Go Go.RowKit
section tail
variable {P : Program} {L : Env} {ty : TypeId} {pos : String} {aft : Array Edge} {r : Option Nat} {ds : List Deferred}
variable {ops : Array Oper} {rest : List Oper} {Q : Exit → Act → World → Prop} {n : Nat} {a : Act} {w : World} {x y : Operand}
/-- a store of a struct into a part of a block -/
theorem tl_stP {t bt : TypeId} {b off s : Nat} {cs new : Array Value} (ht : TI P t true s) (hf : FrD n ds a w L) [hL : AvL b L] (hx : opd L x = some (E (.pointer (some ⟨b, off, none⟩)))) (hy : opd L y = some (E (.agg new))) (h1 : new.all (·.oneCell') = true)
    (hb : Blk w b cs bt) (hn : new.size = s) (ho : off + s ≤ cs.size) (k : ∀ w', w.grownBy w' (some b) → w'.heap.size = w.heap.size → Blk w' b (cs.toList.take off ++ new.toList ++ cs.toList.drop (off + s)).toArray bt → FrD n ds a w' L → wpListIn (FW r) 0 P ops Q rest a w') :
    wpListIn (FW r) 0 P ops Q (⟨none, .store t x y, ty, pos, aft, none⟩ :: rest) a w :=
  wpListIn_plain rfl fun K hK => by
    have hxv : a.eval x = .pointer (some ⟨b, off, none⟩) := hf.opd x _ hx
    have hyv : a.eval y = .agg new := hf.opd y _ hy
    have hrun := run_storeCells_at (P := P) b off bt new.toList 0 cs w hb (by simp; omega) (fun v hv => by rw [Array.all_eq_true_iff_forall_mem] at h1; exact h1 v (by simpa using hv))
    simp only [Nat.add_zero, Array.length_toList, hn] at hrun
    have hc : (Value.agg new).cells = new := rfl
    refine OpR.wp (R := fun _ w' => w' = w.setRow b (cs.toList.take off ++ new.toList ++ cs.toList.drop (off + s)).toArray) ?_ ?_
    · simp [OpR, execOp, Instr.storeAt, Instr.sureAddr, hxv, hyv, storeVar, hc, ht.size, hn, hrun]
    · rintro _ w' rfl
      exact hK _ _ (k _ (grownBy_setRow _ _ _) (by simp) (setRow_heap _ _ _ _ _ _ hb) (hf.gr (grownBy_setRow _ _ _)))
end tail
section
variable {P : Program} {w0 : World} {L : Env} {dst : Option Tmp} {ty : TypeId} {pos : String} {aft : Array Edge} {α : Type} {e : Enc α}
end
end Go.Mono

namespace Go.Mono
open Go Go.Proofs Go.RowKit

theorem fbagsO_spec {G : Nat → Prop} (Bz : Nat) (F : Fm) (v : Value) (W : World) (h : (Dv (ptE frE) G (some F)).p v W) (hl : F.1.length ≤ 4096) (hB : Bz ≤ W.heap.size) :
    Calls Tryz.prog 20 #[v] W (Post (OwA bagE 70 Bz Go.Mono.G0 F.1) W) := by
  refine enter (args := [v]) (As := [Dv (ptE frE) G (some F)]) Tryz.func20 rfl Tryz.ntmps20 (Nat.le_of_ble_eq_true rfl) ?_ (fun a hf => ?_) (Nat.le_of_ble_eq_true rfl)
  rotate_left
  dsimp only [params, Nat.reduceAdd] at hf
  rotate_right
  · exact arg1 h
  have e := Ext.rfl' W
  repeat refine seq ?_
  refine regn0 ?_
  refine tl_as hf rfl (by decide) fun a hf => ?_
  refine tl_nil ?_
  repeat refine seq ?_
  refine regn 2 hf (by decide +kernel) ?_
  refine st (mv rfl) ?_
  refine st (eqlP Tryz.underlying27 (isR rfl)) ?_
  refine en fun a w e' hf => ?_
  replace e := Ext.tr e e'
  clear e'
  refine tl_nil ?_
  repeat refine seq ?_
  refine ifc hf rfl (fun h => by cases h) (fun _ => ?_)
  refine wskip ?_
  try simp only [Exit.then, Exit.inBlock, ↓reduceIte]
  repeat refine seq ?_
  refine regn 5 hf (by decide +kernel) ?_
  refine st (mv rfl) ?_
  refine st (nilC (isR rfl)) ?_
  refine st (fldD Tryz.underlying92 rfl T23 (by decide) (Fld.fst Fld.refl) (isR rfl)) ?_
  refine st (ldD T23 (isR rfl)) ?_
  refine st (call1 (A := OwA bagE 70 Bz Go.Mono.G0 F.1) En53 rfl (fun v w he h => treeCloneO_spec Bz F.1 v w h hl (Nat.le_trans hB (Nat.le_trans e.size he.size)))) ?_
  refine en fun a w e' hf => ?_
  replace e := Ext.tr e e'
  clear e'
  refine tl_as hf rfl (by decide) fun a hf => ?_
  refine tl_nil ?_
  refine wret ?_
  try simp only [Exit.then, Exit.inBlock]
  refine ret1 rfl hf rfl ?_
  intro v hv
  exact ⟨_, rfl, e, hv⟩
end Go.Mono

namespace Go.Mono
open Go Go.Proofs Go.RowKit

/-- a row of bags, of which f tells the first n -/
structure BR (n : Nat) (f : Nat → Int × BS) (cap : Nat) (cur : Array Value) : Prop where
  size : cur.size = cap * 17
  le : n ≤ cap
  el : ∀ i, i < n → ∀ j, j < 17 → cur[i * 17 + j]? = (bagC (f i))[j]?
theorem BR.up {n cap : Nat} {f : Nat → Int × BS} {cur : Array Value} (h : BR n f cap cur) {i : Nat} (hi : i < n) : cur[0 + ((i : Nat) : Int).toNat * 17 + 0]? = some (I (f i).1) := by
  rw [Int.toNat_natCast, Nat.zero_add, h.el i hi 0 (by omega)]; rfl
theorem BR.bag {n cap : Nat} {f : Nat → Int × BS} {cur : Array Value} (h : BR n f cap cur) {i : Nat} (hi : i < n) : Value.agg (cur.extract (0 + ((i : Nat) : Int).toNat * 17) (0 + ((i : Nat) : Int).toNat * 17 + 17)) = bagV (f i) := by
  refine congrArg Value.agg (Array.ext_getElem? fun j => ?_)
  have hs := h.size
  have hl := h.le
  rw [Int.toNat_natCast, Nat.zero_add, Array.getElem?_extract]
  split
  · rename_i hj
    exact h.el i hi j (by omega)
  · rename_i hj
    rw [Array.getElem?_eq_none]
    rw [bagC_size]
    omega
theorem BR.setUp {n cap : Nat} {f : Nat → Int × BS} {cur : Array Value} (h : BR n f cap cur) {i : Nat} (hi : i < n) (p : Int) : BR n (fun j => if j = i then (p, (f i).2) else f j) cap (cur.setIfInBounds (0 + ((i : Nat) : Int).toNat * 17 + 0) (I p)) := by
  refine ⟨by simp [h.size], h.le, fun k hk j hj => ?_⟩
  rw [Int.toNat_natCast, Nat.zero_add, Nat.add_zero, Array.getElem?_setIfInBounds]
  have hs := h.size
  have hl := h.le
  by_cases hki : k = i
  · subst hki
    simp only [if_true]
    by_cases h0 : j = 0
    · subst h0
      rw [if_pos (by omega), if_pos (by omega)]; rfl
    · rw [if_neg (by omega), h.el k hk j hj]
      obtain ⟨j, rfl⟩ := Nat.exists_eq_succ_of_ne_zero h0
      simp [bagC]
  · simp only [if_neg hki]
    rw [if_neg (by omega), h.el k hk j hj]
theorem BR.setBag {n cap : Nat} {f : Nat → Int × BS} {cur : Array Value} (h : BR n f cap cur) {i : Nat} (hi : i < n) (x : Int × BS) : BR n (fun j => if j = i then x else f j) cap (cur.toList.take (0 + ((i : Nat) : Int).toNat * 17) ++ (bagC x).toList ++ cur.toList.drop (0 + ((i : Nat) : Int).toNat * 17 + 17)).toArray := by
  have hs := h.size
  have hl := h.le
  have hb : (bagC x).toList.length = 17 := by rw [Array.length_toList, bagC_size]
  have hc : cur.toList.length = cap * 17 := by rw [Array.length_toList, hs]
  rw [Int.toNat_natCast, Nat.zero_add]
  have ht : (cur.toList.take (i * 17)).length = i * 17 := by rw [List.length_take, hc]; omega
  refine ⟨?_, h.le, fun k hk j hj => ?_⟩
  · rw [List.size_toArray, List.length_append, List.length_append, ht, hb, List.length_drop, hc]; omega
  rw [List.getElem?_toArray]
  by_cases hki : k = i
  · subst hki
    simp only [if_true]
    rw [List.append_assoc, List.getElem?_append_right (by omega), ht, List.getElem?_append_left (by omega), show k * 17 + j - k * 17 = j from by omega, Array.getElem?_toList]
  · simp only [if_neg hki]
    rw [← h.el k hk j hj]
    by_cases hlt : k < i
    · rw [List.append_assoc, List.getElem?_append_left (by omega), List.getElem?_take, if_pos (by omega), Array.getElem?_toList]
    · rw [List.getElem?_append_right (by rw [List.length_append, ht, hb]; omega), List.length_append, ht, hb, List.getElem?_drop, Array.getElem?_toList]
      congr 1; omega
theorem bag_cellsD {G : Nat → Prop} {w : World} : ∀ {t : List (Int × BS)} {cs : List Value}, Cells bagE G w t cs → ∀ i, i < t.length → ∀ j, j < 17 → cs[i * 17 + j]? = (bagC (bg t i))[j]?
  | [], cs, h, i, hi, j, hj => by cases hi
  | x :: t, cs, ⟨c, d, h, h1, h2⟩, i, hi, j, hj => by
    obtain ⟨c1, c2, rfl, e1, e2⟩ := h1
    have e1 : c1 = [I x.1] := e1
    have e2 : c2 = (setC x.2).toList := e2
    subst e1; subst e2; subst h
    have hl : ([I x.1] ++ (setC x.2).toList).length = 17 := by simp [setC_size]
    cases i with
    | zero =>
      rw [List.getElem?_append_left (by omega), Nat.zero_mul, Nat.zero_add]
      show _ = (bagC x)[j]?
      simp [bagC]
    | succ i =>
      rw [List.getElem?_append_right (by omega), hl, show (i + 1) * 17 + j - 17 = i * 17 + j from by omega, bag_cellsD h2 i (by simpa using hi) j hj]
      simp [bg]
theorem br_cells {G : Nat → Prop} {n cap : Nat} {f : Nat → Int × BS} {cur : Array Value} {w : World} (h : BR n f cap cur) : ∀ m s, s + m = n → Cells bagE G w ((List.range' s m).map f) ((cur.toList.take (n * 17)).drop (s * 17))
  | 0, s, hs => by
    have : (cur.toList.take (n * 17)).drop (s * 17) = [] := List.drop_eq_nil_of_le (by rw [List.length_take]; omega)
    rw [this]; rfl
  | m + 1, s, hs => by
    rw [List.range'_succ, List.map_cons]
    have hz := h.size
    have hl := h.le
    have hc : cur.toList.length = cap * 17 := by rw [Array.length_toList, hz]
    have hd : (cur.toList.take (n * 17)).drop (s * 17) = ([I (f s).1] ++ (setC (f s).2).toList) ++ (cur.toList.take (n * 17)).drop ((s + 1) * 17) := by
      have hb : ([I (f s).1] ++ (setC (f s).2).toList).length = 17 := by simp [setC_size]
      refine List.ext_getElem? fun j => ?_
      by_cases hj : j < 17
      · rw [List.getElem?_append_left (by omega), List.getElem?_drop, List.getElem?_take, if_pos (by omega), Array.getElem?_toList, h.el s (by omega) j hj]
        simp [bagC]
      · rw [List.getElem?_append_right (by omega), hb, List.getElem?_drop, List.getElem?_drop]
        congr 1; omega
    rw [hd]
    exact ⟨_, _, rfl, ⟨_, _, rfl, rfl, rfl⟩, br_cells h m (s + 1) (by omega)⟩
theorem BR.dv {n cap : Nat} {G : Nat → Prop} {f : Nat → Int × BS} {cur : Array Value} {w : World} {g : Nat} (h : BR n f cap cur) (hb : Blk w g cur 70) (hG : ¬G g) : (Dv treeE G ((List.range n).map f)).p (.slice (some ⟨g, 0, none⟩) n cap) w := by
  have hc := br_cells (G := G) (w := w) h n 0 (Nat.zero_add n)
  rw [Nat.zero_mul, List.drop_zero, ← List.range_eq_range'] at hc
  have hz := h.size
  have hl := h.le
  refine Dv.sl.2 (.inr ⟨⟨g, 0, none⟩, cap, cur.toList.take (n * 17), ?_, by simp; exact hl, hG, hb.lt, hc, fun i u hu => ?_⟩)
  · simp
  · rw [Addr.add_lit, Nat.zero_add, hb.cell i]
    rw [List.getElem?_take] at hu
    split at hu
    · simpa using hu
    · cases hu
/-- the tree without bag b, whose index the last bag takes -/
def detB (t : List (Int × BS)) (b : Nat) (i : Nat) : Int × BS := if i = b then bg t (t.length - 1) else bg t i
def detF (t : List (Int × BS)) (b : Nat) (i : Nat) : Int × BS := if (detB t b i).1 = ((t.length - 1 : Nat) : Int) then ((b : Int), (detB t b i).2) else detB t b i
def detM (t : List (Int × BS)) (b : Nat) : List (Int × BS) := (List.range (t.length - 1)).map (detF t b)
theorem BR.cong {n cap : Nat} {f f' : Nat → Int × BS} {cur : Array Value} (h : BR n f cap cur) (hf : ∀ i, i < n → f i = f' i) : BR n f' cap cur := ⟨h.size, h.le, fun i hi j hj => by rw [h.el i hi j hj, hf i hi]⟩

theorem fremove_ok {G : Nat → Prop} (F : Fm) (b : Nat) (v : Value) (W : World) (hT : Tab W) (h : (Dv (ptE frE) G (some F)).p v W) (hl : F.1.length ≤ 1000) (hn : F.2.1.length = F.1.length) (hb : b < F.1.length) (hp : 0 ≤ (bg F.1 b).1) (hk : (ofF F (b : Int)).1 = []) :
    Calls Tryz.prog 16 #[v, I b] W (Post (Tup [NewA (detM F.1 b) Go.Mono.G0, E (I (newR (toT (detM F.1 b))))]) W) := by
  have hin : inT F.1 (b : Int) = true := by simp [inT, hb]
  refine enter (args := [v, I b]) (As := [Dv (ptE frE) Go.Mono.G0 (some F), E (I b)]) Tryz.func16 rfl Tryz.ntmps16 (Nat.le_of_ble_eq_true rfl) ?_ (fun a hf => ?_) (Nat.le_of_ble_eq_true rfl)
  rotate_left
  dsimp only [params, Nat.reduceAdd] at hf
  rotate_right
  · exact arg2 (Dv.weak h fun b _ hb => hb.elim) rfl
  have e := Ext.rfl' W
  have hT0 := hT.lt
  repeat refine seq ?_
  refine regn0 ?_
  refine tl_as hf rfl (by decide) fun a hf => ?_
  refine tl_as hf rfl (by decide) fun a hf => ?_
  refine tl_nil ?_
  replace hf := hf.keep [0, 1]
  dsimp only [keep, List.filterMap, look, Nat.beq, Option.map] at hf
  repeat refine seq ?_
  refine blk ?_
  repeat refine seq ?_
  refine regn 2 hf (by decide +kernel) ?_
  refine st (mv rfl) ?_
  refine st (eqlP Tryz.underlying27 (isR rfl)) ?_
  refine en fun a w e' hf => ?_
  replace hT := hT.ext e'
  replace e := Ext.tr e e'
  clear e'
  refine tl_as hf rfl (by decide) fun a hf => ?_
  refine tl_nil ?_
  repeat refine seq ?_
  refine ifc hf rfl (fun h => by cases h) (fun _ => ?_)
  repeat refine seq ?_
  refine regn 4 hf (by decide +kernel) ?_
  refine st (mv rfl) ?_
  refine st (mv rfl) ?_
  refine st (call2 En46 rfl rfl (fun v u w he h h' => by cases h'; exact fis_spec F _ _ w h)) ?_
  refine st ((notp rfl).eq (congrArg Value.bool (show (!inT F.1 (b : Int)) = false from by rw [hin]; rfl))) ?_
  refine en fun a w e' hf => ?_
  replace hT := hT.ext e'
  replace e := Ext.tr e e'
  clear e'
  refine tl_as hf rfl (by decide) fun a hf => ?_
  refine tl_nil ?_
  repeat refine seq ?_
  refine ifc hf rfl (fun h => by cases h) (fun _ => ?_)
  repeat refine seq ?_
  refine regn 11 hf (by decide +kernel) ?_
  refine st (mv rfl) ?_
  refine st (mv rfl) ?_
  refine st ((call2 En47 rfl rfl (fun v u w he h h' => by cases h'; exact fparent_spec F _ _ w h)).eq (show I _ = I (bg F.1 b).1 from by rw [hin, Int.toNat_natCast]; rfl)) ?_
  refine st ((lss rfl rfl).eq (congrArg Value.bool (decide_eq_false (by omega)))) ?_
  refine st (mv rfl) ?_
  refine sy rfl rfl (mv rfl) ?_
  refine sy rfl rfl (mv rfl) ?_
  refine sy rfl rfl ((call2 En48 rfl rfl (fun v u w he h h' => by cases h'; exact postG (G := Go.Mono.G0) (fchildren_spec F _ _ w h hn (by rw [hk]; simp)) (fun b hb => hb.elim))).dv (hk)) ?_
  refine sy rfl rfl (lenD Tryz.underlying59 (isR rfl)) ?_
  refine sy rfl rfl ((gtr rfl rfl).eq (congrArg Value.bool (show decide ((0 : Int) < ((List.length ([] : List Int) : Nat) : Int)) = false from rfl))) ?_
  refine st (pkF rfl rfl) ?_
  refine en fun a w e' hf => ?_
  replace hT := hT.ext e'
  replace e := Ext.tr e e'
  clear e'
  refine tl_as hf rfl (by decide) fun a hf => ?_
  refine tl_nil ?_
  repeat refine seq ?_
  refine ifc hf rfl (fun h => by cases h) (fun _ => ?_)
  refine wskip ?_
  try simp only [Exit.then, Exit.inBlock, ↓reduceIte]
  replace hf := hf.keep [0, 1]
  dsimp only [keep, List.filterMap, look, Nat.beq, Option.map] at hf
  repeat refine seq ?_
  refine regn 2 hf (by decide +kernel) ?_
  refine st (mv rfl) ?_
  refine st (call1 (A := OwA bagE 70 W.heap.size Go.Mono.G0 F.1) En20 rfl (fun v w he h => fbagsO_spec W.heap.size F v w h (by omega) (Nat.le_trans e.size he.size))) ?_
  refine en fun a w e' hf => ?_
  replace hT := hT.ext e'
  replace e := Ext.tr e e'
  clear e'
  refine tl_as hf rfl (by decide) fun a hf => ?_
  refine tl_nil ?_
  obtain ⟨u, ho, hf⟩ := hf.fix 6 rfl
  have ho : OwR bagE 70 W.heap.size Go.Mono.G0 w F.1 u := ho
  replace hf := hf.keep [1, 6]
  dsimp only [keep, List.filterMap, look, Nat.beq, Option.map] at hf
  obtain ⟨cs, ⟨_, hrow⟩, hcs⟩ := ho.own
  rcases hrow with ⟨_, hn0⟩ | ⟨g, cap, cur, rfl, hB, hg0, hcap, hm, hs, ht⟩
  · omega
  simp only [show (bagE).k = 17 from rfl] at hs ht
  have hbc := bag_cellsD hcs
  have B6 : Blk w g cur 70 := hg0
  have R0 : BR F.1.length (bg F.1) cap cur := ⟨hs, hcap, fun i hi j hj => by
    rw [← hbc i hi j hj, ← ht, List.getElem?_take, if_pos (by omega), Array.getElem?_toList]⟩
  clear ht hs hcs ho hbc hg0
  obtain ⟨n, hnn⟩ : ∃ n, n = F.1.length := ⟨_, rfl⟩
  rw [← hnn] at hf R0
  repeat refine seq ?_
  refine regn 3 hf (by decide +kernel) ?_
  refine st (mv rfl) ?_
  refine st (lenE Tryz.underlying23 rfl) ?_
  refine st ((sub rfl rfl (by omega)).eq (congrArg (Value.int .i64) (show ((n : Nat) : Int) - 1 = ((n - 1 : Nat) : Int) from by omega))) ?_
  refine en fun a w e' hf => ?_
  replace hT := hT.ext e'
  replace e := Ext.tr e e'
  replace B6 := B6.ext e'
  clear e'
  refine tl_as hf rfl (by decide) fun a hf => ?_
  refine tl_nil ?_
  replace hf := hf.keep [1, 6, 7]
  dsimp only [keep, List.filterMap, look, Nat.beq, Option.map] at hf
  have hgT : 0 < g := Nat.lt_of_lt_of_le hT0 hB
  repeat refine seq ?_
  refine regn 7 hf (by decide +kernel) ?_
  refine st (mv rfl) ?_
  refine st (mv rfl) ?_
  refine st (mv rfl) ?_
  refine st (mv rfl) ?_
  refine st (idxS Tryz.underlying23 S70 rfl rfl (by omega)) ?_
  refine st ((ldP T70 rfl B6 (by have := R0.size; have := R0.le; omega)).eq (R0.bag (by omega))) ?_
  refine st (idxS Tryz.underlying23 S70 rfl rfl (by omega)) ?_
  refine en fun a w e' hf => ?_
  replace hT := hT.ext e'
  replace e := Ext.tr e e'
  replace B6 := B6.ext e'
  clear e'
  refine tl_stP T70 hf rfl rfl (bagC_one _) B6 (bagC_size _) (by have := R0.size; have := R0.le; omega) fun w hg hsz B6 hf => ?_
  replace R0 := (R0.setBag (i := b) (by omega) (bg F.1 (n - 1))).cong (f' := detB F.1 b) fun i hi => by rw [detB, hnn]
  replace hT := hT.gr hg hgT
  replace e := e.gr hg (by omega)
  clear hg
  refine tl_nil ?_
  replace hf := hf.keep [1, 6, 7]
  dsimp only [keep, List.filterMap, look, Nat.beq, Option.map] at hf
  repeat refine seq ?_
  refine regn 3 hf (by decide +kernel) ?_
  refine st (mv rfl) ?_
  refine st (lenE Tryz.underlying23 rfl) ?_
  refine st (mv rfl) ?_
  refine en fun a w e' hf => ?_
  replace hT := hT.ext e'
  replace e := Ext.tr e e'
  replace B6 := B6.ext e'
  clear e'
  refine tl_nil ?_
  have Hr0 := R0.cong (f' := fun i => if i < 0 then detF F.1 b i else detB F.1 b i) fun i hi => by simp
  have hlast : ((F.1.length - 1 : Nat) : Int) = ((n - 1 : Nat) : Int) := by rw [hnn]
  generalize hcur : (_ : List Value).toArray = cur' at B6 R0 Hr0
  clear R0 hcur
  replace hf := hf.keep [1, 6, 7, 42, 43]
  dsimp only [keep, List.filterMap, look, Nat.beq, Option.map] at hf
  repeat refine seq ?_
  refine blk (loopN (fun r0 a w => ∃ (k : Nat) (cur : Array Value), r0 = n - k ∧ k ≤ n ∧ Fr 65 a w [(1, E (I (b : Nat))), (6, E (.slice (some ⟨g, 0, none⟩) n cap)), (7, E (I (n - 1 : Nat))), (42, E (I (n : Nat))), (43, E (I k))] ∧ Ext W w ∧ Blk w g cur 70 ∧ Tab w ∧ BR n (fun i => if i < k then detF F.1 b i else detB F.1 b i) cap cur) n ⟨0, cur', rfl, by omega, hf, e, B6, hT, Hr0⟩ ?_)
  clear hf e; try clear B6; try clear hT; try clear R0
  rintro r0 a w ⟨k, cur, rfl, hk, hf, e, B6, hT, R0⟩
  repeat refine seq ?_
  refine regn 1 hf (by decide +kernel) ?_
  refine st (lss rfl rfl) ?_
  refine en fun a w e' hf => ?_
  replace hT := hT.ext e'
  replace e := Ext.tr e e'
  replace B6 := B6.ext e'
  clear e'
  refine tl_nil ?_
  repeat refine seq ?_
  refine ifc hf rfl (fun hc => wskip ?_) (fun hc => wexit ?_)
  rotate_left
  rotate_left
  · have hlt : k < n := by have := of_decide_eq_true hc; (try dsimp only at this); omega
    clear hc
    replace hf := hf.keep [1, 6, 7, 42, 43]
    dsimp only [keep, List.filterMap, look, Nat.beq, Option.map] at hf
    repeat refine seq ?_
    refine blk ?_
    repeat refine seq ?_
    refine regn 1 hf (by decide +kernel) ?_
    refine st (mv rfl) ?_
    refine en fun a w e' hf => ?_
    replace hT := hT.ext e'
    replace e := Ext.tr e e'
    replace B6 := B6.ext e'
    clear e'
    refine tl_as hf rfl (by decide) fun a hf => ?_
    refine tl_nil ?_
    have hup := R0.up hlt
    rw [if_neg (Nat.lt_irrefl k)] at hup
    repeat refine seq ?_
    refine regn 7 hf (by decide +kernel) ?_
    refine st (mv rfl) ?_
    refine st (mv rfl) ?_
    refine st (idxS Tryz.underlying23 S70 rfl rfl (by omega)) ?_
    refine st (fldA Tryz.underlying70 rfl T3 (by decide) rfl) ?_
    refine st (ld1 T3 rfl B6 hup) ?_
    refine st (mv rfl) ?_
    refine st (eql rfl rfl) ?_
    refine en fun a w e' hf => ?_
    replace hT := hT.ext e'
    replace e := Ext.tr e e'
    replace B6 := B6.ext e'
    clear e'
    refine tl_nil ?_
    have hcg : ∀ x, (if (detB F.1 b k).1 = ((n - 1 : Nat) : Int) then (((b : Nat) : Int), (detB F.1 b k).2) else detB F.1 b k) = x → x = detF F.1 b k := fun x h => by rw [← h, detF, hlast]
    repeat refine seq ?_
    refine ifc hf rfl (fun hb => ?_) (fun hb => ?_)
    · have hb' : (detB F.1 b k).1 = ((n - 1 : Nat) : Int) := by simpa using hb
      rw [if_pos hb'] at hcg
      repeat refine seq ?_
      refine regn 5 hf (by decide +kernel) ?_
      refine st (mv rfl) ?_
      refine st (mv rfl) ?_
      refine st (mv rfl) ?_
      refine st (idxS Tryz.underlying23 S70 rfl rfl (by omega)) ?_
      refine st (fldA Tryz.underlying70 rfl T3 (by decide) rfl) ?_
      refine en fun a w e' hf => ?_
      replace hT := hT.ext e'
      replace e := Ext.tr e e'
      replace B6 := B6.ext e'
      clear e'
      refine tl_st1 T3 hf rfl rfl rfl B6 (by have := R0.size; have := R0.le; show 0 + ((k : Nat) : Int).toNat * 17 + 0 < _; omega) fun w hg hsz B6 hf => ?_
      replace hT := hT.gr hg hgT
      replace e := e.gr hg (by omega)
      clear hg
      refine tl_nil ?_
      replace R0 := (R0.setUp hlt (b : Int)).cong (f' := fun i => if i < k + 1 then detF F.1 b i else detB F.1 b i) fun i hi => by
        by_cases h1 : i = k
        · subst h1
          rw [if_pos rfl, if_pos (Nat.lt_succ_self _), ← hcg _ rfl, if_neg (Nat.lt_irrefl _)]
        · rw [if_neg h1]
          by_cases h2 : i < k
          · rw [if_pos h2, if_pos (by omega)]
          · rw [if_neg h2, if_neg (by omega)]
      obtain ⟨cur2, B6, R0⟩ : ∃ c, Blk w g c 70 ∧ BR n (fun i => if i < k + 1 then detF F.1 b i else detB F.1 b i) cap c := ⟨_, B6, R0⟩
      try simp only [Exit.then, Exit.inBlock, ↓reduceIte]
      repeat refine seq ?_
      refine regn 1 hf (by decide +kernel) ?_
      refine st ((add rfl rfl (by omega)).eq (congrArg (Value.int .i64) (show (k : Int) + 1 = ((k + 1 : Nat) : Int) from rfl))) ?_
      refine en fun a w e' hf => ?_
      replace hT := hT.ext e'
      replace e := Ext.tr e e'
      replace B6 := B6.ext e'
      clear e'
      refine tl_op hf (by decide) (mv rfl) fun a w e' hf => ?_
      replace hT := hT.ext e'
      replace e := Ext.tr e e'
      replace B6 := B6.ext e'
      clear e'
      refine tl_nil ?_
      replace hf := hf.keep [1, 6, 7, 42, 43]
      dsimp only [keep, List.filterMap, look, Nat.beq, Option.map] at hf
      refine ⟨_, ?_, k + 1, cur2, rfl, by omega, hf, e, ?_⟩
      · omega
      exact ⟨B6, hT, R0⟩
    · have hb' : ¬ (detB F.1 b k).1 = ((n - 1 : Nat) : Int) := by simpa using hb
      rw [if_neg hb'] at hcg
      refine wskip ?_
      try simp only [Exit.then, Exit.inBlock, ↓reduceIte]
      replace R0 := R0.cong (f' := fun i => if i < k + 1 then detF F.1 b i else detB F.1 b i) fun i hi => by
        by_cases h1 : i = k
        · subst h1
          rw [if_neg (Nat.lt_irrefl _), if_pos (Nat.lt_succ_self _), ← hcg _ rfl]
        · by_cases h2 : i < k
          · rw [if_pos h2, if_pos (by omega)]
          · rw [if_neg h2, if_neg (by omega)]
      try simp only [Exit.then, Exit.inBlock, ↓reduceIte]
      repeat refine seq ?_
      refine regn 1 hf (by decide +kernel) ?_
      refine st ((add rfl rfl (by omega)).eq (congrArg (Value.int .i64) (show (k : Int) + 1 = ((k + 1 : Nat) : Int) from rfl))) ?_
      refine en fun a w e' hf => ?_
      replace hT := hT.ext e'
      replace e := Ext.tr e e'
      replace B6 := B6.ext e'
      clear e'
      refine tl_op hf (by decide) (mv rfl) fun a w e' hf => ?_
      replace hT := hT.ext e'
      replace e := Ext.tr e e'
      replace B6 := B6.ext e'
      clear e'
      refine tl_nil ?_
      replace hf := hf.keep [1, 6, 7, 42, 43]
      dsimp only [keep, List.filterMap, look, Nat.beq, Option.map] at hf
      refine ⟨_, ?_, k + 1, cur, rfl, by omega, hf, e, ?_⟩
      · omega
      exact ⟨B6, hT, R0⟩
  · obtain rfl : k = n := by have := of_decide_eq_false hc; (try dsimp only at this); omega
    clear hc
    simp only [Exit.then, Exit.inBlock, ↓reduceIte]
    replace hf := hf.keep [6, 7]
    dsimp only [keep, List.filterMap, look, Nat.beq, Option.map] at hf
    have HV : (Dv treeE Go.Mono.G0 ((List.range k).map (detF F.1 b))).p (.slice (some ⟨g, 0, none⟩) k cap) w := (R0.cong (f' := detF F.1 b) fun i hi => by rw [if_pos hi]).dv B6 fun h => h.elim
    have htk : ((List.range k).map (detF F.1 b)).take (k - 1) = detM F.1 b := by
      rw [← List.map_take, List.take_range, Nat.min_eq_left (by omega), detM, hnn]
    repeat refine seq ?_
    refine regn 6 hf (by decide +kernel) ?_
    refine st (mv rfl) ?_
    refine st (mv rfl) ?_
    refine st ((slcD Tryz.underlying23 S70 (isE rfl HV) rfl (by simp)).dv (htk)) ?_
    refine st (call1 En28 rfl (fun v w he h => fnew0_spec (detM F.1 b) v w (hT.ext he) h (by simp [detM]; omega))) ?_
    refine st (ext_ rfl rfl) ?_
    refine st (ext_ rfl rfl) ?_
    refine en fun a w e' hf => ?_
    replace hT := hT.ext e'
    replace e := Ext.tr e e'
    replace B6 := B6.ext e'
    clear e'
    refine tl_as hf rfl (by decide) fun a hf => ?_
    refine tl_as hf rfl (by decide) fun a hf => ?_
    refine tl_nil ?_
    refine wret (ret2 rfl hf rfl rfl ?_)
    rintro u _ hu rfl
    exact ⟨_, rfl, e, Tup.two hu rfl⟩
end Go.Mono

namespace Go.Mono
open Go Go.Proofs Go.RowKit

theorem new_hs {t : List (Int × BS)} (h : newR (toT t) = 0) : ∀ i, i < (toT t).length → (hs (toT t) i).length ≤ 4 := by
  by_cases hc : chkR (toT t) = 0
  · rw [newR, if_neg (Classical.not_not.2 hc)] at h
    by_cases h4 : ∀ i, i < (toT t).length → (hs (toT t) i).length ≤ 4
    · exact h4
    · rw [if_neg h4] at h; cases h
  · rw [newR, if_pos hc] at h
    exact absurd h hc

end Go.Mono

namespace Go.Mono
open Go Go.Proofs Go.RowKit

end Go.Mono
