/-
  Walks and plain facts, in this order: Below, Mono8, Depths, Depths2, Bits2, Check, R26c, Tree, Plain1, Map, Mono9, MonoA, MonoY, MonoZ, MonoW, MonoV, MonoU, MonoT, MonoQ, MonoS, Words, Min.
  No condition.
-/
import Derived.Test.YtdkfcgjjjlifaaaGreatDoorVA
import Derived.Laws.Cover3
import Derived.Maps.OwnIn
import Derived.Maps.Views
import Derived.Maps.OwnSet
import Derived.Laws.Pointers
import Derived.Lib.SliceRun
import Derived.Carry
set_option linter.unusedVariables false
set_option linter.unusedSimpArgs false
namespace Go.Mono
open Go Go.Proofs Go.RowKit

/-- the bags below bag p, of the first k -/
def kidT (t : List (Int × BS)) (k : Nat) (p : Nat) : List Int := selN (fun i => decide ((bg t i).1 = (p : Int))) k
def belowTo (t : List (Int × BS)) (k : Nat) : List (List Int) := (List.range t.length).map (kidT t k)
def belowT (t : List (Int × BS)) : List (List Int) := belowTo t t.length
theorem belowTo_len (t : List (Int × BS)) (k : Nat) : (belowTo t k).length = t.length := by simp [belowTo]
theorem belowTo_get {t : List (Int × BS)} {k p : Nat} (h : p < t.length) : (belowTo t k)[p]? = some (kidT t k p) := by simp [belowTo, h]
theorem belowTo_zero (t : List (Int × BS)) : belowTo t 0 = List.replicate t.length [] := by
  refine List.ext_getElem (by simp [belowTo]) fun i h1 h2 => ?_
  simp [belowTo, kidT, selN]
theorem belowTo_none {t : List (Int × BS)} {k : Nat} (h : (bg t k).1 = -1) : belowTo t (k + 1) = belowTo t k := by
  unfold belowTo
  refine List.map_congr_left fun p _ => ?_
  rw [kidT, selN_succ, if_neg (by rw [h]; simp)]
  rfl
theorem belowTo_succ {t : List (Int × BS)} {k p : Nat} (h : (bg t k).1 = (p : Int)) (hp : p < t.length) : belowTo t (k + 1) = (belowTo t k).set p (kidT t k p ++ [(k : Int)]) := by
  refine List.ext_getElem (by simp [belowTo]) fun i h1 h2 => ?_
  rw [List.getElem_set]
  by_cases hi : p = i
  · subst hi
    simp [belowTo, kidT, selN_succ, h]
  · have : ¬ (p : Int) = (i : Int) := by omega
    simp [belowTo, kidT, selN_succ, h, this, hi]

/-- each bag's number above is -1 or a bag's -/
def Rng (t : List (Int × BS)) : Prop := ∀ i, i < t.length → -1 ≤ (bg t i).1 ∧ (bg t i).1 < t.length

theorem below_spec {G : Nat → Prop} (t : List (Int × BS)) (v : Value) (W : World) (h : (Dv treeE G t).p v W) (hG : ∀ b, G b → b < W.heap.size) (hl : t.length ≤ 4096) (hr : Rng t) :
    Calls Tryz.prog 122 #[v] W (Post (Dv (slE (slE intE)) G (belowT t)) W) := by
  refine enter (args := [v]) (As := [Dv treeE (GB W G) t]) Tryz.func122 rfl Tryz.ntmps122 (Nat.le_of_ble_eq_true rfl) ?_ (fun a hf => ?_) (Nat.le_of_ble_eq_true rfl)
  rotate_left
  dsimp only [params, Nat.reduceAdd] at hf
  rotate_right
  · exact arg1 (Dv.toB h)
  have e := Ext.rfl' W
  repeat refine seq ?_
  refine regn0 ?_
  refine tl_as hf rfl (by decide) fun a hf => ?_
  refine tl_nil ?_
  repeat refine seq ?_
  refine regn 2 hf (by decide +kernel) ?_
  refine st (mv rfl) ?_
  refine st (lenD Tryz.underlying23 (isR rfl)) ?_
  refine en fun a w e' hf => ?_
  replace e := Ext.tr e e'
  clear e'
  refine tl_mk Tryz.underlying127 I59 rfl hf (by decide) rfl (by omega) (by decide) fun a b8 w e' hb8 hs8 B8 hf => ?_
  have hle8 := Nat.le_trans e.size (Nat.le_of_eq hb8.symm)
  replace e := Ext.tr e e'
  clear e'
  refine tl_as hf rfl (by decide) fun a hf => ?_
  refine tl_nil ?_
  have HR : Rows 3 W.heap.size G w b8 (belowTo t 0) (List.replicate t.length (.slice none 0 0)) := by rw [belowTo_zero]; exact Rows.nil e.size hG
  have hlen : (List.replicate t.length (Value.slice none 0 0)).length = t.length := by simp
  repeat refine seq ?_
  refine regn 3 hf (by decide +kernel) ?_
  refine st (mv rfl) ?_
  refine st (lenD Tryz.underlying23 (isR rfl)) ?_
  refine st (mv rfl) ?_
  refine en fun a w e' hf => ?_
  replace e := Ext.tr e e'
  replace B8 := B8.ext e'
  replace HR := HR.ext e'
  clear e'
  refine tl_nil ?_
  replace hf := hf.keep [3, 9, 10, 11]
  dsimp only [keep, List.filterMap, look, Nat.beq, Option.map] at hf
  repeat refine seq ?_
  refine blk (loopN (fun r0 a w => ∃ (k : Nat) (vs : List Value), r0 = t.length - k ∧ k ≤ t.length ∧ Fr 33 a w [(3, E (.slice (some ⟨b8, 0, none⟩) t.length t.length)), (9, Dv treeE (GB W G) t), (10, E (I (t.length : Nat))), (11, E (I k))] ∧ Ext W w ∧ Blk w b8 vs.toArray 59 ∧ vs.length = t.length ∧ Rows 3 W.heap.size G w b8 (belowTo t k) vs) t.length ⟨0, _, rfl, by omega, hf, e, B8, hlen, HR⟩ ?_)
  clear hf e; try clear B8; try clear hlen; try clear HR
  rintro r0 a w ⟨k, vs, rfl, hk, hf, e, B8, hlen, HR⟩
  repeat refine seq ?_
  refine regn 1 hf (by decide +kernel) ?_
  refine st (lss rfl rfl) ?_
  refine en fun a w e' hf => ?_
  replace e := Ext.tr e e'
  replace B8 := B8.ext e'
  replace HR := HR.ext e'
  clear e'
  refine tl_nil ?_
  repeat refine seq ?_
  refine ifc hf rfl (fun hc => wskip ?_) (fun hc => wexit ?_)
  rotate_left
  rotate_left
  · have hlt : k < t.length := by have := of_decide_eq_true hc; (try dsimp only at this); omega
    clear hc
    replace hf := hf.keep [3, 9, 10, 11]
    dsimp only [keep, List.filterMap, look, Nat.beq, Option.map] at hf
    repeat refine seq ?_
    refine blk ?_
    have hx := bg_get hlt
    have hrk := hr k hlt
    repeat refine seq ?_
    refine regn0 ?_
    refine tl_op hf (by decide) (mv rfl) fun a w e' hf => ?_
    replace e := Ext.tr e e'
    replace B8 := B8.ext e'
    replace HR := HR.ext e'
    clear e'
    refine tl_op hf (by decide) (idxD Tryz.underlying23 S70 (isR rfl) rfl (by omega) (hx)) fun a w e' hf => ?_
    replace e := Ext.tr e e'
    replace B8 := B8.ext e'
    replace HR := HR.ext e'
    clear e'
    refine tl_op hf (by decide) (ldBag T70 (isR rfl)) fun a w e' hf => ?_
    replace e := Ext.tr e e'
    replace B8 := B8.ext e'
    replace HR := HR.ext e'
    clear e'
    refine tl_alloc I70 hf (by decide) fun a b5 w e' hb5 hs5 B5 hf => ?_
    have hle5 := Nat.le_trans e.size (Nat.le_of_eq hb5.symm)
    have ne5_HR := HR.ne_new hb5
    have lt5_B8 := B8.lt
    replace e := Ext.tr e e'
    replace B8 := B8.ext e'
    replace HR := HR.ext e'
    clear e'
    refine tl_as hf rfl (by decide) fun a hf => ?_
    haveI hinr : ∀ G0, InR (GB W G0) (some b5) := fun G0 => InR.gb (by omega)
    refine tl_stW T70 hf rfl rfl (bagC_one _) B5 rfl (bagC_size _) fun w hg hsz B5 hf => ?_
    replace e := e.gr hg (by omega)
    replace B8 := B8.gr hg (by omega)
    replace HR := HR.gr hg (by assumption)
    clear hg
    refine tl_nil ?_
    repeat refine seq ?_
    refine regn 3 hf (by decide +kernel) ?_
    refine st (fldA Tryz.underlying70 rfl T3 (by decide) rfl) ?_
    refine st (ld1 T3 rfl B5 (bagC_0 _)) ?_
    refine st (neq rfl rfl) ?_
    refine en fun a w e' hf => ?_
    replace e := Ext.tr e e'
    replace B8 := B8.ext e'
    replace HR := HR.ext e'
    replace B5 := B5.ext e'
    clear e'
    refine tl_nil ?_
    repeat refine seq ?_
    refine ifc hf rfl (fun hb => ?_) (fun hb => ?_)
    · have hne : (bg t k).1 ≠ -1 := by simpa using hb
      obtain ⟨p, hp⟩ : ∃ p : Nat, (bg t k).1 = (p : Int) := ⟨(bg t k).1.toNat, by omega⟩
      have hpl : p < t.length := by omega
      have hvp : vs[p]? = some (vs[p]'(by omega)) := by simp
      obtain ⟨u, hu⟩ : ∃ u, u = vs[p]'(by omega) := ⟨_, rfl⟩
      rw [← hu] at hvp
      obtain ⟨Ho, hob⟩ := HR.at' p u _ hvp (belowTo_get hpl)
      have n5 : u.ownBlock ≠ some b5 := ne5_HR p u hvp
      have hsel := selN_len (fun i => decide ((bg t i).1 = (p : Int))) k
      haveI hin : ∀ G0, InR (GB W G0) u.ownBlock := OwR.inGB Ho (Nat.le_refl _)
      replace hf := hf.keep [3, 4, 5, 9, 10, 11]
      dsimp only [keep, List.filterMap, look, Nat.beq, Option.map] at hf
      have h8 := B8.lt
      repeat refine seq ?_
      refine regX 12 10 u.ownBlock (by decide) Mix.mix hf (by decide +kernel) ?_
      refine xm (fun w1 h1 => mv rfl) ?_
      refine xm (fun w1 h1 => fldA Tryz.underlying70 rfl T3 (by decide) rfl) ?_
      refine xm (fun w1 h1 => (ld1 T3 rfl (B5.gro h1 n5) (bagC_0 _)).eq (congrArg (Value.int .i64) hp)) ?_
      refine xm (fun w1 h1 => mv rfl) ?_
      refine xm (fun w1 h1 => fldA Tryz.underlying70 rfl T3 (by decide) rfl) ?_
      refine xm (fun w1 h1 => (ld1 T3 rfl (B5.gro h1 n5) (bagC_0 _)).eq (congrArg (Value.int .i64) hp)) ?_
      refine xm (fun w1 h1 => idxS Tryz.underlying127 S59 rfl rfl (by omega)) ?_
      refine xm (fun w1 h1 => ld1 T59 rfl (B8.gro h1 hob) (get_arr hvp)) ?_
      refine xm (fun w1 h1 => mv rfl) ?_
      refine xm (fun w1 h1 => bsl1 Tryz.underlying59 I3 rfl (by decide) rfl (fun b hb => Nat.lt_of_lt_of_le (Ho.avs b hb) h1.size) (isI rfl)) ?_
      refine xx (xapp Tryz.underlying59 I3 rfl rfl rfl Ho rfl (by simp only [List.length_singleton, kidT]; omega) (by simp only [List.length_singleton, kidT, maxLen]; omega)) ?_
      refine xn (fun w1 h1 => idxS Tryz.underlying127 S59 rfl rfl (by omega)) ?_
      refine xe fun a w hg hf => ?_
      obtain ⟨v', ⟨Hn, hat⟩, hf⟩ := hf.fix 29 rfl
      replace e := e.gro hg (Ho.row (Nat.le_refl _))
      replace HR := HR.upd hvp hg Hn hat h8
      replace B8 := B8.gro hg hob
      have hone := Hn.one
      have hbo := HR.ne_bo
      clear Ho Hn hg hat B5
      rw [← belowTo_succ hp hpl] at HR
      replace hf := hf.keep [3, 9, 10, 11, 29, 30]
      dsimp only [keep, List.filterMap, look, Nat.beq, Option.map] at hf
      haveI hinr : ∀ G0, InR (GB W G0) (some b8) := fun G0 => InR.gb (by omega)
      refine tl_st1 T59 hf rfl rfl hone B8 (by simp; omega) fun w hg hsz B8 hf => ?_
      replace e := e.gr hg (by omega)
      replace HR := HR.gr hg hbo
      rw [set_arr] at B8
      refine tl_nil ?_
      try simp only [Exit.then, Exit.inBlock, ↓reduceIte]
      repeat refine seq ?_
      refine regn 1 hf (by decide +kernel) ?_
      refine st ((add rfl rfl (by omega)).eq (congrArg (Value.int .i64) (show (k : Int) + 1 = ((k + 1 : Nat) : Int) from rfl))) ?_
      refine en fun a w e' hf => ?_
      replace e := Ext.tr e e'
      replace B8 := B8.ext e'
      replace HR := HR.ext e'
      clear e'
      refine tl_op hf (by decide) (mv rfl) fun a w e' hf => ?_
      replace e := Ext.tr e e'
      replace B8 := B8.ext e'
      replace HR := HR.ext e'
      clear e'
      refine tl_nil ?_
      replace hf := hf.keep [3, 9, 10, 11]
      dsimp only [keep, List.filterMap, look, Nat.beq, Option.map] at hf
      refine ⟨_, ?_, k + 1, vs.set p v', rfl, by omega, hf, e, ?_⟩
      · omega
      exact ⟨B8, by simpa using hlen, HR⟩
    · have hne : (bg t k).1 = -1 := by simpa using hb
      refine wskip ?_
      try simp only [Exit.then, Exit.inBlock, ↓reduceIte]
      try simp only [Exit.then, Exit.inBlock, ↓reduceIte]
      repeat refine seq ?_
      refine regn 1 hf (by decide +kernel) ?_
      refine st ((add rfl rfl (by omega)).eq (congrArg (Value.int .i64) (show (k : Int) + 1 = ((k + 1 : Nat) : Int) from rfl))) ?_
      refine en fun a w e' hf => ?_
      replace e := Ext.tr e e'
      replace B5 := B5.ext e'
      replace B8 := B8.ext e'
      replace HR := HR.ext e'
      clear e'
      refine tl_op hf (by decide) (mv rfl) fun a w e' hf => ?_
      replace e := Ext.tr e e'
      replace B5 := B5.ext e'
      replace B8 := B8.ext e'
      replace HR := HR.ext e'
      clear e'
      refine tl_nil ?_
      replace hf := hf.keep [3, 9, 10, 11]
      dsimp only [keep, List.filterMap, look, Nat.beq, Option.map] at hf
      refine ⟨_, ?_, k + 1, vs, rfl, by omega, hf, e, ?_⟩
      · omega
      exact ⟨B8, hlen, by rw [belowTo_none hne]; exact HR⟩
  · obtain rfl : k = t.length := by have := of_decide_eq_false hc; (try dsimp only at this); omega
    clear hc
    simp only [Exit.then, Exit.inBlock, ↓reduceIte]
    repeat refine seq ?_
    refine regn 1 hf (by decide +kernel) ?_
    refine st (mv rfl) ?_
    refine en fun a w e' hf => ?_
    replace e := Ext.tr e e'
    replace B8 := B8.ext e'
    replace HR := HR.ext e'
    clear e'
    refine tl_as hf rfl (by decide) fun a hf => ?_
    refine tl_nil ?_
    have hd := HR.dv B8 (fun hg => by have := hG _ hg; omega) (Nat.le_of_eq (belowTo_len t _))
    rw [belowTo_len] at hd
    refine wret ?_
    try simp only [Exit.then, Exit.inBlock]
    refine ret1 rfl hf rfl ?_
    rintro _ rfl
    exact ⟨_, rfl, e, hd⟩
end Go.Mono

namespace Go.Mono
open Go Go.RowKit

/-- the world has grown; of the old blocks only those of S may have changed -/
structure Chg (S : Nat → Prop) (w w' : World) : Prop where
  os : w'.os = w.os
  tape : w'.tape = w.tape
  output : w'.output = w.output
  size : w.heap.size ≤ w'.heap.size
  block : ∀ k, k < w.heap.size → ¬S k → w'.heap[k]? = w.heap[k]?
section
variable {S S' : Nat → Prop} {w w' w'' W : World}
theorem Chg.rfl' (S : Nat → Prop) (w : World) : Chg S w w := ⟨rfl, rfl, rfl, Nat.le_refl _, fun _ _ _ => rfl⟩
theorem Chg.tr (h : Chg S w w') (k : Chg S w' w'') : Chg S w w'' :=
  ⟨k.os.trans h.os, k.tape.trans h.tape, k.output.trans h.output, Nat.le_trans h.size k.size, fun b hb hS => (k.block b (Nat.lt_of_lt_of_le hb h.size) hS).trans (h.block b hb hS)⟩
theorem Chg.ext (h : Chg S w w') (k : Ext w' w'') : Chg S w w'' :=
  ⟨k.os.trans h.os, k.tape.trans h.tape, k.output.trans h.output, Nat.le_trans h.size k.size, fun b hb hS => (k.block b (Nat.lt_of_lt_of_le hb h.size)).trans (h.block b hb hS)⟩
theorem Ext.chg (h : Ext w w') (S : Nat → Prop) : Chg S w w' := ⟨h.os, h.tape, h.output, h.size, fun b hb _ => h.block b hb⟩
theorem Chg.gr (h : Chg S w w') {b : Nat} (k : w'.grownBy w'' (some b)) (hb : S b ∨ w.heap.size ≤ b) : Chg S w w'' :=
  ⟨k.os.trans h.os, k.tape.trans h.tape, k.output.trans h.output, Nat.le_trans h.size k.size, fun c hc hS => (k.block c (Nat.lt_of_lt_of_le hc h.size) (fun he => by
    cases he
    rcases hb with hb | hb
    · exact hS hb
    · omega)).trans (h.block c hc hS)⟩
theorem Chg.to (h : Chg S w w') (hS : ∀ b, b < w.heap.size → S b → S' b) : Chg S' w w' := ⟨h.os, h.tape, h.output, h.size, fun b hb hn => h.block b hb (fun hs => hn (hS b hb hs))⟩
/-- what changes lies behind the base -/
theorem Ext.ch (e : Ext W w) (h : Chg S w w') (hS : ∀ b, S b → W.heap.size ≤ b) : Ext W w' :=
  ⟨h.os.trans e.os, h.tape.trans e.tape, h.output.trans e.output, Nat.le_trans e.size h.size, fun b hb => (h.block b (Nat.lt_of_lt_of_le hb e.size) (fun hs => by have := hS b hs; omega)).trans (e.block b hb)⟩
theorem Blk.ch {b : Nat} {cs : Array Value} {t : TypeId} (h : Blk w b cs t) (k : Chg S w w') (hS : ¬S b) : Blk w' b cs t := (k.block b h.lt hS).trans h
class InS (G S : Nat → Prop) : Prop where
  in' : ∀ b, S b → G b
theorem Dv.ch {α : Type} {e : Enc α} {G : Nat → Prop} {x : α} {v : Value} (h : (Dv e G x).p v w) (k : Chg S w w') (hG : ∀ b, S b → G b) : (Dv e G x).p v w' := by
  obtain ⟨cs, h1, h2⟩ := h
  exact ⟨cs, e.pres h1 (fun b hb hn => k.block b hb (fun hs => hn (hG b hs))) k.size, h2⟩
class AvS (S : Nat → Prop) (A : VA) : Prop where
  av : ∀ v w w', Chg S w w' → A.p v w → A.p v w'
class AvSL (S : Nat → Prop) (L : Env) : Prop where
  av : ∀ t A, look L t = some A → ∀ v w w', Chg S w w' → A.p v w → A.p v w'
instance (S : Nat → Prop) (v : Value) : AvS S (E v) := ⟨fun _ _ _ _ h => h⟩
instance (S : Nat → Prop) : AvS S Any := ⟨fun _ _ _ _ h => h⟩
instance (S : Nat → Prop) {α : Type} (e : Enc α) (G : Nat → Prop) (x : α) [h : InS G S] : AvS S (Dv e G x) := ⟨fun v w w' k h1 => Dv.ch h1 k h.in'⟩
instance (S : Nat → Prop) : AvSL S [] := ⟨fun t A h => by simp [look] at h⟩
instance (S : Nat → Prop) (k : Nat) (A : VA) (L : Env) [h : AvS S A] [hl : AvSL S L] : AvSL S ((k, A) :: L) := ⟨fun t B ht => by
  by_cases hkt : k = t
  · subst hkt; rw [look_cons_same] at ht; cases ht; exact h.av
  · rw [look_cons_ne _ _ hkt] at ht; exact hl.av t B ht⟩
theorem FrD.ch {n : Nat} {ds : List Deferred} {a : Act} {L : Env} [h : AvSL S L] (hf : FrD n ds a w L) (k : Chg S w w') : FrD n ds a w' L :=
  ⟨hf.size, hf.defers, fun t A ht => h.av t A ht _ _ _ k (hf.val t A ht)⟩
end

section tail
variable {P : Program} {L : Env} {ty : TypeId} {pos : String} {aft : Array Edge} {r : Option Nat} {ds : List Deferred}
variable {ops : Array Oper} {rest : List Oper} {Q : Exit → Act → World → Prop} {n : Nat} {a : Act} {w : World} {x y : Operand}
/-- a call that changes blocks of S; F: what is known behind it -/
theorem tl_callV {S : Nat → Prop} {F : World → Prop} {fo : Operand} {id : FuncId} {caps : Array Value} {xs : Array Operand} {tys : Array TypeId} {A : VA} {d : Nat} (hf : FrD n ds a w L) [hL : AvSL S L] (hd : d < n) (he : Proofs.Enters P id) (hfo : opd L fo = some (E (.func (.func id) #[] caps)))
    (h : Calls P id (xs.map a.eval ++ caps) w (fun e w' => ∃ v, e = .returned v ∧ Chg S w w' ∧ A.p v w' ∧ F w'))
    (k : ∀ a' w', Chg S w w' → F w' → FrD n ds a' w' ((d, A) :: L) → wpListIn (FW r) 0 P ops Q rest a' w') :
    wpListIn (FW r) 0 P ops Q (⟨some d, .call ⟨.value fo, xs, tys⟩, ty, pos, aft, none⟩ :: rest) a w :=
  wpListIn_plain rfl fun K hK => by
    have hfv : a.eval fo = .func (.func id) #[] caps := hf.opd fo _ hfo
    have hrun : (execOp a.eval ⟨some d, .call ⟨.value fo, xs, tys⟩, ty, pos, aft, none⟩).run P w = .ok (.enter id (xs.map a.eval ++ caps)) w := by
      simp [execOp, resolve, hfv, Deferred.ofValue, invoke, he (xs.map a.eval ++ caps) w]
    refine OpR.wp (R := fun v w' => Chg S w w' ∧ A.p v w' ∧ F w') ?_ ?_
    · simp only [OpR, hrun]
      exact h
    · rintro v w' ⟨h1, h2, h3⟩
      exact hK _ _ (k _ _ h1 h3 ((hf.ch h1).put (d := some d) (Ext.rfl' _) (fun k hk => by cases hk; exact hd) h2))
end tail
/-- numbers in cells -/
def intsC (l : List Int) : Array Value := (l.map (Value.int .i64)).toArray
theorem intsC_set (l : List Int) (p : Nat) (x : Int) : (intsC l).setIfInBounds p (.int .i64 x) = intsC (l.set p x) := by
  apply Array.toList_inj.1
  simp [intsC, List.map_set]
theorem intsC_size (l : List Int) : (intsC l).size = l.length := by simp [intsC]
end Go.Mono
namespace Go.Mono
open Go Go.RowKit
theorem Dv.gr {α : Type} {e : Enc α} {G : Nat → Prop} {x : α} {v : Value} {w w' : World} {b : Nat} (h : (Dv e G x).p v w) (hg : w.grownBy w' (some b)) (hb : G b) : (Dv e G x).p v w' := by
  obtain ⟨cs, h1, h2⟩ := h
  exact ⟨cs, Enc.gro h1 hg (fun c hc => by cases hc; exact hb), h2⟩
theorem Dv.ex {α : Type} {e : Enc α} {G : Nat → Prop} {x : α} {v : Value} {w w' : World} (h : (Dv e G x).p v w) (k : Ext w w') : (Dv e G x).p v w' := (Dv e G x).st _ _ _ k h
section
variable {P : Program} {w0 : World} {L : Env} {dst : Option Tmp} {ty : TypeId} {pos : String} {aft : Array Edge} {g : Option (Nat × Bool)}
theorem makeF1 {fn : Fn} {x1 : Operand} {v1 : Value} (h1 : opd L x1 = some (E v1)) : OpC P w0 L ⟨dst, .makeFunc fn #[] #[x1], ty, pos, aft, g⟩ (E (.func fn #[] #[v1])) :=
  opc_pure fun ρ w _ hv => ⟨_, by
    have a1 := opE hv (x := x1) (by simp [Op.operands]) h1
    simp [execOp, Instr.makeFunc, a1], rfl⟩
theorem makeF2 {fn : Fn} {x1 x2 : Operand} {v1 v2 : Value} (h1 : opd L x1 = some (E v1)) (h2 : opd L x2 = some (E v2)) : OpC P w0 L ⟨dst, .makeFunc fn #[] #[x1, x2], ty, pos, aft, g⟩ (E (.func fn #[] #[v1, v2])) :=
  opc_pure fun ρ w _ hv => ⟨_, by
    have a1 := opE hv (x := x1) (by simp [Op.operands]) h1
    have a2 := opE hv (x := x2) (by simp [Op.operands]) h2
    simp [execOp, Instr.makeFunc, a1, a2], rfl⟩
theorem makeF4 {fn : Fn} {x1 x2 x3 x4 : Operand} {v1 v2 v3 v4 : Value} (h1 : opd L x1 = some (E v1)) (h2 : opd L x2 = some (E v2)) (h3 : opd L x3 = some (E v3)) (h4 : opd L x4 = some (E v4)) : OpC P w0 L ⟨dst, .makeFunc fn #[] #[x1, x2, x3, x4], ty, pos, aft, g⟩ (E (.func fn #[] #[v1, v2, v3, v4])) :=
  opc_pure fun ρ w _ hv => ⟨_, by
    have a1 := opE hv (x := x1) (by simp [Op.operands]) h1
    have a2 := opE hv (x := x2) (by simp [Op.operands]) h2
    have a3 := opE hv (x := x3) (by simp [Op.operands]) h3
    have a4 := opE hv (x := x4) (by simp [Op.operands]) h4
    simp [execOp, Instr.makeFunc, a1, a2, a3, a4], rfl⟩
end
end Go.Mono
namespace Go.Mono
theorem Dv.slOne {α : Type} {e : Enc α} {G : Nat → Prop} {xs : List α} {v : Go.Value} {w : Go.World} (h : (Dv (slE e) G xs).p v w) : v.oneCell' = true := by
  rcases Dv.sl.1 h with ⟨rfl, _⟩ | ⟨ad, cap, cs, rfl, _⟩ <;> rfl
end Go.Mono
namespace Go.Mono
open Go Go.RowKit
/-- data of their own cells alone -/
class FlE {α : Type} (e : Enc α) : Prop where
  fl : ∀ {G G' w w' x cs}, e.r G w x cs → e.r G' w' x cs
instance {α : Type} (k : Nat) (agg : Bool) (f : α → List Value) (p1 p2 p3 p4) : FlE (flat k agg f p1 p2 p3 p4) := ⟨fun h => h⟩
instance : FlE intE := ⟨fun h => h⟩
instance : FlE boolE := ⟨fun h => h⟩
instance : FlE setE := ⟨fun h => h⟩
instance {α β : Type} (e : Enc α) (f : Enc β) [he : FlE e] [hf : FlE f] : FlE (prE e f) := ⟨fun ⟨c, d, h, h1, h2⟩ => ⟨c, d, h, he.fl h1, hf.fl h2⟩⟩
theorem Cells.fl {α : Type} {e : Enc α} [he : FlE e] {G G' : Nat → Prop} {w w' : World} : ∀ {xs : List α} {cs : List Value}, Cells e G w xs cs → Cells e G' w' xs cs
  | [], cs, h => h
  | x :: xs, cs, ⟨c, d, h, h1, h2⟩ => ⟨c, d, h, he.fl h1, Cells.fl h2⟩
theorem OwR.grE {α : Type} {e : Enc α} [he : FlE e] {ty : TypeId} {B : Nat} {G : Nat → Prop} {w w' : World} {xs : List α} {v : Value} {b : Nat} (h : OwR e ty B G w xs v) (hg : w.grownBy w' (some b)) (hne : v.ownBlock ≠ some b) : OwR e ty B G w' xs v := by
  obtain ⟨cs, h1, h2⟩ := h.own
  exact ⟨⟨cs, h1.kept hg (.inr hne), Cells.fl h2⟩, h.av, Nat.le_trans h.base hg.size⟩
section
variable {P : Program} {w0 : World} {L : Env} {dst : Option Tmp} {ty : TypeId} {pos : String} {aft : Array Edge} {g : Option (Nat × Bool)}
end
end Go.Mono

namespace Go.Mono
open Go Go.Proofs Go.RowKit

/-- the bags below p, as numbers -/
def kN (t : List (Int × BS)) (p : Nat) : List Nat := (List.range t.length).filter fun i => decide ((bg t i).1 = (p : Int))
theorem kidT_kN (t : List (Int × BS)) (p : Nat) : kidT t t.length p = (kN t p).map fun i : Nat => (i : Int) := rfl
/-- what the closure does: depths, how many -/
def dnF (ks : Nat → List Nat) : Nat → Nat → Int → List Int × Int → List Int × Int
  | 0, b, deep, s => (s.1.set b deep, s.2 + 1)
  | f + 1, b, deep, s => (ks b).foldl (fun s k => dnF ks f k (deep + 1) s) (s.1.set b deep, s.2 + 1)
/-- no chain down from b is longer -/
def hgt (ks : Nat → List Nat) : Nat → Nat → Prop
  | 0, b => ks b = []
  | f + 1, b => ∀ k ∈ ks b, hgt ks f k
theorem dnF_len (ks : Nat → List Nat) : ∀ f b deep s, (dnF ks f b deep s).1.length = s.1.length
  | 0, b, deep, s => by simp [dnF]
  | f + 1, b, deep, s => by
    rw [dnF]
    have : ∀ (l : List Nat) s, (l.foldl (fun s k => dnF ks f k (deep + 1) s) s).1.length = s.1.length := by
      intro l
      induction l with
      | nil => intro s; rfl
      | cons k l ih => intro s; rw [List.foldl_cons, ih, dnF_len ks f]
    rw [this]; simp
theorem dnF_le (ks : Nat → List Nat) : ∀ f b deep s, s.2 + 1 ≤ (dnF ks f b deep s).2
  | 0, b, deep, s => by simp [dnF]
  | f + 1, b, deep, s => by
    rw [dnF]
    have : ∀ (l : List Nat) s, s.2 ≤ (l.foldl (fun s k => dnF ks f k (deep + 1) s) s).2 := by
      intro l
      induction l with
      | nil => intro s; exact Int.le_refl _
      | cons k l ih =>
        intro s
        rw [List.foldl_cons]
        have := ih (dnF ks f k (deep + 1) s)
        have := dnF_le ks f k (deep + 1) s
        omega
    exact this _ _
theorem foldl_dn_le (ks : Nat → List Nat) (f : Nat) (deep : Int) : ∀ (l : List Nat) s, s.2 ≤ (l.foldl (fun s k => dnF ks f k deep s) s).2
  | [], s => Int.le_refl _
  | k :: l, s => by
    rw [List.foldl_cons]
    have := foldl_dn_le ks f deep l (dnF ks f k deep s)
    have := dnF_le ks f k deep s
    omega
theorem foldl_dn_len (ks : Nat → List Nat) (f : Nat) (deep : Int) : ∀ (l : List Nat) s, (l.foldl (fun s k => dnF ks f k deep s) s).1.length = s.1.length
  | [], s => rfl
  | k :: l, s => by rw [List.foldl_cons, foldl_dn_len ks f deep l, dnF_len]

theorem dnF_eq {ks : Nat → List Nat} {f b : Nat} {deep : Int} {s : List Int × Int} (h : hgt ks f b) : dnF ks f b deep s = (ks b).foldl (fun s k => dnF ks (f - 1) k (deep + 1) s) (s.1.set b deep, s.2 + 1) := by
  cases f with
  | zero => rw [show ks b = [] from h]; rfl
  | succ f => rfl
theorem hgt_kid {ks : Nat → List Nat} {f b k : Nat} (h : hgt ks f b) (hk : k ∈ ks b) : 0 < f ∧ hgt ks (f - 1) k := by
  cases f with
  | zero => rw [show ks b = [] from h] at hk; cases hk
  | succ f => exact ⟨Nat.succ_pos _, h k hk⟩
theorem mem_kN {t : List (Int × BS)} {b k : Nat} : k ∈ kN t b ↔ k < t.length ∧ (bg t k).1 = (b : Int) := by simp [kN]

def SD (ba bf : Nat) (b : Nat) : Prop := b = ba ∨ b = bf
/-- what stays as it is while the closure runs -/
structure DC (t : List (Int × BS)) (G : Nat → Prop) (ba bf bo bk bd : Nat) (kv : Value) (w : World) : Prop where
  o : Blk w bo #[.slice (some ⟨ba, 0, none⟩) t.length t.length] 59
  k : Blk w bk #[kv] 127
  d : Blk w bd #[.func (.func 123) #[] #[.pointer (some ⟨bo, 0, none⟩), .pointer (some ⟨bf, 0, none⟩), .pointer (some ⟨bk, 0, none⟩), .pointer (some ⟨bd, 0, none⟩)]] 172
  kd : (Dv (slE (slE intE)) G (belowT t)).p kv w
  g : ∀ b, SD ba bf b → G b
  ne : ba ≠ bf ∧ ¬SD ba bf bo ∧ ¬SD ba bf bk ∧ ¬SD ba bf bd
theorem DC.ch {t : List (Int × BS)} {G : Nat → Prop} {ba bf bo bk bd : Nat} {kv : Value} {w w' : World} (h : DC t G ba bf bo bk bd kv w) (c : Chg (SD ba bf) w w') : DC t G ba bf bo bk bd kv w' :=
  ⟨h.o.ch c h.ne.2.1, h.k.ch c h.ne.2.2.1, h.d.ch c h.ne.2.2.2, Dv.ch h.kd c h.g, h.g, h.ne⟩

theorem down_spec (t : List (Int × BS)) (G : Nat → Prop) (ba bf bo bk bd : Nat) (kv : Value) (hl : t.length ≤ 4096) : ∀ (f b : Nat) (deep : Int) (s : List Int × Int) (W : World), DC t G ba bf bo bk bd kv W → Blk W ba (intsC s.1) 3 → Blk W bf #[I s.2] 3 →
    hgt (kN t) f b → b < t.length → s.1.length = t.length → 0 ≤ s.2 → (dnF (kN t) f b deep s).2 ≤ 100000 → 0 ≤ deep → deep + f ≤ 100000 →
    Calls Tryz.prog 123 #[I (b : Nat), I deep, .pointer (some ⟨bo, 0, none⟩), .pointer (some ⟨bf, 0, none⟩), .pointer (some ⟨bk, 0, none⟩), .pointer (some ⟨bd, 0, none⟩)] W
      (fun e w' => ∃ v, e = .returned v ∧ Chg (SD ba bf) W w' ∧ Any.p v w' ∧ Blk w' ba (intsC (dnF (kN t) f b deep s).1) 3 ∧ Blk w' bf #[I (dnF (kN t) f b deep s).2] 3) := by
  intro f
  induction f using Nat.strongRecOn with
  | _ f ih =>
    intro b deep s W D BA BF hh hb hs h0 hle hd0 hdl
    have heq := dnF_eq (deep := deep) (s := s) hh
    refine enter (args := [I (b : Nat), I deep, .pointer (some ⟨bo, 0, none⟩), .pointer (some ⟨bf, 0, none⟩), .pointer (some ⟨bk, 0, none⟩), .pointer (some ⟨bd, 0, none⟩)]) (As := [E (I (b : Nat)), E (I deep), E (.pointer (some ⟨bo, 0, none⟩)), E (.pointer (some ⟨bf, 0, none⟩)), E (.pointer (some ⟨bk, 0, none⟩)), E (.pointer (some ⟨bd, 0, none⟩))]) Tryz.func123 rfl Tryz.ntmps123 (Nat.le_of_ble_eq_true rfl) ?_ (fun a hf => ?_) (Nat.le_of_ble_eq_true rfl)
    rotate_left
    dsimp only [params, Nat.reduceAdd] at hf
    rotate_right
    · exact argC rfl (argC rfl (argC rfl (argC rfl (argC rfl (argC rfl argZ)))))
    have c := Chg.rfl' (SD ba bf) W
    have hne := D.ne.1
    repeat refine seq ?_
    refine regn 4 hf (by decide +kernel) ?_
    refine st (ld1 T59 rfl D.o rfl) ?_
    refine st (mv rfl) ?_
    refine st (mv rfl) ?_
    refine st (idxS Tryz.underlying59 S3 rfl rfl (by omega)) ?_
    refine en fun a w e' hf => ?_
    replace D := D.ch (e'.chg _)
    replace c := c.ext e'
    replace BA := BA.ext e'
    replace BF := BF.ext e'
    clear e'
    refine tl_st1 T3 hf rfl rfl rfl BA (by simp [intsC_size]; omega) fun w hg hsz BA hf => ?_
    replace D := D.ch ((Chg.rfl' _ _).gr hg (.inl (by first | exact .inl rfl | exact .inr rfl)))
    replace c := c.gr hg (.inl (by first | exact .inl rfl | exact .inr rfl))
    replace BF := BF.gr hg (by omega)
    clear hg
    refine tl_nil ?_
    rw [show 0 + ((b : Nat) : Int).toNat * 1 = b by omega, intsC_set] at BA
    replace hf := hf.keep [0, 1, 2, 3, 4, 5]
    dsimp only [keep, List.filterMap, look, Nat.beq, Option.map] at hf
    have hsz := dnF_le (kN t) f b deep s
    repeat refine seq ?_
    refine regn 2 hf (by decide +kernel) ?_
    refine st (ld1 T3 rfl BF rfl) ?_
    refine st (add rfl rfl (by omega)) ?_
    refine en fun a w e' hf => ?_
    replace D := D.ch (e'.chg _)
    replace c := c.ext e'
    replace BA := BA.ext e'
    replace BF := BF.ext e'
    clear e'
    refine tl_st1 T3 hf rfl rfl rfl BF (by simp) fun w hg hsz BF hf => ?_
    replace D := D.ch ((Chg.rfl' _ _).gr hg (.inl (by first | exact .inl rfl | exact .inr rfl)))
    replace c := c.gr hg (.inl (by first | exact .inl rfl | exact .inr rfl))
    replace BA := BA.gr hg (by omega)
    clear hg
    refine tl_nil ?_
    rw [show (#[I s.2] : Array Value).setIfInBounds 0 (I (s.2 + 1)) = #[I (s.2 + 1)] from rfl] at BF
    replace hf := hf.keep [0, 1, 2, 3, 4, 5]
    dsimp only [keep, List.filterMap, look, Nat.beq, Option.map] at hf
    have hkb : (belowT t)[b]? = some (kidT t t.length b) := belowTo_get hb
    repeat refine seq ?_
    refine regn 6 hf (by decide +kernel) ?_
    refine st (ld1 T127 rfl D.k rfl) ?_
    refine st (mv rfl) ?_
    refine st (idxD Tryz.underlying127 S59 (isE rfl D.kd) rfl (by omega) (hkb)) ?_
    refine st (ldD T59 (isR rfl)) ?_
    refine st (lenD Tryz.underlying59 (isR rfl)) ?_
    refine st (mv rfl) ?_
    refine en fun a w e' hf => ?_
    replace D := D.ch (e'.chg _)
    replace c := c.ext e'
    replace BA := BA.ext e'
    replace BF := BF.ext e'
    clear e'
    refine tl_nil ?_
    obtain ⟨s1, hs1⟩ : ∃ s1 : List Int × Int, s1 = (s.1.set b deep, s.2 + 1) := ⟨_, rfl⟩
    have hs1l : s1.1.length = t.length := by rw [hs1]; simpa using hs
    have e1 : s.1.set b deep = s1.1 := by rw [hs1]
    have e2 : s.2 + 1 = s1.2 := by rw [hs1]
    rw [e1] at BA
    rw [e2] at BF
    have h01 : 0 ≤ s1.2 := by omega
    rw [← hs1] at heq
    have hkl : (kidT t t.length b).length = (kN t b).length := by rw [kidT_kN, List.length_map]
    have hkl2 : (kN t b).length ≤ t.length := by have := List.length_filter_le (fun i => decide ((bg t i).1 = (b : Int))) (List.range t.length); simpa [kN] using this
    clear e1 e2
    rw [hkl] at hf
    replace hf := hf.keep [0, 1, 2, 3, 4, 5, 19, 20, 21]
    dsimp only [keep, List.filterMap, look, Nat.beq, Option.map] at hf
    haveI hin : InS G (SD ba bf) := ⟨D.g⟩
    repeat refine seq ?_
    refine blk (loopN (fun r0 a w => ∃ (k : Nat), r0 = (kN t b).length - k ∧ k ≤ (kN t b).length ∧ Fr 31 a w [(0, E (I (b : Nat))), (1, E (I deep)), (2, E (.pointer (some ⟨bo, 0, none⟩))), (3, E (.pointer (some ⟨bf, 0, none⟩))), (4, E (.pointer (some ⟨bk, 0, none⟩))), (5, E (.pointer (some ⟨bd, 0, none⟩))), (19, Dv (slE intE) G (kidT t t.length b)), (20, E (I ((kN t b).length : Nat))), (21, E (I k))] ∧
      Chg (SD ba bf) W w ∧ DC t G ba bf bo bk bd kv w ∧ Blk w ba (intsC (((kN t b).take k).foldl (fun s k => dnF (kN t) (f - 1) k (deep + 1) s) s1).1) 3 ∧ Blk w bf #[I (((kN t b).take k).foldl (fun s k => dnF (kN t) (f - 1) k (deep + 1) s) s1).2] 3) (kN t b).length ⟨0, rfl, by omega, hf, c, D, BA, BF⟩ ?_)
    clear hf c D BA BF
    rintro r0 a w ⟨k, rfl, hk, hf, c, D, BA, BF⟩
    repeat refine seq ?_
    refine regn 1 hf (by decide +kernel) ?_
    refine st (lss rfl rfl) ?_
    refine en fun a w e' hf => ?_
    replace D := D.ch (e'.chg _)
    replace c := c.ext e'
    replace BA := BA.ext e'
    replace BF := BF.ext e'
    clear e'
    refine tl_nil ?_
    repeat refine seq ?_
    refine ifc hf rfl (fun hc => wskip ?_) (fun hc => wexit ?_)
    · have hlt : k < (kN t b).length := by have := of_decide_eq_true hc; omega
      clear hc
      replace hf := hf.keep [0, 1, 2, 3, 4, 5, 19, 20, 21]
      dsimp only [keep, List.filterMap, look, Nat.beq, Option.map] at hf
      obtain ⟨j, hj⟩ : ∃ j, (kN t b)[k]? = some j := ⟨_, List.getElem?_eq_getElem hlt⟩
      have hjm := List.mem_of_getElem? hj
      obtain ⟨hf0, hhj⟩ := hgt_kid hh hjm
      have hj' : (kidT t t.length b)[k]? = some (j : Int) := by rw [kidT_kN, List.getElem?_map, hj]; rfl
      have hstep : ((kN t b).take (k + 1)).foldl (fun s k => dnF (kN t) (f - 1) k (deep + 1) s) s1 = dnF (kN t) (f - 1) j (deep + 1) (((kN t b).take k).foldl (fun s k => dnF (kN t) (f - 1) k (deep + 1) s) s1) := by
        rw [take_succ_get hj, List.foldl_append]; rfl
      obtain ⟨sk, hsk⟩ : ∃ sk, sk = ((kN t b).take k).foldl (fun s k => dnF (kN t) (f - 1) k (deep + 1) s) s1 := ⟨_, rfl⟩
      have hskl : sk.1.length = t.length := by rw [hsk, foldl_dn_len]; exact hs1l
      have hsk0 : s1.2 ≤ sk.2 := by rw [hsk]; exact foldl_dn_le _ _ _ _ _
      have hskle : (dnF (kN t) (f - 1) j (deep + 1) sk).2 ≤ (dnF (kN t) f b deep s).2 := by
        rw [hsk, ← hstep, heq]
        conv => rhs; rw [← List.take_append_drop (k + 1) (kN t b), List.foldl_append]
        exact foldl_dn_le _ _ _ _ _
      rw [← hsk] at BA BF hstep
      repeat refine seq ?_
      refine blk ?_
      repeat refine seq ?_
      refine regn 2 hf (by decide +kernel) ?_
      refine st (idxD Tryz.underlying59 S3 (isR rfl) rfl (by omega) (hj')) ?_
      refine st (ldI T3 (isR rfl)) ?_
      refine en fun a w e' hf => ?_
      replace D := D.ch (e'.chg _)
      replace c := c.ext e'
      replace BA := BA.ext e'
      replace BF := BF.ext e'
      clear e'
      refine tl_as hf rfl (by decide) fun a hf => ?_
      refine tl_nil ?_
      replace hf := hf.keep [0, 1, 2, 3, 4, 5, 9, 19, 20, 21]
      dsimp only [keep, List.filterMap, look, Nat.beq, Option.map] at hf
      repeat refine seq ?_
      refine regn 4 hf (by decide +kernel) ?_
      refine st (ld1 T172 rfl D.d rfl) ?_
      refine st (mv rfl) ?_
      refine st (mv rfl) ?_
      refine st (add rfl rfl (by omega)) ?_
      refine en fun a w e' hf => ?_
      replace D := D.ch (e'.chg _)
      replace c := c.ext e'
      replace BA := BA.ext e'
      replace BF := BF.ext e'
      clear e'
      have v26 : a.eval (.tmp 26) = I (j : Nat) := hf.val 26 _ rfl
      have v28 : a.eval (.tmp 28) = I (deep + 1) := hf.val 28 _ rfl
      refine tl_callV (S := SD ba bf) (F := fun w' => Blk w' ba (intsC (dnF (kN t) (f - 1) j (deep + 1) sk).1) 3 ∧ Blk w' bf #[I (dnF (kN t) (f - 1) j (deep + 1) sk).2] 3) (A := Any) hf (by decide) En123 rfl ?_ fun a w hc hF hf => ?_
      · have := ih (f - 1) (by omega) j (deep + 1) sk w D BA BF hhj (mem_kN.1 hjm).1 hskl (by omega) (by omega) (by omega) (by omega)
        simpa [v26, v28] using this
      replace D := D.ch hc
      replace c := c.tr hc
      replace BA := hF.1
      replace BF := hF.2
      clear hc hF
      refine tl_nil ?_
      try simp only [Exit.then, Exit.inBlock, ↓reduceIte]
      replace hf := hf.keep [0, 1, 2, 3, 4, 5, 19, 20, 21]
      dsimp only [keep, List.filterMap, look, Nat.beq, Option.map] at hf
      repeat refine seq ?_
      refine regn 1 hf (by decide +kernel) ?_
      refine st ((add rfl rfl (by omega)).eq (congrArg (Value.int .i64) (show (k : Int) + 1 = ((k + 1 : Nat) : Int) from rfl))) ?_
      refine en fun a w e' hf => ?_
      replace D := D.ch (e'.chg _)
      replace c := c.ext e'
      replace BA := BA.ext e'
      replace BF := BF.ext e'
      clear e'
      refine tl_op hf (by decide) (mv rfl) fun a w e' hf => ?_
      replace D := D.ch (e'.chg _)
      replace c := c.ext e'
      replace BA := BA.ext e'
      replace BF := BF.ext e'
      clear e'
      refine tl_nil ?_
      replace hf := hf.keep [0, 1, 2, 3, 4, 5, 19, 20, 21]
      dsimp only [keep, List.filterMap, look, Nat.beq, Option.map] at hf
      exact ⟨(kN t b).length - (k + 1), by omega, k + 1, rfl, by omega, hf, c, D, by rw [hstep]; exact BA, by rw [hstep]; exact BF⟩
    · obtain rfl : k = (kN t b).length := by have := of_decide_eq_false hc; omega
      simp only [Exit.then, Exit.inBlock, ↓reduceIte]
      refine ret0n rfl hf ?_
      rw [List.take_length, ← heq] at BA BF
      exact ⟨_, rfl, c, trivial, BA, BF⟩
end Go.Mono

namespace Go.Mono
open Go Go.Proofs Go.RowKit

theorem ints_cells {G : Nat → Prop} {w : World} : ∀ l : List Int, Cells intE G w l (l.map (Value.int .i64))
  | [] => rfl
  | x :: l => ⟨[I x], l.map (Value.int .i64), rfl, rfl, ints_cells l⟩
theorem ints_dv {G : Nat → Prop} {w : World} {b : Nat} {l : List Int} {bt : TypeId} (h : Blk w b (intsC l) bt) (hG : ¬G b) : (Dv (slE intE) G l).p (.slice (some ⟨b, 0, none⟩) l.length l.length) w :=
  Dv.sl.2 (.inr ⟨_, l.length, l.map (Value.int .i64), rfl, Nat.le_refl _, hG, h.lt, ints_cells l, fun i u hu => by
    rw [Addr.add_lit, Nat.zero_add, h.cell i, intsC, List.getElem?_toArray]; exact hu⟩)
/-- the bags without one above -/
def rootN (t : List (Int × BS)) : List Nat := (List.range t.length).filter fun i => decide ((bg t i).1 = -1)
theorem rootsT_eq (t : List (Int × BS)) : rootsT t = (rootN t).map fun i : Nat => (i : Int) := rfl
def depthsF (t : List (Int × BS)) (f : Nat) (l : List Nat) : List Int × Int := l.foldl (fun s b => dnF (kN t) f b 0 s) (List.replicate t.length 0, 0)

theorem depths_spec {G : Nat → Prop} (t : List (Int × BS)) (f : Nat) (v : Value) (W : World) (h : (Dv treeE G t).p v W) (hG : ∀ b, G b → b < W.heap.size) (hl : t.length ≤ 4096) (hr : Rng t) (hh : ∀ b ∈ rootN t, hgt (kN t) f b) (hf : f ≤ 50000) (hle : (depthsF t f (rootN t)).2 ≤ 100000) :
    Calls Tryz.prog 68 #[v] W (Post (Tup [Dv (slE intE) G (depthsF t f (rootN t)).1, E (B ((depthsF t f (rootN t)).2 == (t.length : Nat)))]) W) := by
  have hfb := hf
  clear hf
  refine enter (args := [v]) (As := [Dv treeE (GB W G) t]) Tryz.func68 rfl Tryz.ntmps68 (Nat.le_of_ble_eq_true rfl) ?_ (fun a hf => ?_) (Nat.le_of_ble_eq_true rfl)
  rotate_left
  dsimp only [params, Nat.reduceAdd] at hf
  rotate_right
  · exact arg1 (Dv.toB h)
  have e := Ext.rfl' W
  repeat refine seq ?_
  refine regn0 ?_
  refine tl_as hf rfl (by decide) fun a hf => ?_
  refine tl_as hf rfl (by decide) fun a hf => ?_
  refine tl_nil ?_
  repeat refine seq ?_
  refine regn 2 hf (by decide +kernel) ?_
  refine st (mv rfl) ?_
  refine st (lenD Tryz.underlying23 (isR rfl)) ?_
  refine en fun a w e' hf => ?_
  replace e := Ext.tr e e'
  clear e'
  refine tl_mk Tryz.underlying59 I3 rfl hf (by decide) rfl (by omega) (by decide) fun a b12 w e' hb12 hs12 B12 hf => ?_
  have hle12 := Nat.le_trans e.size (Nat.le_of_eq hb12.symm)
  replace e := Ext.tr e e'
  clear e'
  refine tl_alloc I59 hf (by decide) fun a b4 w e' hb4 hs4 B4 hf => ?_
  have hle4 := Nat.le_trans e.size (Nat.le_of_eq hb4.symm)
  have lt4_B12 := B12.lt
  replace e := Ext.tr e e'
  replace B12 := B12.ext e'
  clear e'
  haveI hinr : ∀ G0, InR (GB W G0) (some b4) := fun G0 => InR.gb (by omega)
  refine tl_st1 T59 hf rfl rfl rfl B4 (by decide) fun w hg hsz B4 hf => ?_
  replace e := e.gr hg (by omega)
  replace B12 := B12.gr hg (by omega)
  clear hg
  refine tl_nil ?_
  have h12 : b12 ≠ b4 := by omega
  rw [show (List.replicate t.length (I 0)).toArray = intsC (List.replicate t.length 0) from by simp [intsC]] at B12
  have B4' : Blk w b4 #[.slice (some ⟨b12, 0, none⟩) t.length t.length] 59 := B4
  replace B4 := B4'; clear B4'
  replace hf := hf.keep [0, 4]
  dsimp only [keep, List.filterMap, look, Nat.beq, Option.map] at hf
  repeat refine seq ?_
  refine regn0 ?_
  refine tl_alloc I3 hf (by decide) fun a b5 w e' hb5 hs5 B5 hf => ?_
  have hle5 := Nat.le_trans e.size (Nat.le_of_eq hb5.symm)
  have lt5_B12 := B12.lt
  have lt5_B4 := B4.lt
  replace e := Ext.tr e e'
  replace B12 := B12.ext e'
  replace B4 := B4.ext e'
  clear e'
  haveI hinr : ∀ G0, InR (GB W G0) (some b5) := fun G0 => InR.gb (by omega)
  refine tl_st1 T3 hf rfl rfl rfl B5 (by decide) fun w hg hsz B5 hf => ?_
  replace e := e.gr hg (by omega)
  replace B12 := B12.gr hg (by omega)
  replace B4 := B4.gr hg (by omega)
  clear hg
  refine tl_nil ?_
  have B5' : Blk w b5 #[I 0] 3 := B5
  replace B5 := B5'; clear B5'
  have h5 : b5 ≠ b4 ∧ b5 ≠ b12 := by omega
  have hSD : ∀ b, SD b12 b5 b → b < w.heap.size := by
    have := B12.lt
    have := B5.lt
    rintro b (rfl | rfl) <;> assumption
  have hle12 : W.heap.size ≤ b12 := by omega
  have hSB : ∀ b, SD b12 b5 b → W.heap.size ≤ b := by rintro b (rfl | rfl) <;> omega
  haveI hinS : InS (GB W G) (SD b12 b5) := ⟨fun b hb => .inr (hSB b hb)⟩
  replace hf := hf.keep [0, 4, 5]
  dsimp only [keep, List.filterMap, look, Nat.beq, Option.map] at hf
  have l12 := B12.lt
  have l4 := B4.lt
  have l5 := B5.lt
  repeat refine seq ?_
  refine regn 2 hf (by decide +kernel) ?_
  refine st (mv rfl) ?_
  refine st (call1 En122 rfl (fun v u he h => below_spec (G := SD b12 b5) _ _ _ (Dv.weak h fun b _ hb => .inr (hSB b hb)) (fun b hb => Nat.lt_of_lt_of_le (hSD b hb) he.size) hl hr)) ?_
  refine en fun a w e' hf => ?_
  replace e := Ext.tr e e'
  replace B12 := B12.ext e'
  replace B4 := B4.ext e'
  replace B5 := B5.ext e'
  clear e'
  obtain ⟨kv, KD, hf⟩ := hf.fix 14 rfl
  obtain ⟨N, hN⟩ : ∃ N, N = w.heap.size := ⟨_, rfl⟩
  have KD' : (Dv (slE (slE intE)) (fun b => SD b12 b5 b ∨ N ≤ b) (belowT t)).p kv w := Dv.weak KD fun b hb hg => hg.elim id fun hg => by omega
  replace KD := KD'
  clear KD'
  replace hf := hf.keep [0, 4, 5, 14]
  dsimp only [keep, List.filterMap, look, Nat.beq, Option.map] at hf
  have l12 := B12.lt
  have l4 := B4.lt
  have l5 := B5.lt
  have hkv := Dv.slOne KD
  refine tl_alloc I127 hf (by decide) fun a b6 w e' hb6 hs6 B6 hf => ?_
  have hle6 := Nat.le_trans e.size (Nat.le_of_eq hb6.symm)
  have lt6_B12 := B12.lt
  have lt6_B4 := B4.lt
  have lt6_B5 := B5.lt
  replace KD := Dv.ex KD e'
  replace e := Ext.tr e e'
  replace B12 := B12.ext e'
  replace B4 := B4.ext e'
  replace B5 := B5.ext e'
  clear e'
  haveI hinr : ∀ G0, InR (GB W G0) (some b6) := fun G0 => InR.gb (by omega)
  refine tl_st1 T127 hf rfl rfl (hkv) B6 (by decide) fun w hg hsz B6 hf => ?_
  replace KD := Dv.gr KD hg (.inr (by omega))
  replace e := e.gr hg (by omega)
  replace B12 := B12.gr hg (by omega)
  replace B4 := B4.gr hg (by omega)
  replace B5 := B5.gr hg (by omega)
  clear hg
  refine tl_nil ?_
  have B6' : Blk w b6 #[kv] 127 := B6
  replace B6 := B6'; clear B6'
  replace hf := hf.keep [0, 4, 5, 6]
  dsimp only [keep, List.filterMap, look, Nat.beq, Option.map] at hf
  repeat refine seq ?_
  refine regn0 ?_
  refine tl_alloc I172 hf (by decide) fun a b7 w e' hb7 hs7 B7 hf => ?_
  have hle7 := Nat.le_trans e.size (Nat.le_of_eq hb7.symm)
  have lt7_B12 := B12.lt
  have lt7_B4 := B4.lt
  have lt7_B5 := B5.lt
  have lt7_B6 := B6.lt
  replace KD := Dv.ex KD e'
  replace e := Ext.tr e e'
  replace B12 := B12.ext e'
  replace B4 := B4.ext e'
  replace B5 := B5.ext e'
  replace B6 := B6.ext e'
  clear e'
  refine tl_nil ?_
  replace hf := hf.keep [0, 4, 5, 6, 7]
  dsimp only [keep, List.filterMap, look, Nat.beq, Option.map] at hf
  have h7 : b7 ≠ b4 ∧ b7 ≠ b5 ∧ b7 ≠ b12 ∧ b7 ≠ b6 := by omega
  repeat refine seq ?_
  refine regn 1 hf (by decide +kernel) ?_
  refine st (makeF4 rfl rfl rfl rfl) ?_
  refine en fun a w e' hf => ?_
  replace KD := Dv.ex KD e'
  replace e := Ext.tr e e'
  replace B12 := B12.ext e'
  replace B4 := B4.ext e'
  replace B5 := B5.ext e'
  replace B6 := B6.ext e'
  replace B7 := B7.ext e'
  clear e'
  haveI hinr : ∀ G0, InR (GB W G0) (some b7) := fun G0 => InR.gb (by omega)
  refine tl_st1 T172 hf rfl rfl rfl B7 (by decide) fun w hg hsz B7 hf => ?_
  replace KD := Dv.gr KD hg (.inr (by omega))
  replace e := e.gr hg (by omega)
  replace B12 := B12.gr hg (by omega)
  replace B4 := B4.gr hg (by omega)
  replace B5 := B5.gr hg (by omega)
  replace B6 := B6.gr hg (by omega)
  clear hg
  refine tl_nil ?_
  have D : DC t (fun b => SD b12 b5 b ∨ N ≤ b) b12 b5 b4 b6 b7 kv w :=
    ⟨B4, B6, B7, KD, fun b hb => .inl hb, by omega, by unfold SD; omega, by unfold SD; omega, by unfold SD; omega⟩
  clear B4 B6 B7 KD
  have hrl : (rootsT t).length = (rootN t).length := by rw [rootsT_eq, List.length_map]
  have hrl2 : (rootN t).length ≤ t.length := by have := List.length_filter_le (fun i => decide ((bg t i).1 = -1)) (List.range t.length); simpa [rootN] using this
  have hSD' : ∀ b, SD b12 b5 b → b < w.heap.size := by
    have := B12.lt
    have := B5.lt
    rintro b (rfl | rfl) <;> assumption
  replace hf := hf.keep [0, 4, 5, 6, 7]
  dsimp only [keep, List.filterMap, look, Nat.beq, Option.map] at hf
  repeat refine seq ?_
  refine regn 4 hf (by decide +kernel) ?_
  refine st (mv rfl) ?_
  refine st (call1 En67 rfl (fun v u he h => roots_spec (G := SD b12 b5) _ _ _ (Dv.weak h fun b _ hb => .inr (hSB b hb)) (fun b hb => Nat.lt_of_lt_of_le (hSD' b hb) he.size) hl)) ?_
  refine st (lenD Tryz.underlying59 (isR rfl)) ?_
  refine st (mv rfl) ?_
  refine en fun a w e' hf => ?_
  replace D := D.ch (e'.chg _)
  replace e := Ext.tr e e'
  replace B12 := B12.ext e'
  replace B5 := B5.ext e'
  clear e'
  refine tl_nil ?_
  haveI hinS2 : InS (SD b12 b5) (SD b12 b5) := ⟨fun b hb => hb⟩
  rw [hrl] at hf
  replace hf := hf.keep [0, 4, 5, 7, 17, 18, 19]
  dsimp only [keep, List.filterMap, look, Nat.beq, Option.map] at hf
  repeat refine seq ?_
  refine blk (loopN (fun r0 a w => ∃ (k : Nat), r0 = (rootN t).length - k ∧ k ≤ (rootN t).length ∧ Fr 32 a w [(0, Dv treeE (GB W G) t), (4, E (.pointer (some ⟨b4, 0, none⟩))), (5, E (.pointer (some ⟨b5, 0, none⟩))), (7, E (.pointer (some ⟨b7, 0, none⟩))), (17, Dv (slE intE) (SD b12 b5) (rootsT t)), (18, E (I ((rootN t).length : Nat))), (19, E (I k))] ∧
      Ext W w ∧ DC t (fun b => SD b12 b5 b ∨ N ≤ b) b12 b5 b4 b6 b7 kv w ∧ Blk w b12 (intsC (depthsF t f ((rootN t).take k)).1) 3 ∧ Blk w b5 #[I (depthsF t f ((rootN t).take k)).2] 3) (rootN t).length ⟨0, rfl, by omega, hf, e, D, B12, B5⟩ ?_)
  clear hf e D B12 B5
  rintro r0 a w ⟨k, rfl, hk, hf, e, D, B12, B5⟩
  repeat refine seq ?_
  refine regn 1 hf (by decide +kernel) ?_
  refine st (lss rfl rfl) ?_
  refine en fun a w e' hf => ?_
  replace D := D.ch (e'.chg _)
  replace e := Ext.tr e e'
  replace B12 := B12.ext e'
  replace B5 := B5.ext e'
  clear e'
  refine tl_nil ?_
  repeat refine seq ?_
  refine ifc hf rfl (fun hc => wskip ?_) (fun hc => wexit ?_)
  · have hlt : k < (rootN t).length := by have := of_decide_eq_true hc; omega
    clear hc
    replace hf := hf.keep [0, 4, 5, 7, 17, 18, 19]
    dsimp only [keep, List.filterMap, look, Nat.beq, Option.map] at hf
    obtain ⟨j, hj⟩ : ∃ j, (rootN t)[k]? = some j := ⟨_, List.getElem?_eq_getElem hlt⟩
    have hjm := List.mem_of_getElem? hj
    have hj' : (rootsT t)[k]? = some (j : Int) := by rw [rootsT_eq, List.getElem?_map, hj]; rfl
    have hjl : j < t.length := by have := List.mem_filter.1 hjm; simpa using this.1
    obtain ⟨sk, hsk⟩ : ∃ sk, sk = depthsF t f ((rootN t).take k) := ⟨_, rfl⟩
    have hstep : depthsF t f ((rootN t).take (k + 1)) = dnF (kN t) f j 0 sk := by
      rw [hsk, depthsF, depthsF, take_succ_get hj, List.foldl_append]; rfl
    have hskl : sk.1.length = t.length := by rw [hsk, depthsF, foldl_dn_len]; simp
    have hsk0 : 0 ≤ sk.2 := by rw [hsk]; exact foldl_dn_le _ _ _ _ _
    have hskle : (dnF (kN t) f j 0 sk).2 ≤ (depthsF t f (rootN t)).2 := by
      rw [← hstep, depthsF, depthsF]
      conv => rhs; rw [← List.take_append_drop (k + 1) (rootN t), List.foldl_append]
      exact foldl_dn_le _ _ _ _ _
    rw [← hsk] at B12 B5
    repeat refine seq ?_
    refine blk ?_
    repeat refine seq ?_
    refine regn 2 hf (by decide +kernel) ?_
    refine st (idxD Tryz.underlying59 S3 (isR rfl) rfl (by omega) (hj')) ?_
    refine st (ldI T3 (isR rfl)) ?_
    refine en fun a w e' hf => ?_
    replace D := D.ch (e'.chg _)
    replace e := Ext.tr e e'
    replace B12 := B12.ext e'
    replace B5 := B5.ext e'
    clear e'
    refine tl_as hf rfl (by decide) fun a hf => ?_
    refine tl_nil ?_
    replace hf := hf.keep [0, 4, 5, 7, 9, 17, 18, 19]
    dsimp only [keep, List.filterMap, look, Nat.beq, Option.map] at hf
    repeat refine seq ?_
    refine regn 2 hf (by decide +kernel) ?_
    refine st (ld1 T172 rfl D.d rfl) ?_
    refine st (mv rfl) ?_
    refine en fun a w e' hf => ?_
    replace D := D.ch (e'.chg _)
    replace e := Ext.tr e e'
    replace B12 := B12.ext e'
    replace B5 := B5.ext e'
    clear e'
    have v24 : a.eval (.tmp 24) = I (j : Nat) := hf.val 24 _ rfl
    refine tl_callV (S := SD b12 b5) (F := fun w' => Blk w' b12 (intsC (dnF (kN t) f j 0 sk).1) 3 ∧ Blk w' b5 #[I (dnF (kN t) f j 0 sk).2] 3) (A := Any) hf (by decide) En123 rfl ?_ fun a w hc hF hf => ?_
    · have := down_spec t _ b12 b5 b4 b6 b7 kv hl f j 0 sk w D B12 B5 (hh j hjm) hjl hskl hsk0 (by omega) (by omega) (by omega)
      have vc : a.eval (.const (I 0)) = I 0 := rfl
      simpa [v24, vc] using this
    replace D := D.ch hc
    replace e := e.ch hc hSB
    replace B12 := hF.1
    replace B5 := hF.2
    clear hc hF
    refine tl_nil ?_
    try simp only [Exit.then, Exit.inBlock, ↓reduceIte]
    replace hf := hf.keep [0, 4, 5, 7, 17, 18, 19]
    dsimp only [keep, List.filterMap, look, Nat.beq, Option.map] at hf
    repeat refine seq ?_
    refine regn 1 hf (by decide +kernel) ?_
    refine st ((add rfl rfl (by omega)).eq (congrArg (Value.int .i64) (show (k : Int) + 1 = ((k + 1 : Nat) : Int) from rfl))) ?_
    refine en fun a w e' hf => ?_
    replace D := D.ch (e'.chg _)
    replace e := Ext.tr e e'
    replace B12 := B12.ext e'
    replace B5 := B5.ext e'
    clear e'
    refine tl_op hf (by decide) (mv rfl) fun a w e' hf => ?_
    replace D := D.ch (e'.chg _)
    replace e := Ext.tr e e'
    replace B12 := B12.ext e'
    replace B5 := B5.ext e'
    clear e'
    refine tl_nil ?_
    replace hf := hf.keep [0, 4, 5, 7, 17, 18, 19]
    dsimp only [keep, List.filterMap, look, Nat.beq, Option.map] at hf
    exact ⟨(rootN t).length - (k + 1), by omega, k + 1, rfl, by omega, hf, e, D, by rw [hstep]; exact B12, by rw [hstep]; exact B5⟩
  · obtain rfl : k = (rootN t).length := by have := of_decide_eq_false hc; omega
    simp only [Exit.then, Exit.inBlock, ↓reduceIte]
    rw [List.take_length] at B12 B5
    replace hf := hf.keep [0, 4, 5]
    dsimp only [keep, List.filterMap, look, Nat.beq, Option.map] at hf
    repeat refine seq ?_
    refine reg 7 Mix.mix hf (by decide +kernel) ?_
    refine st (ld1 T59 rfl D.o rfl) ?_
    refine st (ld1 T3 rfl B5 rfl) ?_
    refine st (mv rfl) ?_
    refine st (lenD Tryz.underlying23 (isR rfl)) ?_
    refine st (eql rfl rfl) ?_
    refine st (asg rfl) ?_
    refine st (asg rfl) ?_
    refine en fun a w e' hf => ?_
    replace D := D.ch (e'.chg _)
    replace e := Ext.tr e e'
    replace B12 := B12.ext e'
    replace B5 := B5.ext e'
    clear e'
    refine tl_nil ?_
    refine wret ?_
    refine ret2 rfl hf rfl rfl ?_
    rintro _ _ rfl rfl
    have hlen : (depthsF t f (rootN t)).1.length = t.length := by rw [depthsF, foldl_dn_len]; simp
    refine ⟨_, rfl, e, Tup.two ?_ rfl⟩
    have := ints_dv (G := G) B12 (fun hg => by have := hG _ hg; omega)
    rwa [hlen] at this
end Go.Mono

namespace Go.Mono
open Go Go.Proofs Go.RowKit
theorem union_spec (S T : BS) (W : World) : Calls Tryz.prog 59 #[setV S, setV T] W (Post (E (setV (S |||T))) W) := by
  refine enter (args := [setV S, setV T]) (As := [E (setV S), E (setV T)]) Tryz.func59 rfl Tryz.ntmps59 (Nat.le_of_ble_eq_true rfl) ?_ (fun a hf => ?_) (Nat.le_of_ble_eq_true rfl)
  rotate_left
  dsimp only [params, Nat.reduceAdd] at hf
  rotate_right
  · exact arg2 rfl rfl
  have e := Ext.rfl' W
  repeat refine seq ?_
  refine regn0 ?_
  refine tl_box hf rfl (by decide) fun a b2 w v2 hv2 e' hb2 hs2 B2 hf => ?_
  have hle2 := Nat.le_trans e.size (Nat.le_of_eq hb2.symm)
  replace e := Ext.tr e e'
  clear e'
  refine tl_box hf rfl (by decide) fun a b3 w v3 hv3 e' hb3 hs3 B3 hf => ?_
  have hle3 := Nat.le_trans e.size (Nat.le_of_eq hb3.symm)
  have lt3_B2 := B2.lt
  replace e := Ext.tr e e'
  replace B2 := B2.ext e'
  clear e'
  refine tl_alloc I67 hf (by decide) fun a b4 w e' hb4 hs4 B4 hf => ?_
  have hle4 := Nat.le_trans e.size (Nat.le_of_eq hb4.symm)
  have lt4_B2 := B2.lt
  have lt4_B3 := B3.lt
  replace e := Ext.tr e e'
  replace B2 := B2.ext e'
  replace B3 := B3.ext e'
  clear e'
  refine tl_nil ?_
  subst hv2
  subst hv3
  rw [setV_cells] at B2 B3
  simp only [Value.cells, zeroC] at B4
  repeat refine seq ?_
  refine regn 1 hf (by decide +kernel) ?_
  refine st (mv rfl) ?_
  refine en fun a w e' hf => ?_
  replace e := Ext.tr e e'
  replace B2 := B2.ext e'
  replace B3 := B3.ext e'
  replace B4 := B4.ext e'
  clear e'
  refine tl_nil ?_
  replace hf := hf.keep [2, 3, 4, 6]
  dsimp only [keep, List.filterMap, look, Nat.beq, Option.map] at hf
  repeat refine seq ?_
  refine blk (loopN (fun r a w => ∃ k : Nat, r = 16 - k ∧ k ≤ 16 ∧ Fr 19 a w [(2, E (.pointer (some ⟨b2, 0, none⟩))), (3, E (.pointer (some ⟨b3, 0, none⟩))), (4, E (.pointer (some ⟨b4, 0, none⟩))), (6, E (I k))] ∧ Ext W w ∧
    Blk w b2 (wordsC fun i => if i < k then word S i ||| word T i else word S i) 67 ∧ Blk w b3 (setC T) 67 ∧ Blk w b4 (setC 0) 67) 16 ⟨0, rfl, by omega, hf, e, ?_, B3, B4⟩ ?_)
  · simpa [setC] using B2
  clear hf e B2 B3 B4
  rintro r a w ⟨k, rfl, hk, hf, e, B2, B3, B4⟩
  by_cases hlt : k < 16
  · repeat refine seq ?_
    refine regn 1 hf (by decide +kernel) ?_
    refine st ((lss rfl rfl).eq (congrArg Value.bool (show decide ((k : Int) < 16) = true from decide_eq_true (by omega)))) ?_
    refine en fun a w e' hf => ?_
    replace e := Ext.tr e e'
    replace B2 := B2.ext e'
    replace B3 := B3.ext e'
    replace B4 := B4.ext e'
    clear e'
    refine tl_nil ?_
    repeat refine seq ?_
    refine ifc hf rfl (fun _ => wskip ?_) (fun h => by cases h)
    repeat refine seq ?_
    refine blk ?_
    repeat refine seq ?_
    refine regn 1 hf (by decide +kernel) ?_
    refine st (mv rfl) ?_
    refine en fun a w e' hf => ?_
    replace e := Ext.tr e e'
    replace B2 := B2.ext e'
    replace B3 := B3.ext e'
    replace B4 := B4.ext e'
    clear e'
    refine tl_as hf rfl (by decide) fun a hf => ?_
    refine tl_nil ?_
    have g2 : (wordsC fun i => if i < k then word S i ||| word T i else word S i)[k]? = some (Mono.W (word S k)) := by rw [wordsC_get _ _ hlt]; simp
    repeat refine seq ?_
    refine reg 8 Mix.mix hf (by decide +kernel) ?_
    refine st (mv rfl) ?_
    refine st (idxA Tryz.underlying67 ⟨_, T65⟩ rfl rfl (by omega)) ?_
    refine st (ld1 T65 rfl B2 (by simpa using g2)) ?_
    refine st (mv rfl) ?_
    refine st (idxA Tryz.underlying67 ⟨_, T65⟩ rfl rfl (by omega)) ?_
    refine st (ld1 T65 rfl B3 (by simpa [setC] using wordsC_get (word T) k hlt)) ?_
    refine st (orW rfl rfl) ?_
    refine st (idxA Tryz.underlying67 ⟨_, T65⟩ rfl rfl (by omega)) ?_
    refine en fun a w e' hf => ?_
    replace e := Ext.tr e e'
    replace B2 := B2.ext e'
    replace B3 := B3.ext e'
    replace B4 := B4.ext e'
    clear e'
    refine tl_st1 T65 hf rfl rfl rfl B2 (by rw [wordsC_size]; simp; omega) fun w hg hsz B2 hf => ?_
    replace e := e.gr hg (by omega)
    replace B3 := B3.gr hg (by omega)
    replace B4 := B4.gr hg (by omega)
    clear hg
    refine tl_nil ?_
    replace B2 : Blk w b2 (wordsC fun i => if i < k + 1 then word S i ||| word T i else word S i) 67 := by
      have : (wordsC fun i => if i < k then word S i ||| word T i else word S i).setIfInBounds k (Mono.W (word S k ||| word T k)) = wordsC fun i => if i < k + 1 then word S i ||| word T i else word S i := by
        rw [wordsC_set]
        refine wordsC_congr fun i hi => ?_
        by_cases h1 : i = k
        · subst h1; simp
        · simp only [h1, if_false]
          by_cases h2 : i < k
          · simp [h2, show i < k + 1 by omega]
          · simp [h2, show ¬ i < k + 1 by omega]
      rw [← this]
      simpa using B2
    replace hf := hf.keep [2, 3, 4, 6]
    dsimp only [keep, List.filterMap, look, Nat.beq, Option.map] at hf
    repeat refine seq ?_
    refine regn 1 hf (by decide +kernel) ?_
    refine st (add rfl rfl (by omega)) ?_
    refine en fun a w e' hf => ?_
    replace e := Ext.tr e e'
    replace B2 := B2.ext e'
    replace B3 := B3.ext e'
    replace B4 := B4.ext e'
    clear e'
    refine tl_op hf (by decide) (mv rfl) fun a w e' hf => ?_
    replace e := Ext.tr e e'
    replace B2 := B2.ext e'
    replace B3 := B3.ext e'
    replace B4 := B4.ext e'
    clear e'
    refine tl_nil ?_
    replace hf := hf.keep [2, 3, 4, 6]
    dsimp only [keep, List.filterMap, look, Nat.beq, Option.map] at hf
    exact ⟨16 - (k + 1), by omega, k + 1, rfl, by omega, by simpa using hf, e, B2, B3, B4⟩
  · obtain rfl : k = 16 := by omega
    repeat refine seq ?_
    refine regn 1 hf (by decide +kernel) ?_
    refine st ((lss rfl rfl).eq (congrArg Value.bool (show decide (((16 : Nat) : Int) < 16) = false from rfl))) ?_
    refine en fun a w e' hf => ?_
    replace e := Ext.tr e e'
    replace B2 := B2.ext e'
    replace B3 := B3.ext e'
    replace B4 := B4.ext e'
    clear e'
    refine tl_nil ?_
    repeat refine seq ?_
    refine ifc hf rfl (fun h => by cases h) (fun _ => wexit ?_)
    simp only [Exit.then, Exit.inBlock, ↓reduceIte]
    have hC : (wordsC fun i => if i < 16 then word S i ||| word T i else word S i) = setC (S |||T) := wordsC_congr fun i hi => by
      simp only [hi, if_true, word_or]
    rw [hC] at B2
    repeat refine seq ?_
    refine regn 1 hf (by decide +kernel) ?_
    refine st (ldW T67 rfl (by assumption) rfl) ?_
    refine en fun a w e' hf => ?_
    replace e := Ext.tr e e'
    replace B2 := B2.ext e'
    replace B3 := B3.ext e'
    replace B4 := B4.ext e'
    clear e'
    haveI hinr : ∀ G0, InR (GB W G0) (some b4) := fun G0 => InR.gb (by omega)
    refine tl_stW T67 hf rfl rfl (wordsC_one _) B4 rfl (rfl) fun w hg hsz B4 hf => ?_
    replace e := e.gr hg (by omega)
    replace B2 := B2.gr hg (by omega)
    replace B3 := B3.gr hg (by omega)
    clear hg
    refine tl_nil ?_
    refine wret (retS rfl T67 hf rfl B4 e rfl)

theorem inter_spec (S T : BS) (W : World) : Calls Tryz.prog 70 #[setV S, setV T] W (Post (E (setV (S &&&T))) W) := by
  refine enter (args := [setV S, setV T]) (As := [E (setV S), E (setV T)]) Tryz.func70 rfl Tryz.ntmps70 (Nat.le_of_ble_eq_true rfl) ?_ (fun a hf => ?_) (Nat.le_of_ble_eq_true rfl)
  rotate_left
  dsimp only [params, Nat.reduceAdd] at hf
  rotate_right
  · exact arg2 rfl rfl
  have e := Ext.rfl' W
  repeat refine seq ?_
  refine regn0 ?_
  refine tl_box hf rfl (by decide) fun a b2 w v2 hv2 e' hb2 hs2 B2 hf => ?_
  have hle2 := Nat.le_trans e.size (Nat.le_of_eq hb2.symm)
  replace e := Ext.tr e e'
  clear e'
  refine tl_box hf rfl (by decide) fun a b3 w v3 hv3 e' hb3 hs3 B3 hf => ?_
  have hle3 := Nat.le_trans e.size (Nat.le_of_eq hb3.symm)
  have lt3_B2 := B2.lt
  replace e := Ext.tr e e'
  replace B2 := B2.ext e'
  clear e'
  refine tl_alloc I67 hf (by decide) fun a b4 w e' hb4 hs4 B4 hf => ?_
  have hle4 := Nat.le_trans e.size (Nat.le_of_eq hb4.symm)
  have lt4_B2 := B2.lt
  have lt4_B3 := B3.lt
  replace e := Ext.tr e e'
  replace B2 := B2.ext e'
  replace B3 := B3.ext e'
  clear e'
  refine tl_nil ?_
  subst hv2
  subst hv3
  rw [setV_cells] at B2 B3
  simp only [Value.cells, zeroC] at B4
  repeat refine seq ?_
  refine regn 1 hf (by decide +kernel) ?_
  refine st (mv rfl) ?_
  refine en fun a w e' hf => ?_
  replace e := Ext.tr e e'
  replace B2 := B2.ext e'
  replace B3 := B3.ext e'
  replace B4 := B4.ext e'
  clear e'
  refine tl_nil ?_
  replace hf := hf.keep [2, 3, 4, 6]
  dsimp only [keep, List.filterMap, look, Nat.beq, Option.map] at hf
  repeat refine seq ?_
  refine blk (loopN (fun r a w => ∃ k : Nat, r = 16 - k ∧ k ≤ 16 ∧ Fr 19 a w [(2, E (.pointer (some ⟨b2, 0, none⟩))), (3, E (.pointer (some ⟨b3, 0, none⟩))), (4, E (.pointer (some ⟨b4, 0, none⟩))), (6, E (I k))] ∧ Ext W w ∧
    Blk w b2 (wordsC fun i => if i < k then word S i &&& word T i else word S i) 67 ∧ Blk w b3 (setC T) 67 ∧ Blk w b4 (setC 0) 67) 16 ⟨0, rfl, by omega, hf, e, ?_, B3, B4⟩ ?_)
  · simpa [setC] using B2
  clear hf e B2 B3 B4
  rintro r a w ⟨k, rfl, hk, hf, e, B2, B3, B4⟩
  by_cases hlt : k < 16
  · repeat refine seq ?_
    refine regn 1 hf (by decide +kernel) ?_
    refine st ((lss rfl rfl).eq (congrArg Value.bool (show decide ((k : Int) < 16) = true from decide_eq_true (by omega)))) ?_
    refine en fun a w e' hf => ?_
    replace e := Ext.tr e e'
    replace B2 := B2.ext e'
    replace B3 := B3.ext e'
    replace B4 := B4.ext e'
    clear e'
    refine tl_nil ?_
    repeat refine seq ?_
    refine ifc hf rfl (fun _ => wskip ?_) (fun h => by cases h)
    repeat refine seq ?_
    refine blk ?_
    repeat refine seq ?_
    refine regn 1 hf (by decide +kernel) ?_
    refine st (mv rfl) ?_
    refine en fun a w e' hf => ?_
    replace e := Ext.tr e e'
    replace B2 := B2.ext e'
    replace B3 := B3.ext e'
    replace B4 := B4.ext e'
    clear e'
    refine tl_as hf rfl (by decide) fun a hf => ?_
    refine tl_nil ?_
    have g2 : (wordsC fun i => if i < k then word S i &&& word T i else word S i)[k]? = some (Mono.W (word S k)) := by rw [wordsC_get _ _ hlt]; simp
    repeat refine seq ?_
    refine reg 8 Mix.mix hf (by decide +kernel) ?_
    refine st (mv rfl) ?_
    refine st (idxA Tryz.underlying67 ⟨_, T65⟩ rfl rfl (by omega)) ?_
    refine st (ld1 T65 rfl B2 (by simpa using g2)) ?_
    refine st (mv rfl) ?_
    refine st (idxA Tryz.underlying67 ⟨_, T65⟩ rfl rfl (by omega)) ?_
    refine st (ld1 T65 rfl B3 (by simpa [setC] using wordsC_get (word T) k hlt)) ?_
    refine st (andW rfl rfl) ?_
    refine st (idxA Tryz.underlying67 ⟨_, T65⟩ rfl rfl (by omega)) ?_
    refine en fun a w e' hf => ?_
    replace e := Ext.tr e e'
    replace B2 := B2.ext e'
    replace B3 := B3.ext e'
    replace B4 := B4.ext e'
    clear e'
    refine tl_st1 T65 hf rfl rfl rfl B2 (by rw [wordsC_size]; simp; omega) fun w hg hsz B2 hf => ?_
    replace e := e.gr hg (by omega)
    replace B3 := B3.gr hg (by omega)
    replace B4 := B4.gr hg (by omega)
    clear hg
    refine tl_nil ?_
    replace B2 : Blk w b2 (wordsC fun i => if i < k + 1 then word S i &&& word T i else word S i) 67 := by
      have : (wordsC fun i => if i < k then word S i &&& word T i else word S i).setIfInBounds k (Mono.W (word S k &&& word T k)) = wordsC fun i => if i < k + 1 then word S i &&& word T i else word S i := by
        rw [wordsC_set]
        refine wordsC_congr fun i hi => ?_
        by_cases h1 : i = k
        · subst h1; simp
        · simp only [h1, if_false]
          by_cases h2 : i < k
          · simp [h2, show i < k + 1 by omega]
          · simp [h2, show ¬ i < k + 1 by omega]
      rw [← this]
      simpa using B2
    replace hf := hf.keep [2, 3, 4, 6]
    dsimp only [keep, List.filterMap, look, Nat.beq, Option.map] at hf
    repeat refine seq ?_
    refine regn 1 hf (by decide +kernel) ?_
    refine st (add rfl rfl (by omega)) ?_
    refine en fun a w e' hf => ?_
    replace e := Ext.tr e e'
    replace B2 := B2.ext e'
    replace B3 := B3.ext e'
    replace B4 := B4.ext e'
    clear e'
    refine tl_op hf (by decide) (mv rfl) fun a w e' hf => ?_
    replace e := Ext.tr e e'
    replace B2 := B2.ext e'
    replace B3 := B3.ext e'
    replace B4 := B4.ext e'
    clear e'
    refine tl_nil ?_
    replace hf := hf.keep [2, 3, 4, 6]
    dsimp only [keep, List.filterMap, look, Nat.beq, Option.map] at hf
    exact ⟨16 - (k + 1), by omega, k + 1, rfl, by omega, by simpa using hf, e, B2, B3, B4⟩
  · obtain rfl : k = 16 := by omega
    repeat refine seq ?_
    refine regn 1 hf (by decide +kernel) ?_
    refine st ((lss rfl rfl).eq (congrArg Value.bool (show decide (((16 : Nat) : Int) < 16) = false from rfl))) ?_
    refine en fun a w e' hf => ?_
    replace e := Ext.tr e e'
    replace B2 := B2.ext e'
    replace B3 := B3.ext e'
    replace B4 := B4.ext e'
    clear e'
    refine tl_nil ?_
    repeat refine seq ?_
    refine ifc hf rfl (fun h => by cases h) (fun _ => wexit ?_)
    simp only [Exit.then, Exit.inBlock, ↓reduceIte]
    have hC : (wordsC fun i => if i < 16 then word S i &&& word T i else word S i) = setC (S &&&T) := wordsC_congr fun i hi => by
      simp only [hi, if_true, word_and]
    rw [hC] at B2
    repeat refine seq ?_
    refine regn 1 hf (by decide +kernel) ?_
    refine st (ldW T67 rfl (by assumption) rfl) ?_
    refine en fun a w e' hf => ?_
    replace e := Ext.tr e e'
    replace B2 := B2.ext e'
    replace B3 := B3.ext e'
    replace B4 := B4.ext e'
    clear e'
    haveI hinr : ∀ G0, InR (GB W G0) (some b4) := fun G0 => InR.gb (by omega)
    refine tl_stW T67 hf rfl rfl (wordsC_one _) B4 rfl (rfl) fun w hg hsz B4 hf => ?_
    replace e := e.gr hg (by omega)
    replace B2 := B2.gr hg (by omega)
    replace B3 := B3.gr hg (by omega)
    clear hg
    refine tl_nil ?_
    refine wret (retS rfl T67 hf rfl B4 e rfl)

theorem minus_spec (S T : BS) (W : World) : Calls Tryz.prog 82 #[setV S, setV T] W (Post (E (setV (S &&& ~~~T))) W) := by
  refine enter (args := [setV S, setV T]) (As := [E (setV S), E (setV T)]) Tryz.func82 rfl Tryz.ntmps82 (Nat.le_of_ble_eq_true rfl) ?_ (fun a hf => ?_) (Nat.le_of_ble_eq_true rfl)
  rotate_left
  dsimp only [params, Nat.reduceAdd] at hf
  rotate_right
  · exact arg2 rfl rfl
  have e := Ext.rfl' W
  repeat refine seq ?_
  refine regn0 ?_
  refine tl_box hf rfl (by decide) fun a b2 w v2 hv2 e' hb2 hs2 B2 hf => ?_
  have hle2 := Nat.le_trans e.size (Nat.le_of_eq hb2.symm)
  replace e := Ext.tr e e'
  clear e'
  refine tl_box hf rfl (by decide) fun a b3 w v3 hv3 e' hb3 hs3 B3 hf => ?_
  have hle3 := Nat.le_trans e.size (Nat.le_of_eq hb3.symm)
  have lt3_B2 := B2.lt
  replace e := Ext.tr e e'
  replace B2 := B2.ext e'
  clear e'
  refine tl_alloc I67 hf (by decide) fun a b4 w e' hb4 hs4 B4 hf => ?_
  have hle4 := Nat.le_trans e.size (Nat.le_of_eq hb4.symm)
  have lt4_B2 := B2.lt
  have lt4_B3 := B3.lt
  replace e := Ext.tr e e'
  replace B2 := B2.ext e'
  replace B3 := B3.ext e'
  clear e'
  refine tl_nil ?_
  subst hv2
  subst hv3
  rw [setV_cells] at B2 B3
  simp only [Value.cells, zeroC] at B4
  repeat refine seq ?_
  refine regn 1 hf (by decide +kernel) ?_
  refine st (mv rfl) ?_
  refine en fun a w e' hf => ?_
  replace e := Ext.tr e e'
  replace B2 := B2.ext e'
  replace B3 := B3.ext e'
  replace B4 := B4.ext e'
  clear e'
  refine tl_nil ?_
  replace hf := hf.keep [2, 3, 4, 6]
  dsimp only [keep, List.filterMap, look, Nat.beq, Option.map] at hf
  repeat refine seq ?_
  refine blk (loopN (fun r a w => ∃ k : Nat, r = 16 - k ∧ k ≤ 16 ∧ Fr 19 a w [(2, E (.pointer (some ⟨b2, 0, none⟩))), (3, E (.pointer (some ⟨b3, 0, none⟩))), (4, E (.pointer (some ⟨b4, 0, none⟩))), (6, E (I k))] ∧ Ext W w ∧
    Blk w b2 (wordsC fun i => if i < k then word S i &&& ~~~word T i else word S i) 67 ∧ Blk w b3 (setC T) 67 ∧ Blk w b4 (setC 0) 67) 16 ⟨0, rfl, by omega, hf, e, ?_, B3, B4⟩ ?_)
  · simpa [setC] using B2
  clear hf e B2 B3 B4
  rintro r a w ⟨k, rfl, hk, hf, e, B2, B3, B4⟩
  by_cases hlt : k < 16
  · repeat refine seq ?_
    refine regn 1 hf (by decide +kernel) ?_
    refine st ((lss rfl rfl).eq (congrArg Value.bool (show decide ((k : Int) < 16) = true from decide_eq_true (by omega)))) ?_
    refine en fun a w e' hf => ?_
    replace e := Ext.tr e e'
    replace B2 := B2.ext e'
    replace B3 := B3.ext e'
    replace B4 := B4.ext e'
    clear e'
    refine tl_nil ?_
    repeat refine seq ?_
    refine ifc hf rfl (fun _ => wskip ?_) (fun h => by cases h)
    repeat refine seq ?_
    refine blk ?_
    repeat refine seq ?_
    refine regn 1 hf (by decide +kernel) ?_
    refine st (mv rfl) ?_
    refine en fun a w e' hf => ?_
    replace e := Ext.tr e e'
    replace B2 := B2.ext e'
    replace B3 := B3.ext e'
    replace B4 := B4.ext e'
    clear e'
    refine tl_as hf rfl (by decide) fun a hf => ?_
    refine tl_nil ?_
    have g2 : (wordsC fun i => if i < k then word S i &&& ~~~word T i else word S i)[k]? = some (Mono.W (word S k)) := by rw [wordsC_get _ _ hlt]; simp
    repeat refine seq ?_
    refine reg 8 Mix.mix hf (by decide +kernel) ?_
    refine st (mv rfl) ?_
    refine st (idxA Tryz.underlying67 ⟨_, T65⟩ rfl rfl (by omega)) ?_
    refine st (ld1 T65 rfl B2 (by simpa using g2)) ?_
    refine st (mv rfl) ?_
    refine st (idxA Tryz.underlying67 ⟨_, T65⟩ rfl rfl (by omega)) ?_
    refine st (ld1 T65 rfl B3 (by simpa [setC] using wordsC_get (word T) k hlt)) ?_
    refine st (andNotW rfl rfl) ?_
    refine st (idxA Tryz.underlying67 ⟨_, T65⟩ rfl rfl (by omega)) ?_
    refine en fun a w e' hf => ?_
    replace e := Ext.tr e e'
    replace B2 := B2.ext e'
    replace B3 := B3.ext e'
    replace B4 := B4.ext e'
    clear e'
    refine tl_st1 T65 hf rfl rfl rfl B2 (by rw [wordsC_size]; simp; omega) fun w hg hsz B2 hf => ?_
    replace e := e.gr hg (by omega)
    replace B3 := B3.gr hg (by omega)
    replace B4 := B4.gr hg (by omega)
    clear hg
    refine tl_nil ?_
    replace B2 : Blk w b2 (wordsC fun i => if i < k + 1 then word S i &&& ~~~word T i else word S i) 67 := by
      have : (wordsC fun i => if i < k then word S i &&& ~~~word T i else word S i).setIfInBounds k (Mono.W (word S k &&& ~~~word T k)) = wordsC fun i => if i < k + 1 then word S i &&& ~~~word T i else word S i := by
        rw [wordsC_set]
        refine wordsC_congr fun i hi => ?_
        by_cases h1 : i = k
        · subst h1; simp
        · simp only [h1, if_false]
          by_cases h2 : i < k
          · simp [h2, show i < k + 1 by omega]
          · simp [h2, show ¬ i < k + 1 by omega]
      rw [← this]
      simpa using B2
    replace hf := hf.keep [2, 3, 4, 6]
    dsimp only [keep, List.filterMap, look, Nat.beq, Option.map] at hf
    repeat refine seq ?_
    refine regn 1 hf (by decide +kernel) ?_
    refine st (add rfl rfl (by omega)) ?_
    refine en fun a w e' hf => ?_
    replace e := Ext.tr e e'
    replace B2 := B2.ext e'
    replace B3 := B3.ext e'
    replace B4 := B4.ext e'
    clear e'
    refine tl_op hf (by decide) (mv rfl) fun a w e' hf => ?_
    replace e := Ext.tr e e'
    replace B2 := B2.ext e'
    replace B3 := B3.ext e'
    replace B4 := B4.ext e'
    clear e'
    refine tl_nil ?_
    replace hf := hf.keep [2, 3, 4, 6]
    dsimp only [keep, List.filterMap, look, Nat.beq, Option.map] at hf
    exact ⟨16 - (k + 1), by omega, k + 1, rfl, by omega, by simpa using hf, e, B2, B3, B4⟩
  · obtain rfl : k = 16 := by omega
    repeat refine seq ?_
    refine regn 1 hf (by decide +kernel) ?_
    refine st ((lss rfl rfl).eq (congrArg Value.bool (show decide (((16 : Nat) : Int) < 16) = false from rfl))) ?_
    refine en fun a w e' hf => ?_
    replace e := Ext.tr e e'
    replace B2 := B2.ext e'
    replace B3 := B3.ext e'
    replace B4 := B4.ext e'
    clear e'
    refine tl_nil ?_
    repeat refine seq ?_
    refine ifc hf rfl (fun h => by cases h) (fun _ => wexit ?_)
    simp only [Exit.then, Exit.inBlock, ↓reduceIte]
    have hC : (wordsC fun i => if i < 16 then word S i &&& ~~~word T i else word S i) = setC (S &&& ~~~T) := wordsC_congr fun i hi => by
      simp only [hi, if_true, word_diff]
    rw [hC] at B2
    repeat refine seq ?_
    refine regn 1 hf (by decide +kernel) ?_
    refine st (ldW T67 rfl (by assumption) rfl) ?_
    refine en fun a w e' hf => ?_
    replace e := Ext.tr e e'
    replace B2 := B2.ext e'
    replace B3 := B3.ext e'
    replace B4 := B4.ext e'
    clear e'
    haveI hinr : ∀ G0, InR (GB W G0) (some b4) := fun G0 => InR.gb (by omega)
    refine tl_stW T67 hf rfl rfl (wordsC_one _) B4 rfl (rfl) fun w hg hsz B4 hf => ?_
    replace e := e.gr hg (by omega)
    replace B2 := B2.gr hg (by omega)
    replace B3 := B3.gr hg (by omega)
    clear hg
    refine tl_nil ?_
    refine wret (retS rfl T67 hf rfl B4 e rfl)

theorem isEmpty_spec (S : BS) (W : World) : Calls Tryz.prog 71 #[setV S] W (Post (E (B (S == 0))) W) := by
  refine enter (args := [setV S]) (As := [E (setV S)]) Tryz.func71 rfl Tryz.ntmps71 (Nat.le_of_ble_eq_true rfl) ?_ (fun a hf => ?_) (Nat.le_of_ble_eq_true rfl)
  rotate_left
  dsimp only [params, Nat.reduceAdd] at hf
  rotate_right
  · exact arg1 rfl
  have e := Ext.rfl' W
  repeat refine seq ?_
  refine regn0 ?_
  refine tl_box hf rfl (by decide) fun a b1 w v1 hv1 e' hb1 hs1 B1 hf => ?_
  have hle1 := Nat.le_trans e.size (Nat.le_of_eq hb1.symm)
  replace e := Ext.tr e e'
  clear e'
  refine tl_as hf rfl (by decide) fun a hf => ?_
  refine tl_nil ?_
  subst hv1
  simp only [setV_cells] at B1
  repeat refine seq ?_
  refine regn 3 hf (by decide +kernel) ?_
  refine st (ldW T67 rfl (by assumption) rfl) ?_
  refine st ((bld0 Bz67).eq (z16_eq)) ?_
  refine st (eqS (S := S) (T := 0) Tryz.underlying67 Tryz.underlying65 T65 (by kernel_rfl) rfl rfl) ?_
  refine en fun a w e' hf => ?_
  replace e := Ext.tr e e'
  replace B1 := B1.ext e'
  clear e'
  refine tl_as hf rfl (by decide) fun a hf => ?_
  refine tl_nil ?_
  refine wret (ret1 rfl hf rfl ?_)
  rintro v rfl
  exact ⟨_, rfl, e, rfl⟩

theorem subset_spec (S T : BS) (W : World) : Calls Tryz.prog 73 #[setV S, setV T] W (Post (E (B (S &&& ~~~T == 0))) W) := by
  refine enter (args := [setV S, setV T]) (As := [E (setV S), E (setV T)]) Tryz.func73 rfl Tryz.ntmps73 (Nat.le_of_ble_eq_true rfl) ?_ (fun a hf => ?_) (Nat.le_of_ble_eq_true rfl)
  rotate_left
  dsimp only [params, Nat.reduceAdd] at hf
  rotate_right
  · exact arg2 rfl rfl
  have e := Ext.rfl' W
  repeat refine seq ?_
  refine regn0 ?_
  refine tl_box hf rfl (by decide) fun a b2 w v2 hv2 e' hb2 hs2 B2 hf => ?_
  have hle2 := Nat.le_trans e.size (Nat.le_of_eq hb2.symm)
  replace e := Ext.tr e e'
  clear e'
  refine tl_box hf rfl (by decide) fun a b3 w v3 hv3 e' hb3 hs3 B3 hf => ?_
  have hle3 := Nat.le_trans e.size (Nat.le_of_eq hb3.symm)
  have lt3_B2 := B2.lt
  replace e := Ext.tr e e'
  replace B2 := B2.ext e'
  clear e'
  refine tl_as hf rfl (by decide) fun a hf => ?_
  refine tl_nil ?_
  subst hv2
  subst hv3
  simp only [setV_cells] at B2 B3
  repeat refine seq ?_
  refine regn 4 hf (by decide +kernel) ?_
  refine st (ldW T67 rfl (by assumption) rfl) ?_
  refine st (ldW T67 rfl (by assumption) rfl) ?_
  refine st (call2 En82 rfl rfl (fun v u w _ h h' => by cases h; cases h'; exact minus_spec S T w)) ?_
  refine st (call1 En71 rfl (fun v w _ h => by cases h; exact isEmpty_spec _ w)) ?_
  refine en fun a w e' hf => ?_
  replace e := Ext.tr e e'
  replace B2 := B2.ext e'
  replace B3 := B3.ext e'
  clear e'
  refine tl_as hf rfl (by decide) fun a hf => ?_
  refine tl_nil ?_
  refine wret (ret1 rfl hf rfl ?_)
  rintro v rfl
  exact ⟨_, rfl, e, rfl⟩
end Go.Mono

namespace Go.Mono
open Go Go.Proofs Go.RowKit

/-- the vertices of bag i that the bag above does not have -/
def topsS (t : List (Int × BS)) (i : Nat) : BS := if (bg t i).1 = -1 then (bg t i).2 else (bg t i).2 &&& ~~~(bg t (bg t i).1.toNat).2

theorem topsS_spec {G : Nat → Prop} (t : List (Int × BS)) (i : Nat) (v : Value) (W : World) (h : (Dv treeE G t).p v W) (hr : Rng t) (hi : i < t.length) :
    Calls Tryz.prog 69 #[v, I (i : Nat)] W (Post (E (setV (topsS t i))) W) := by
  have hri := hr i hi
  refine enter (args := [v, I (i : Nat)]) (As := [Dv treeE (GB W G) t, E (I (i : Nat))]) Tryz.func69 rfl Tryz.ntmps69 (Nat.le_of_ble_eq_true rfl) ?_ (fun a hf => ?_) (Nat.le_of_ble_eq_true rfl)
  rotate_left
  dsimp only [params, Nat.reduceAdd] at hf
  rotate_right
  · exact arg2 (Dv.toB h) rfl
  have e := Ext.rfl' W
  repeat refine seq ?_
  refine regn0 ?_
  refine tl_alloc I67 hf (by decide) fun a b4 w e' hb4 hs4 B4 hf => ?_
  have hle4 := Nat.le_trans e.size (Nat.le_of_eq hb4.symm)
  replace e := Ext.tr e e'
  clear e'
  refine tl_nil ?_
  simp only [Value.cells, zeroC] at B4
  repeat refine seq ?_
  refine regn0 ?_
  refine tl_op hf (by decide) (mv rfl) fun a w e' hf => ?_
  replace e := Ext.tr e e'
  replace B4 := B4.ext e'
  clear e'
  refine tl_op hf (by decide) (mv rfl) fun a w e' hf => ?_
  replace e := Ext.tr e e'
  replace B4 := B4.ext e'
  clear e'
  refine tl_op hf (by decide) (idxD Tryz.underlying23 S70 (isR rfl) rfl (by omega) (bg_get hi)) fun a w e' hf => ?_
  replace e := Ext.tr e e'
  replace B4 := B4.ext e'
  clear e'
  refine tl_op hf (by decide) (ldBag T70 (isR rfl)) fun a w e' hf => ?_
  replace e := Ext.tr e e'
  replace B4 := B4.ext e'
  clear e'
  refine tl_alloc I70 hf (by decide) fun a b5 w e' hb5 hs5 B5 hf => ?_
  have hle5 := Nat.le_trans e.size (Nat.le_of_eq hb5.symm)
  have lt5_B4 := B4.lt
  replace e := Ext.tr e e'
  replace B4 := B4.ext e'
  clear e'
  haveI hinr : ∀ G0, InR (GB W G0) (some b5) := fun G0 => InR.gb (by omega)
  refine tl_stW T70 hf rfl rfl (bagC_one _) B5 rfl (bagC_size _) fun w hg hsz B5 hf => ?_
  replace e := e.gr hg (by omega)
  replace B4 := B4.gr hg (by omega)
  clear hg
  refine tl_nil ?_
  have hne : b4 ≠ b5 := by omega
  repeat refine seq ?_
  refine regn 3 hf (by decide +kernel) ?_
  refine st (fldA Tryz.underlying70 rfl T3 (by decide) rfl) ?_
  refine st (ld1 T3 rfl B5 (bagC_0 _)) ?_
  refine st (eql rfl rfl) ?_
  refine en fun a w e' hf => ?_
  replace e := Ext.tr e e'
  replace B4 := B4.ext e'
  replace B5 := B5.ext e'
  clear e'
  refine tl_nil ?_
  repeat refine seq ?_
  refine ifc hf rfl (fun hb => ?_) (fun hb => ?_)
  · have hb' : (bg t i).1 = -1 := by simpa using hb
    replace hf := hf.keep [4, 5]
    dsimp only [keep, List.filterMap, look, Nat.beq, Option.map] at hf
    repeat refine seq ?_
    refine regn 2 hf (by decide +kernel) ?_
    refine st (fldA Tryz.underlying70 rfl T67 (by decide) rfl) ?_
    refine st ((ldP T67 rfl B5 (bagC_le _)).eq (bagC_1 _)) ?_
    refine en fun a w e' hf => ?_
    replace e := Ext.tr e e'
    replace B4 := B4.ext e'
    replace B5 := B5.ext e'
    clear e'
    haveI hinr : ∀ G0, InR (GB W G0) (some b4) := fun G0 => InR.gb (by omega)
    refine tl_stW T67 hf rfl rfl (wordsC_one _) B4 rfl (rfl) fun w hg hsz B4 hf => ?_
    replace e := e.gr hg (by omega)
    replace B5 := B5.gr hg (by omega)
    clear hg
    refine tl_nil ?_
    refine wret (retS rfl T67 hf rfl B4 e ?_)
    rw [topsS, if_pos hb']
  · have hb' : (bg t i).1 ≠ -1 := by simpa using hb
    refine wskip ?_
    try simp only [Exit.then, Exit.inBlock, ↓reduceIte]
    repeat refine seq ?_
    refine reg 9 Mix.mix hf (by decide +kernel) ?_
    refine st (fldA Tryz.underlying70 rfl T67 (by decide) rfl) ?_
    refine st ((ldP T67 rfl B5 (bagC_le _)).eq (bagC_1 _)) ?_
    refine st (mv rfl) ?_
    refine st (fldA Tryz.underlying70 rfl T3 (by decide) rfl) ?_
    refine st (ld1 T3 rfl B5 (bagC_0 _)) ?_
    refine st (idxD Tryz.underlying23 S70 (isR rfl) rfl (by omega) (bg_get (i := (bg t i).1.toNat) (by omega))) ?_
    refine st (fldD Tryz.underlying70 rfl T67 (by decide) (Fld.snd Fld.refl rfl) (isR rfl)) ?_
    refine st (ldS T67 (isR rfl)) ?_
    refine st (call2 En82 rfl rfl (fun v u w he h h' => by cases h; cases h'; exact minus_spec _ _ w)) ?_
    refine en fun a w e' hf => ?_
    replace e := Ext.tr e e'
    replace B4 := B4.ext e'
    replace B5 := B5.ext e'
    clear e'
    haveI hinr : ∀ G0, InR (GB W G0) (some b4) := fun G0 => InR.gb (by omega)
    refine tl_stW T67 hf rfl rfl (wordsC_one _) B4 rfl (rfl) fun w hg hsz B4 hf => ?_
    replace e := e.gr hg (by omega)
    replace B5 := B5.gr hg (by omega)
    clear hg
    refine tl_nil ?_
    refine wret (retS rfl T67 hf rfl B4 e ?_)
    rw [topsS, if_neg hb']

/-- what the walk of Check leans on: depths ends, and counts no more than there are -/
structure Dp (t : List (Int × BS)) (f : Nat) : Prop where
  fb : f ≤ 50000
  hh : ∀ b ∈ rootN t, hgt (kN t) f b
  le : (depthsF t f (rootN t)).2 ≤ 100000
def seenTo (t : List (Int × BS)) : Nat → BS
  | 0 => 0
  | k + 1 => seenTo t k ||| topsS t k
open Classical in
noncomputable def chkT (t : List (Int × BS)) (f : Nat) : Int :=
  if t.length = 0 then 2 else
  if ¬ Rng t then 3 else
  if ¬ (rootN t).length = 1 then 3 else
  if ¬ (depthsF t f (rootN t)).2 = (t.length : Nat) then 15 else
  if ¬ ∀ i, i < t.length → topsS t i &&& seenTo t i = 0 then 7 else 0
theorem fstB_neg {p : Int × BS → Bool} {t : List (Int × BS)} : decide (0 ≤ fstB p t) = false ↔ ∀ i, i < t.length → p (bg t i) = false := by
  constructor
  · intro h i hi
    cases hp : p (bg t i)
    · rfl
    · exfalso
      obtain ⟨m, hm, hmin⟩ := least (p := fun j => j < t.length ∧ p (bg t j) = true) ⟨i, hi, hp⟩
      have : fstB p t = (m : Nat) := fstN_hit hm.1 (fun j hj => by
        cases ht : p (bg t j)
        · rfl
        · exact absurd ⟨by omega, ht⟩ (hmin j hj)) hm.2
      rw [this] at h
      exact absurd h (by simp)
  · intro h
    rw [fstB, fstN_none h]; rfl

theorem chkT_spec {G : Nat → Prop} (t : List (Int × BS)) (f : Nat) (v : Value) (W : World) (h : (Dv treeE G t).p v W) (hl : t.length ≤ 4096)
    (hd : Rng t → (rootN t).length = 1 → Dp t f) :
    Calls Tryz.prog 25 #[v] W (Post (E (I (chkT t f))) W) := by
  refine enter (args := [v]) (As := [Dv treeE (GB W G0) t]) Tryz.func25 rfl Tryz.ntmps25 (Nat.le_of_ble_eq_true rfl) ?_ (fun a hf => ?_) (Nat.le_of_ble_eq_true rfl)
  rotate_left
  dsimp only [params, Nat.reduceAdd] at hf
  rotate_right
  · exact arg1 (Dv.toB (Dv.weak h fun b _ hb => hb.elim))
  have e := Ext.rfl' W
  repeat refine seq ?_
  refine regn0 ?_
  refine tl_box hf rfl (by decide) fun a b1 w v1 hv1 e' hb1 hs1 B1 hf => ?_
  have hle1 := Nat.le_trans e.size (Nat.le_of_eq hb1.symm)
  replace e := Ext.tr e e'
  clear e'
  refine tl_as hf rfl (by decide) fun a hf => ?_
  refine tl_nil ?_
  rw [one_cells (Dv.slOne hv1)] at B1
  have HV := Dv.ex hv1 e
  cases h0 : (((t.length : Nat) : Int) == 0)
  rotate_left
  · have h0' : t.length = 0 := by have : ((t.length : Nat) : Int) = 0 := by simpa using h0
                                  omega
    repeat refine seq ?_
    refine regn 8 hf (by decide +kernel) ?_
    refine st (ld1 T23 rfl (by assumption) rfl) ?_
    refine st (lenD Tryz.underlying23 (isE rfl HV)) ?_
    refine st ((eql rfl rfl).eq (congrArg Value.bool (h0))) ?_
    refine st (mv rfl) ?_
    refine sn rfl rfl rfl ?_
    refine sn rfl rfl rfl ?_
    refine sn rfl rfl rfl ?_
    refine st (pkT rfl rfl) ?_
    refine en fun a w e' hf => ?_
    replace HV := Dv.ex HV e'
    replace e := Ext.tr e e'
    replace B1 := B1.ext e'
    clear e'
    refine tl_nil ?_
    repeat refine seq ?_
    refine ifc hf rfl (fun _ => ?_) (fun h => by cases h)
    repeat refine seq ?_
    refine regn0 ?_
    refine tl_as hf rfl (by decide) fun a hf => ?_
    refine tl_nil ?_
    refine wret ?_
    try simp only [Exit.then, Exit.inBlock]
    refine ret1 rfl hf rfl ?_
    rintro _ rfl
    exact ⟨_, rfl, e, congrArg I (by rw [chkT, if_pos h0'])⟩
  have h0' : ¬ t.length = 0 := by
    have : ¬ ((t.length : Nat) : Int) = 0 := by simpa using h0
    omega
  repeat refine seq ?_
  refine regn 8 hf (by decide +kernel) ?_
  refine st (ld1 T23 rfl (by assumption) rfl) ?_
  refine st (lenD Tryz.underlying23 (isE rfl HV)) ?_
  refine st ((eql rfl rfl).eq (congrArg Value.bool (h0))) ?_
  refine st (mv rfl) ?_
  refine sy rfl rfl (ld1 T23 rfl (by assumption) rfl) ?_
  refine sy rfl rfl (lenD Tryz.underlying23 (isE rfl HV)) ?_
  refine sy rfl rfl ((gtr rfl rfl).eq (congrArg Value.bool (show decide ((4096 : Int) < (t.length : Nat)) = false from decide_eq_false (by omega)))) ?_
  refine st (pkF rfl rfl) ?_
  refine en fun a w e' hf => ?_
  replace HV := Dv.ex HV e'
  replace e := Ext.tr e e'
  replace B1 := B1.ext e'
  clear e'
  refine tl_nil ?_
  repeat refine seq ?_
  refine ifc hf rfl (fun h => by cases h) (fun _ => ?_)
  refine wskip ?_
  try simp only [Exit.then, Exit.inBlock, ↓reduceIte]
  replace hf := hf.keep [1]
  dsimp only [keep, List.filterMap, look, Nat.beq, Option.map] at hf
  cases h1 : decide (0 ≤ fstB (fun b => decide (b.1 < -1 ∨ (t.length : Int) ≤ b.1)) t)
  rotate_left
  · repeat refine seq ?_
    refine regn 9 hf (by decide +kernel) ?_
    refine st (ld1 T23 rfl (by assumption) rfl) ?_
    refine st (makeF1 rfl) ?_
    refine st ((call2 En65 rfl rfl (fun v u w he h h' => by cases h; cases h'; exact containsFunc_spec t _ _ _ (fun b => decide (b.1 < -1 ∨ (t.length : Int) ≤ b.1)) w En66 (Dv.ex HV he) (fun w' b he' => by simpa using check1_spec b b1 t _ w' (B1.ext (Ext.tr he he')) (Dv.ex HV (Ext.tr he he')) hl) hl)).eq (congrArg Value.bool (h1))) ?_
    refine st (mv rfl) ?_
    refine sn rfl rfl rfl ?_
    refine sn rfl rfl rfl ?_
    refine sn rfl rfl rfl ?_
    refine sn rfl rfl rfl ?_
    refine st (pkT rfl rfl) ?_
    refine en fun a w e' hf => ?_
    replace HV := Dv.ex HV e'
    replace e := Ext.tr e e'
    replace B1 := B1.ext e'
    clear e'
    refine tl_nil ?_
    repeat refine seq ?_
    refine ifc hf rfl (fun _ => ?_) (fun h => by cases h)
    repeat refine seq ?_
    refine regn0 ?_
    refine tl_as hf rfl (by decide) fun a hf => ?_
    refine tl_nil ?_
    have hn : ¬ Rng t := fun hr => by
      have := (fstB_neg (p := fun b => decide (b.1 < -1 ∨ (t.length : Int) ≤ b.1)) (t := t)).2 (fun i hi => decide_eq_false (by have := hr i hi; omega))
      rw [h1] at this; cases this
    refine wret ?_
    try simp only [Exit.then, Exit.inBlock]
    refine ret1 rfl hf rfl ?_
    rintro _ rfl
    exact ⟨_, rfl, e, congrArg I (by rw [chkT, if_neg h0', if_pos hn])⟩
  have hr : Rng t := fun i hi => by
    have := of_decide_eq_false (fstB_neg.1 h1 i hi)
    omega
  have c1 := Classical.not_not.2 hr
  repeat refine seq ?_
  refine regn 9 hf (by decide +kernel) ?_
  refine st (ld1 T23 rfl (by assumption) rfl) ?_
  refine st (makeF1 rfl) ?_
  refine st ((call2 En65 rfl rfl (fun v u w he h h' => by cases h; cases h'; exact containsFunc_spec t _ _ _ (fun b => decide (b.1 < -1 ∨ (t.length : Int) ≤ b.1)) w En66 (Dv.ex HV he) (fun w' b he' => by simpa using check1_spec b b1 t _ w' (B1.ext (Ext.tr he he')) (Dv.ex HV (Ext.tr he he')) hl) hl)).eq (congrArg Value.bool (h1))) ?_
  refine st (mv rfl) ?_
  refine sy rfl rfl (ld1 T23 rfl (by assumption) rfl) ?_
  refine sy rfl rfl (call1 En67 rfl (fun v w he h => by cases h; exact roots_spec (G := G0) t _ w (Dv.weak (Dv.ex HV he) fun b _ hb => hb.elim) (fun b hb => hb.elim) hl)) ?_
  refine sy rfl rfl (lenD Tryz.underlying59 (isR rfl)) ?_
  refine sy rfl rfl (neq rfl rfl) ?_
  refine st (pkF rfl rfl) ?_
  refine en fun a w e' hf => ?_
  replace HV := Dv.ex HV e'
  replace e := Ext.tr e e'
  replace B1 := B1.ext e'
  clear e'
  refine tl_nil ?_
  have hrl : (rootsT t).length = (rootN t).length := by rw [rootsT_eq, List.length_map]
  repeat refine seq ?_
  refine ifc hf rfl (fun hb => ?_) (fun hb => ?_)
  · have hb' : ¬ (rootN t).length = 1 := by
      have : ¬ ((rootsT t).length : Int) = 1 := by simpa using hb
      omega
    repeat refine seq ?_
    refine regn0 ?_
    refine tl_as hf rfl (by decide) fun a hf => ?_
    refine tl_nil ?_
    refine wret ?_
    try simp only [Exit.then, Exit.inBlock]
    refine ret1 rfl hf rfl ?_
    rintro _ rfl
    exact ⟨_, rfl, e, congrArg I (by rw [chkT, if_neg h0', if_neg c1, if_pos hb'])⟩
  have hb' : (rootN t).length = 1 := by
    have : ((rootsT t).length : Int) = 1 := by simpa using hb
    omega
  have c2 := Classical.not_not.2 hb'
  have hdp := hd hr hb'
  refine wskip ?_
  try simp only [Exit.then, Exit.inBlock, ↓reduceIte]
  replace hf := hf.keep [1]
  dsimp only [keep, List.filterMap, look, Nat.beq, Option.map] at hf
  repeat refine seq ?_
  refine regn 5 hf (by decide +kernel) ?_
  refine st (ld1 T23 rfl (by assumption) rfl) ?_
  refine st (call1 En68 rfl (fun v w he h => by cases h; exact depths_spec (G := G0) t f _ w (Dv.weak (Dv.ex HV he) fun b _ hb => hb.elim) (fun b hb => hb.elim) hl hr hdp.hh hdp.fb hdp.le)) ?_
  refine st (mv rfl) ?_
  refine st (ext_ rfl rfl) ?_
  refine st (ext_ rfl rfl) ?_
  refine en fun a w e' hf => ?_
  replace HV := Dv.ex HV e'
  replace e := Ext.tr e e'
  replace B1 := B1.ext e'
  clear e'
  refine tl_as hf rfl (by decide) fun a hf => ?_
  refine tl_as hf rfl (by decide) fun a hf => ?_
  refine tl_nil ?_
  repeat refine seq ?_
  refine regn 2 hf (by decide +kernel) ?_
  refine st (mv rfl) ?_
  refine st (notp rfl) ?_
  refine en fun a w e' hf => ?_
  replace HV := Dv.ex HV e'
  replace e := Ext.tr e e'
  replace B1 := B1.ext e'
  clear e'
  refine tl_nil ?_
  replace hf := hf.keep [1, 31]
  dsimp only [keep, List.filterMap, look, Nat.beq, Option.map] at hf
  repeat refine seq ?_
  refine ifc hf rfl (fun hb => ?_) (fun hb => ?_)
  · have hb2 : ¬ (depthsF t f (rootN t)).2 = (t.length : Nat) := by simpa using hb
    repeat refine seq ?_
    refine regn0 ?_
    refine tl_as hf rfl (by decide) fun a hf => ?_
    refine tl_nil ?_
    refine wret ?_
    try simp only [Exit.then, Exit.inBlock]
    refine ret1 rfl hf rfl ?_
    rintro _ rfl
    exact ⟨_, rfl, e, congrArg I (by rw [chkT, if_neg h0', if_neg c1, if_neg c2, if_pos hb2])⟩
  have hb2 : (depthsF t f (rootN t)).2 = (t.length : Nat) := by simpa using hb
  have c3 := Classical.not_not.2 hb2
  refine wskip ?_
  try simp only [Exit.then, Exit.inBlock, ↓reduceIte]
  replace hf := hf.keep [1]
  dsimp only [keep, List.filterMap, look, Nat.beq, Option.map] at hf
  repeat refine seq ?_
  refine regn0 ?_
  refine tl_alloc I67 hf (by decide) fun a b5 w e' hb5 hs5 B5 hf => ?_
  have hle5 := Nat.le_trans e.size (Nat.le_of_eq hb5.symm)
  have lt5_B1 := B1.lt
  replace HV := Dv.ex HV e'
  replace e := Ext.tr e e'
  replace B1 := B1.ext e'
  clear e'
  refine tl_nil ?_
  simp only [Value.cells, zeroC] at B5
  have hne : b1 ≠ b5 := by have := B1.lt; omega
  clear hb h1 h0 hb2 hrl
  repeat refine seq ?_
  refine regn 3 hf (by decide +kernel) ?_
  refine st (ld1 T23 rfl (by assumption) rfl) ?_
  refine st (lenD Tryz.underlying23 (isE rfl HV)) ?_
  refine st (mv rfl) ?_
  refine en fun a w e' hf => ?_
  replace HV := Dv.ex HV e'
  replace e := Ext.tr e e'
  replace B1 := B1.ext e'
  replace B5 := B5.ext e'
  clear e'
  refine tl_nil ?_
  replace hf := hf.keep [1, 5, 33, 34]
  dsimp only [keep, List.filterMap, look, Nat.beq, Option.map] at hf
  repeat refine seq ?_
  refine blk (loopN (fun r0 a w => ∃ (k : Nat) , r0 = t.length - k ∧ k ≤ t.length ∧ Fr 49 a w [(1, E (.pointer (some ⟨b1, 0, none⟩))), (5, E (.pointer (some ⟨b5, 0, none⟩))), (33, E (I (t.length : Nat))), (34, E (I k))] ∧ Ext W w ∧ Blk w b1 #[v1] 23 ∧ Blk w b5 (setC (seenTo t k)) 67 ∧ (Dv treeE (GB W G0) t).p v1 w ∧ ∀ i, i < k → topsS t i &&& seenTo t i = 0) t.length ⟨0, rfl, by omega, hf, e, B1, B5, HV, (fun i hi => by omega)⟩ ?_)
  clear hf e; try clear B1; try clear B5; try clear HV; try clear Ho
  rintro r0 a w ⟨k, rfl, hk, hf, e, B1, B5, HV, Ho⟩
  repeat refine seq ?_
  refine regn 1 hf (by decide +kernel) ?_
  refine st (lss rfl rfl) ?_
  refine en fun a w e' hf => ?_
  replace HV := Dv.ex HV e'
  replace e := Ext.tr e e'
  replace B1 := B1.ext e'
  replace B5 := B5.ext e'
  clear e'
  refine tl_nil ?_
  repeat refine seq ?_
  refine ifc hf rfl (fun hc => wskip ?_) (fun hc => wexit ?_)
  rotate_left
  rotate_left
  · have hlt : k < t.length := by have := of_decide_eq_true hc; (try dsimp only at this); omega
    clear hc
    replace hf := hf.keep [1, 5, 33, 34]
    dsimp only [keep, List.filterMap, look, Nat.beq, Option.map] at hf
    repeat refine seq ?_
    refine blk ?_
    repeat refine seq ?_
    refine regn 1 hf (by decide +kernel) ?_
    refine st (mv rfl) ?_
    refine en fun a w e' hf => ?_
    replace HV := Dv.ex HV e'
    replace e := Ext.tr e e'
    replace B1 := B1.ext e'
    replace B5 := B5.ext e'
    clear e'
    refine tl_as hf rfl (by decide) fun a hf => ?_
    refine tl_nil ?_
    repeat refine seq ?_
    refine regn 3 hf (by decide +kernel) ?_
    refine st (ld1 T23 rfl (by assumption) rfl) ?_
    refine st (mv rfl) ?_
    refine st (call2 En69 rfl rfl (fun v u w he h h' => by cases h; cases h'; exact topsS_spec t k _ w (Dv.ex HV he) hr hlt)) ?_
    refine en fun a w e' hf => ?_
    replace HV := Dv.ex HV e'
    replace e := Ext.tr e e'
    replace B1 := B1.ext e'
    replace B5 := B5.ext e'
    clear e'
    refine tl_alloc I67 hf (by decide) fun a b7 w e' hb7 hs7 B7 hf => ?_
    have hle7 := Nat.le_trans e.size (Nat.le_of_eq hb7.symm)
    have lt7_B1 := B1.lt
    have lt7_B5 := B5.lt
    replace HV := Dv.ex HV e'
    replace e := Ext.tr e e'
    replace B1 := B1.ext e'
    replace B5 := B5.ext e'
    clear e'
    haveI hinr : ∀ G0, InR (GB W G0) (some b7) := fun G0 => InR.gb (by omega)
    refine tl_stW T67 hf rfl rfl (wordsC_one _) B7 rfl (rfl) fun w hg hsz B7 hf => ?_
    replace HV := Dv.gr HV hg (.inr (by omega))
    replace e := e.gr hg (by omega)
    replace B1 := B1.gr hg (by omega)
    replace B5 := B5.gr hg (by omega)
    clear hg
    refine tl_nil ?_
    have hne7 : b7 ≠ b5 ∧ b7 ≠ b1 := by omega
    replace hf := hf.keep [1, 5, 7, 33, 34]
    dsimp only [keep, List.filterMap, look, Nat.beq, Option.map] at hf
    repeat refine seq ?_
    refine regn 5 hf (by decide +kernel) ?_
    refine st (ldW T67 rfl (by assumption) rfl) ?_
    refine st (ldW T67 rfl (by assumption) rfl) ?_
    refine st (call2 En70 rfl rfl (fun v u w he h h' => by cases h; cases h'; exact inter_spec _ _ w)) ?_
    refine st (call1 En71 rfl (fun v w he h => by cases h; exact isEmpty_spec _ w)) ?_
    refine st (notp rfl) ?_
    refine en fun a w e' hf => ?_
    replace HV := Dv.ex HV e'
    replace e := Ext.tr e e'
    replace B1 := B1.ext e'
    replace B5 := B5.ext e'
    replace B7 := B7.ext e'
    clear e'
    refine tl_nil ?_
    repeat refine seq ?_
    refine ifc hf rfl (fun hb => ?_) (fun hb => ?_)
    · have hb3 : ¬ topsS t k &&& seenTo t k = 0 := by simpa using hb
      repeat refine seq ?_
      refine regn0 ?_
      refine tl_as hf rfl (by decide) fun a hf => ?_
      refine tl_nil ?_
      refine wret ?_
      try simp only [Exit.then, Exit.inBlock]
      refine ret1 rfl hf rfl ?_
      rintro _ rfl
      exact ⟨_, rfl, e, congrArg I (by rw [chkT, if_neg h0', if_neg c1, if_neg c2, if_neg c3, if_pos (fun h => hb3 (h k hlt))])⟩
    · have hb3 : topsS t k &&& seenTo t k = 0 := by simpa using hb
      refine wskip ?_
      try simp only [Exit.then, Exit.inBlock, ↓reduceIte]
      replace hf := hf.keep [1, 5, 7, 33, 34]
      dsimp only [keep, List.filterMap, look, Nat.beq, Option.map] at hf
      repeat refine seq ?_
      refine regn 3 hf (by decide +kernel) ?_
      refine st (ldW T67 rfl (by assumption) rfl) ?_
      refine st (ldW T67 rfl (by assumption) rfl) ?_
      refine st (call2 En59 rfl rfl (fun v u w he h h' => by cases h; cases h'; exact union_spec _ _ w)) ?_
      refine en fun a w e' hf => ?_
      replace HV := Dv.ex HV e'
      replace e := Ext.tr e e'
      replace B1 := B1.ext e'
      replace B5 := B5.ext e'
      replace B7 := B7.ext e'
      clear e'
      haveI hinr : ∀ G0, InR (GB W G0) (some b5) := fun G0 => InR.gb (by omega)
      refine tl_stW T67 hf rfl rfl (wordsC_one _) B5 rfl (rfl) fun w hg hsz B5 hf => ?_
      replace HV := Dv.gr HV hg (.inr (by omega))
      replace e := e.gr hg (by omega)
      replace B1 := B1.gr hg (by omega)
      replace B7 := B7.gr hg (by omega)
      clear hg
      refine tl_nil ?_
      try simp only [Exit.then, Exit.inBlock, ↓reduceIte]
      try simp only [Exit.then, Exit.inBlock, ↓reduceIte]
      repeat refine seq ?_
      refine regn 1 hf (by decide +kernel) ?_
      refine st ((add rfl rfl (by omega)).eq (congrArg (Value.int .i64) (show (k : Int) + 1 = ((k + 1 : Nat) : Int) from rfl))) ?_
      refine en fun a w e' hf => ?_
      replace HV := Dv.ex HV e'
      replace e := Ext.tr e e'
      replace B1 := B1.ext e'
      replace B5 := B5.ext e'
      replace B7 := B7.ext e'
      clear e'
      refine tl_op hf (by decide) (mv rfl) fun a w e' hf => ?_
      replace HV := Dv.ex HV e'
      replace e := Ext.tr e e'
      replace B1 := B1.ext e'
      replace B5 := B5.ext e'
      replace B7 := B7.ext e'
      clear e'
      refine tl_nil ?_
      replace hf := hf.keep [1, 5, 33, 34]
      dsimp only [keep, List.filterMap, look, Nat.beq, Option.map] at hf
      refine ⟨_, ?_, k + 1, rfl, by omega, hf, e, ?_⟩
      · omega
      refine ⟨B1, B5, HV, fun i hi => ?_⟩
      by_cases hk : i = k
      · subst hk; exact hb3
      · exact Ho i (by omega)
  · obtain rfl : k = t.length := by have := of_decide_eq_false hc; (try dsimp only at this); omega
    clear hc
    simp only [Exit.then, Exit.inBlock, ↓reduceIte]
    repeat refine seq ?_
    refine regn0 ?_
    refine tl_as hf rfl (by decide) fun a hf => ?_
    refine tl_nil ?_
    refine wret ?_
    try simp only [Exit.then, Exit.inBlock]
    refine ret1 rfl hf rfl ?_
    rintro _ rfl
    exact ⟨_, rfl, e, congrArg I (by rw [chkT, if_neg h0', if_neg c1, if_neg c2, if_neg c3, if_neg (Classical.not_not.2 Ho)])⟩
end Go.Mono

namespace Go.Mono
open Go Go.Proofs Go.RowKit

structure Vals (xs : List RB) : Prop where
  range : ∀ i, i < xs.length → -1 ≤ up xs i ∧ up xs i < xs.length
  root : (selN (fun i => decide (up xs i < 0)) xs.length).length = 1
  loop : ∀ i, i < xs.length → (above xs i).isSome = true
  dup : ∀ i, i < xs.length → ∀ id ∈ hs xs i, (topsR xs id).length = 1
open Classical in
/-- the error's number -/
noncomputable def chkR (xs : List RB) : Int :=
  if xs.length < 1 then 2 else
  if ¬ ∀ i, i < xs.length → -1 ≤ up xs i ∧ up xs i < xs.length then 3 else
  if ¬ (selN (fun i => decide (up xs i < 0)) xs.length).length = 1 then 3 else
  if ¬ ∀ i, i < xs.length → (above xs i).isSome = true then 15 else
  if ¬ ∀ i, i < xs.length → ∀ id ∈ hs xs i, (topsR xs id).length = 1 then 7 else 0
theorem chkR_ok {xs : List RB} : chkR xs = 0 ↔ 0 < xs.length ∧ Vals xs := by
  unfold chkR
  constructor
  · intro h
    split at h
    · cases h
    · split at h
      · cases h
      · split at h
        · cases h
        · split at h
          · cases h
          · split at h
            · cases h
            · rename_i h1 h2 h3 h4 h5
              exact ⟨by omega, ⟨Classical.not_not.1 h2, Classical.not_not.1 h3, Classical.not_not.1 h4, Classical.not_not.1 h5⟩⟩
  · rintro ⟨h0, h⟩
    rw [if_neg (by omega), if_neg (Classical.not_not.2 h.range), if_neg (Classical.not_not.2 h.root), if_neg (Classical.not_not.2 h.loop), if_neg (Classical.not_not.2 h.dup)]

end Go.Mono

namespace Go.Mono

theorem abv_mono {xs : List RB} : ∀ {f : Nat} {a : Int} {l : List Int}, abv xs f a = some l → abv xs (f + 1) a = some l
  | 0, a, l, h => by
    by_cases ha : a < 0
    · rw [abv, if_pos ha] at h; rw [abv, if_pos ha]; exact h
    · rw [abv, if_neg ha] at h; cases h
  | f + 1, a, l, h => by
    by_cases ha : a < 0
    · rw [abv, if_pos ha] at h; rw [abv, if_pos ha]; exact h
    · rw [abv, if_neg ha] at h
      rw [abv, if_neg ha]
      cases hr : abv xs f (up xs a.toNat) with
      | none => rw [hr] at h; cases h
      | some l' => rw [abv_mono hr]; rw [hr] at h; exact h
/-- the bags above -/
def ab (xs : List RB) (i : Nat) : List Int := (above xs i).getD []
theorem ab_step {xs : List RB} (V : Vals xs) {i j : Nat} (hi : i < xs.length) (h : up xs i = (j : Int)) : ab xs i = (j : Int) :: ab xs j ∧ j < xs.length := by
  have hr := V.range i hi
  have hl := V.loop i hi
  refine ⟨?_, by omega⟩
  unfold ab
  rw [above, abv, if_neg (by omega)] at hl ⊢
  rw [h, Int.toNat_natCast] at hl ⊢
  cases hx : abv xs xs.length (up xs j) with
  | none => rw [hx] at hl; cases hl
  | some l => rw [above, abv_mono hx]; rfl
theorem depthR_eq (xs : List RB) (i : Nat) : depthR xs i = (ab xs i).length := rfl
theorem depth_step {xs : List RB} (V : Vals xs) {i j : Nat} (hi : i < xs.length) (h : up xs i = (j : Int)) : depthR xs i = depthR xs j + 1 := by
  rw [depthR_eq, depthR_eq, (ab_step V hi h).1]; rfl
/-- each bag is the root or has a bag above it -/
theorem up_cases {xs : List RB} (V : Vals xs) {i : Nat} (hi : i < xs.length) : up xs i = -1 ∨ ∃ j : Nat, j < xs.length ∧ up xs i = (j : Int) := by
  have := V.range i hi
  by_cases h : up xs i < 0
  · exact .inl (by omega)
  · exact .inr ⟨(up xs i).toNat, by omega, by omega⟩
/-- induction from the root down -/
theorem tree_ind {xs : List RB} (V : Vals xs) {p : Nat → Prop} (root : ∀ i, i < xs.length → up xs i = -1 → p i) (step : ∀ i j, i < xs.length → j < xs.length → up xs i = (j : Int) → p j → p i) : ∀ i, i < xs.length → p i := by
  have : ∀ d i, i < xs.length → depthR xs i = d → p i := by
    intro d
    induction d using Nat.strongRecOn with
    | _ d ih =>
      intro i hi hd
      rcases up_cases V hi with h | ⟨j, hj, h⟩
      · exact root i hi h
      · have := depth_step V hi h
        exact step i j hi hj h (ih (depthR xs j) (by omega) j hj rfl)
  exact fun i hi => this _ i hi rfl
theorem mem_selN {p : Nat → Bool} {n : Nat} {k : Int} : k ∈ selN p n ↔ ∃ i : Nat, i < n ∧ p i = true ∧ k = (i : Int) := by
  unfold selN
  simp only [List.mem_map, List.mem_filter, List.mem_range]
  exact ⟨fun ⟨i, ⟨h1, h2⟩, h3⟩ => ⟨i, h1, h2, h3.symm⟩, fun ⟨i, h1, h2, h3⟩ => ⟨i, ⟨h1, h2⟩, h3.symm⟩⟩
/-- i lies below b, or is b -/
def dsc (xs : List RB) (b i : Nat) : Bool := decide (i = b) || decide ((b : Int) ∈ ab xs i)
def ind (b : Bool) : Nat := if b then 1 else 0
theorem sum_ind_eq {l : List Nat} (h : l.Nodup) (i : Nat) : (l.map fun k => ind (decide (i = k))).sum = ind (decide (i ∈ l)) := by
  induction l with
  | nil => rfl
  | cons k l ih =>
    have hn := List.nodup_cons.1 h
    rw [List.map_cons, List.sum_cons, ih hn.2]
    by_cases hk : i = k
    · subst hk; simp [ind, hn.1]
    · simp [ind, hk]
theorem sum_add {α : Type} (f g : α → Nat) : ∀ l : List α, (l.map fun k => f k + g k).sum = (l.map f).sum + (l.map g).sum
  | [] => rfl
  | x :: l => by simp [sum_add f g l]; omega
theorem sum_congr {α : Type} {f g : α → Nat} : ∀ {l : List α}, (∀ x ∈ l, f x = g x) → (l.map f).sum = (l.map g).sum
  | [], _ => rfl
  | x :: l, h => by
    rw [List.map_cons, List.map_cons, List.sum_cons, List.sum_cons, h x (by simp), sum_congr fun y hy => h y (by simp [hy])]
/-- how many lie below b, b among them -/
def cnt (xs : List RB) (b : Nat) : Nat := ((List.range xs.length).map fun i => ind (dsc xs b i)).sum
theorem sum_swap {α β : Type} (f : α → β → Nat) (m : List β) : ∀ l : List α, (l.map fun i => (m.map fun k => f i k).sum).sum = (m.map fun k => (l.map fun i => f i k).sum).sum
  | [] => by
    simp only [List.map_nil, List.sum_nil]
    induction m with
    | nil => rfl
    | cons y m ih => simpa using ih
  | x :: l => by
    rw [List.map_cons, List.sum_cons, sum_swap f m l, ← sum_add]
    simp
end Go.Mono

namespace Go.Mono

theorem toT_len (t : List (Int × BS)) : (toT t).length = t.length := by simp [toT]
theorem toT_up {t : List (Int × BS)} {i : Nat} (h : i < t.length) : up (toT t) i = (bg t i).1 := by
  simp [up, toT, bg, h, toB]
theorem toT_hs {t : List (Int × BS)} {i : Nat} (h : i < t.length) : hs (toT t) i = toL (bg t i).2 := by
  simp [hs, toT, bg, h, toB]
theorem hasL_toL (S : BS) (n : Int) : hasL (toL S) n = has S n := by
  rw [hasL, has, Bool.eq_iff_iff, decide_eq_true_eq, toL, mem_selN, Bool.and_eq_true, fitsB_iff]
  constructor
  · rintro ⟨i, h1, h2, rfl⟩
    exact ⟨⟨by omega, by omega⟩, by simpa using h2⟩
  · rintro ⟨⟨h1, h2⟩, h3⟩
    exact ⟨n.toNat, by omega, h3, by omega⟩
/-! ### what the walk down from a bag visits -/
def pre (ks : Nat → List Nat) : Nat → Nat → List Nat
  | 0, b => [b]
  | f + 1, b => b :: (ks b).flatMap (pre ks f)
theorem dnF_cnt (ks : Nat → List Nat) : ∀ f b deep s, (dnF ks f b deep s).2 = s.2 + ((pre ks f b).length : Nat)
  | 0, b, deep, s => by simp [dnF, pre]
  | f + 1, b, deep, s => by
    rw [dnF, pre]
    have : ∀ (l : List Nat) (s : List Int × Int), (l.foldl (fun s k => dnF ks f k (deep + 1) s) s).2 = s.2 + ((l.flatMap (pre ks f)).length : Nat) := by
      intro l
      induction l with
      | nil => intro s; simp
      | cons k l ih =>
        intro s
        rw [List.foldl_cons, ih, dnF_cnt ks f, List.flatMap_cons, List.length_append]
        omega
    rw [this, List.length_cons]
    show s.2 + 1 + _ = _
    omega

def upN (t : List (Int × BS)) (i : Nat) : Option Nat := if (bg t i).1 < 0 then none else some (bg t i).1.toNat
/-- d bags up -/
def it (t : List (Int × BS)) : Nat → Nat → Option Nat
  | 0, i => some i
  | d + 1, i => (it t d i).bind (upN t)
theorem it_succ (t : List (Int × BS)) : ∀ d i, it t (d + 1) i = (upN t i).bind (it t d)
  | 0, i => by
    show (some i).bind (upN t) = _
    cases h : upN t i <;> simp [h, it]
  | d + 1, i => by
    rw [it, it_succ t d i]
    cases h : upN t i <;> simp [it]
theorem upN_lt {t : List (Int × BS)} (hr : Rng t) {i j : Nat} (hi : i < t.length) (h : upN t i = some j) : j < t.length ∧ (bg t i).1 = (j : Int) := by
  have := hr i hi
  unfold upN at h
  split at h
  · cases h
  · cases h; omega
theorem it_lt {t : List (Int × BS)} (hr : Rng t) {i : Nat} (hi : i < t.length) : ∀ d j, it t d i = some j → j < t.length
  | 0, j, h => by cases h; exact hi
  | d + 1, j, h => by
    rw [it] at h
    cases hx : it t d i with
    | none => rw [hx] at h; cases h
    | some k =>
      rw [hx] at h
      exact (upN_lt hr (it_lt hr hi d k hx) h).1
theorem kN_nodup (t : List (Int × BS)) (b : Nat) : (kN t b).Nodup := List.Nodup.sublist List.filter_sublist List.nodup_range
theorem kN_upN {t : List (Int × BS)} (hr : Rng t) {j b : Nat} (hj : j < t.length) : decide (j ∈ kN t b) = decide (upN t j = some b) := by
  have := hr j hj
  rw [decide_eq_decide, mem_kN]
  constructor
  · rintro ⟨_, h⟩
    rw [upN, if_neg (by omega), h]; rfl
  · intro h
    exact ⟨hj, (upN_lt hr hj h).2⟩
theorem sum_kN {t : List (Int × BS)} (hr : Rng t) (b : Nat) (x : Option Nat) (hx : ∀ j, x = some j → j < t.length) : ((kN t b).map fun k => ind (decide (x = some k))).sum = ind (decide (x.bind (upN t) = some b)) := by
  cases x with
  | none =>
    have : ∀ l : List Nat, (l.map fun k => ind (decide ((none : Option Nat) = some k))).sum = 0 := by
      intro l
      induction l with
      | nil => rfl
      | cons k l ih => rw [List.map_cons, List.sum_cons, ih]; rfl
    rw [this]; rfl
  | some j =>
    rw [show (some j).bind (upN t) = upN t j from rfl, ← kN_upN hr (hx j rfl), ← sum_ind_eq (kN_nodup t b)]
    refine sum_congr fun k _ => ?_
    congr 1
    rw [decide_eq_decide]
    exact Option.some_inj
theorem count_flatMap (g : Nat → List Nat) (i : Nat) : ∀ l : List Nat, (l.flatMap g).count i = (l.map fun k => (g k).count i).sum
  | [] => rfl
  | k :: l => by rw [List.flatMap_cons, List.count_append, count_flatMap g i l, List.map_cons, List.sum_cons]
theorem count_cons_ind (i b : Nat) (l : List Nat) : (b :: l).count i = ind (decide (i = b)) + l.count i := by
  rw [List.count_cons]
  by_cases h : b = i
  · subst h; simp [ind]; omega
  · have : ¬ i = b := Ne.symm h
    simp [ind, h, this]
theorem pre_count {t : List (Int × BS)} (hr : Rng t) {i : Nat} (hi : i < t.length) : ∀ f b, (pre (kN t) f b).count i = ((List.range (f + 1)).map fun d => ind (decide (it t d i = some b))).sum
  | 0, b => by
    rw [pre, count_cons_ind]
    simp [it]
  | f + 1, b => by
    rw [pre, count_cons_ind, count_flatMap]
    have h1 : ((kN t b).map fun k => (pre (kN t) f k).count i).sum = ((kN t b).map fun k => ((List.range (f + 1)).map fun d => ind (decide (it t d i = some k))).sum).sum := sum_congr fun k _ => pre_count hr hi f k
    rw [h1, sum_swap (fun k d => ind (decide (it t d i = some k)))]
    rw [List.range_succ_eq_map (n := f + 1), List.map_cons, List.sum_cons, List.map_map]
    congr 1
    · simp [it]
    · refine sum_congr fun d _ => ?_
      rw [sum_kN hr b (it t d i) (fun j hj => it_lt hr hi d j hj)]
      rfl
/-- the one root -/
theorem root_one {t : List (Int × BS)} (h : (rootN t).length = 1) : ∃ r, rootN t = [r] ∧ r < t.length ∧ (bg t r).1 = -1 ∧ ∀ j, j < t.length → (bg t j).1 = -1 → j = r := by
  match hx : rootN t, h with
  | [r], _ =>
    have hm : ∀ j, j ∈ rootN t ↔ j < t.length ∧ (bg t j).1 = -1 := by intro j; simp [rootN]
    have h1 := (hm r).1 (by rw [hx]; simp)
    refine ⟨r, rfl, h1.1, h1.2, fun j hj h => ?_⟩
    have := (hm j).2 ⟨hj, h⟩
    rw [hx] at this
    simpa using this
theorem sum_root {t : List (Int × BS)} {r : Nat} (hu : (bg t r).1 = -1) (i : Nat) : ∀ F, ((List.range F).map fun d => ind (decide (it t d i = some r))).sum ≤ 1 ∧ (1 ≤ ((List.range F).map fun d => ind (decide (it t d i = some r))).sum → it t F i = none)
  | 0 => ⟨by simp, by simp⟩
  | F + 1 => by
    obtain ⟨h1, h2⟩ := sum_root hu i F
    rw [List.range_succ, List.map_append, List.sum_append]
    simp only [List.map_cons, List.map_nil, List.sum_cons, List.sum_nil, Nat.add_zero]
    by_cases h : it t F i = some r
    · have h0 : ¬ 1 ≤ ((List.range F).map fun d => ind (decide (it t d i = some r))).sum := fun h' => by rw [h2 h'] at h; cases h
      rw [show decide (it t F i = some r) = true from decide_eq_true h]
      refine ⟨by rw [show ind true = 1 from rfl]; omega, fun _ => ?_⟩
      rw [it, h]
      show upN t r = none
      rw [upN, hu]; rfl
    · rw [show decide (it t F i = some r) = false from decide_eq_false h]
      rw [show ind false = 0 from rfl, Nat.add_zero]
      refine ⟨h1, fun h' => ?_⟩
      have := h2 h'
      rw [it, this]; rfl
theorem len_count {n : Nat} : ∀ {l : List Nat}, (∀ x ∈ l, x < n) → l.length = ((List.range n).map fun i => l.count i).sum
  | [], _ => by
    have : ∀ m : List Nat, (m.map fun i => ([] : List Nat).count i).sum = 0 := by
      intro m
      induction m with
      | nil => rfl
      | cons x m ih => rw [List.map_cons, List.sum_cons, ih]; rfl
    rw [this]; rfl
  | x :: l, h => by
    have e : ((List.range n).map fun i => (x :: l).count i).sum = ((List.range n).map fun i => ind (decide (i = x)) + l.count i).sum := sum_congr fun i _ => count_cons_ind i x l
    rw [e, sum_add, ← len_count (l := l) fun y hy => h y (by simp [hy])]
    have e2 : ((List.range n).map fun i => ind (decide (i = x))).sum = ((List.range n).map fun k => ind (decide (x = k))).sum := sum_congr fun i _ => by
      congr 1
      rw [decide_eq_decide]; exact eq_comm
    rw [e2, sum_ind_eq List.nodup_range]
    have hx := h x (by simp)
    simp [ind, hx]; omega
theorem pre_lt {t : List (Int × BS)} : ∀ f b, b < t.length → ∀ x ∈ pre (kN t) f b, x < t.length
  | 0, b, hb, x, hx => by rw [pre, List.mem_singleton] at hx; omega
  | f + 1, b, hb, x, hx => by
    rw [pre, List.mem_cons, List.mem_flatMap] at hx
    rcases hx with rfl | ⟨k, hk, hx⟩
    · exact hb
    · exact pre_lt f k (mem_kN.1 hk).1 x hx
theorem sum_le_len {f : Nat → Nat} : ∀ {l : List Nat}, (∀ x ∈ l, f x ≤ 1) → (l.map f).sum ≤ l.length
  | [], _ => by simp
  | x :: l, h => by
    have := sum_le_len (l := l) fun y hy => h y (by simp [hy])
    have := h x (by simp)
    simp; omega
theorem sum_eq_len {f : Nat → Nat} : ∀ {l : List Nat}, (∀ x ∈ l, f x ≤ 1) → ((l.map f).sum = l.length ↔ ∀ x ∈ l, f x = 1)
  | [], _ => by simp
  | x :: l, h => by
    have h1 := sum_le_len (l := l) fun y hy => h y (by simp [hy])
    have h2 := sum_eq_len (l := l) fun y hy => h y (by simp [hy])
    have h3 := h x (by simp)
    rw [List.map_cons, List.sum_cons, List.length_cons]
    constructor
    · intro h4
      have h5 : (l.map f).sum = l.length := by omega
      have h6 := h2.1 h5
      intro y hy
      rcases List.mem_cons.1 hy with rfl | hy
      · omega
      · exact h6 y hy
    · intro h4
      have := h2.2 fun y hy => h4 y (by simp [hy])
      have := h4 x (by simp)
      omega
theorem pre_count_le {t : List (Int × BS)} (hr : Rng t) {r : Nat} (hu : (bg t r).1 = -1) (f : Nat) {i : Nat} (hi : i < t.length) : (pre (kN t) f r).count i ≤ 1 := by
  rw [pre_count hr hi]; exact (sum_root hu i _).1
theorem pre_le {t : List (Int × BS)} (hr : Rng t) {r : Nat} (hrl : r < t.length) (hu : (bg t r).1 = -1) (f : Nat) : (pre (kN t) f r).length ≤ t.length := by
  rw [len_count (pre_lt f r hrl)]
  have := sum_le_len (f := fun i => (pre (kN t) f r).count i) (l := List.range t.length) fun i hi => pre_count_le hr hu f (List.mem_range.1 hi)
  simpa using this
theorem flat_len {g : Nat → List Nat} {k : Nat} : ∀ {l : List Nat}, k ∈ l → (g k).length ≤ (l.flatMap g).length
  | [], h => by cases h
  | x :: l, h => by
    rw [List.flatMap_cons, List.length_append]
    rcases List.mem_cons.1 h with rfl | h
    · omega
    · have := flat_len (g := g) h; omega
theorem pre_deep {ks : Nat → List Nat} : ∀ f b, ¬hgt ks f b → f + 2 ≤ (pre ks (f + 1) b).length
  | 0, b, h => by
    rw [pre]
    cases hk : ks b with
    | nil => exact absurd hk h
    | cons k l => simp [pre]
  | f + 1, b, h => by
    rw [hgt] at h
    obtain ⟨k, hk, hn⟩ : ∃ k, k ∈ ks b ∧ ¬hgt ks f k := by
      apply Classical.byContradiction
      intro hne
      exact h fun k hk => Classical.byContradiction fun hn => hne ⟨k, hk, hn⟩
    have := pre_deep f k hn
    rw [pre, List.length_cons]
    have := flat_len (g := pre ks (f + 1)) hk
    omega
theorem it_len {t : List (Int × BS)} (hr : Rng t) {i : Nat} (hi : i < t.length) : ∀ d b, it t d i = some b → d + 1 ≤ (pre (kN t) d b).length
  | 0, b, _ => by simp [pre]
  | d + 1, b, h => by
    rw [it] at h
    cases hx : it t d i with
    | none => rw [hx] at h; cases h
    | some j =>
      rw [hx] at h
      have hj := it_lt hr hi d j hx
      have hm : j ∈ kN t b := by
        have := kN_upN (b := b) hr hj
        rw [show decide (upN t j = some b) = true from decide_eq_true h] at this
        exact of_decide_eq_true this
      have := it_len hr hi d j hx
      have := flat_len (g := pre (kN t) d) hm
      rw [pre, List.length_cons]
      omega
theorem depthsF_cnt {t : List (Int × BS)} {r : Nat} (h : rootN t = [r]) (f : Nat) : (depthsF t f (rootN t)).2 = ((pre (kN t) f r).length : Nat) := by
  rw [h, depthsF, List.foldl_cons, List.foldl_nil, dnF_cnt]
  show (0 : Int) + _ = _
  omega
/-- what the walk of Check leans on holds -/
theorem Dp.mk' {t : List (Int × BS)} (hl : t.length ≤ 4096) (hr : Rng t) (h1 : (rootN t).length = 1) : Dp t t.length := by
  obtain ⟨r, h2, h3, h4, h5⟩ := root_one h1
  refine ⟨by omega, fun b hb => ?_, ?_⟩
  · rw [h2, List.mem_singleton] at hb
    subst hb
    apply Classical.byContradiction
    intro hn
    have := pre_deep _ _ hn
    have := pre_le hr h3 h4 (t.length + 1)
    omega
  · rw [depthsF_cnt h2]
    have := pre_le hr h3 h4 t.length
    omega
theorem abv_it {t : List (Int × BS)} (hr : Rng t) : ∀ f j, j < t.length → ((abv (toT t) f (up (toT t) j)).isSome = true ↔ ∃ d, d ≤ f ∧ it t (d + 1) j = none)
  | 0, j, hj => by
    rw [toT_up hj, abv]
    constructor
    · intro h
      refine ⟨0, Nat.le_refl _, ?_⟩
      rw [it_succ, upN]
      split at h
      · rename_i h'; rw [if_pos h']; rfl
      · cases h
    · rintro ⟨d, hd, h⟩
      obtain rfl : d = 0 := by omega
      rw [it_succ, upN] at h
      split at h
      · rename_i h'; rw [if_pos h']; rfl
      · cases h
  | f + 1, j, hj => by
    rw [toT_up hj, abv]
    by_cases h' : (bg t j).1 < 0
    · rw [if_pos h']
      refine ⟨fun _ => ⟨0, Nat.zero_le _, ?_⟩, fun _ => rfl⟩
      rw [it_succ, upN, if_pos h']; rfl
    · have hu : upN t j = some (bg t j).1.toNat := by rw [upN, if_neg h']
      have hk := (upN_lt hr hj hu).1
      rw [if_neg h', Option.isSome_map, abv_it hr f _ hk]
      constructor
      · rintro ⟨d, h1, h2⟩
        exact ⟨d + 1, by omega, by rw [it_succ, hu]; exact h2⟩
      · rintro ⟨d, h1, h2⟩
        rw [it_succ, hu] at h2
        cases d with
        | zero => cases h2
        | succ d => exact ⟨d, by omega, h2⟩
theorem above_it {t : List (Int × BS)} (hr : Rng t) {r : Nat} (hrl : r < t.length) (hu : (bg t r).1 = -1) (h1 : ∀ j, j < t.length → (bg t j).1 = -1 → j = r) {i : Nat} (hi : i < t.length) :
    (above (toT t) i).isSome = true ↔ (pre (kN t) t.length r).count i = 1 := by
  rw [above, abv_it hr _ _ hi, toT_len]
  have hle := pre_count_le hr hu t.length hi
  constructor
  · intro h
    obtain ⟨d, ⟨hd, hn⟩, hmin⟩ := least h
    have hs : ∃ j, it t d i = some j := by
      cases d with
      | zero => exact ⟨i, rfl⟩
      | succ d =>
        cases hx : it t (d + 1) i with
        | some j => exact ⟨j, rfl⟩
        | none => exact absurd ⟨by omega, hx⟩ (hmin d (by omega))
    obtain ⟨j, hj⟩ := hs
    have hjl := it_lt hr hi d j hj
    have hjr : j = r := h1 j hjl (by
      rw [it, hj] at hn
      have hrj := hr j hjl
      change upN t j = none at hn
      unfold upN at hn
      split at hn
      · omega
      · cases hn)
    subst hjr
    have hdl := it_len hr hi d j hj
    have := pre_le hr hrl hu d
    have hc := pre_count hr hi t.length j
    have h2 : 1 ≤ ((List.range (t.length + 1)).map fun d => ind (decide (it t d i = some j))).sum := by
      have : ∀ l : List Nat, d ∈ l → 1 ≤ (l.map fun d => ind (decide (it t d i = some j))).sum := by
        intro l
        induction l with
        | nil => intro h; cases h
        | cons x l ih =>
          intro h
          rw [List.map_cons, List.sum_cons]
          rcases List.mem_cons.1 h with rfl | h
          · rw [decide_eq_true hj]; simp [ind]
          · have := ih h; omega
      exact this _ (List.mem_range.2 (by omega))
    omega
  · intro h
    rw [pre_count hr hi] at h
    have : ∃ d, d ∈ List.range (t.length + 1) ∧ it t d i = some r := by
      apply Classical.byContradiction
      intro hne
      have : ∀ l : List Nat, (∀ d ∈ l, d ∈ List.range (t.length + 1)) → (l.map fun d => ind (decide (it t d i = some r))).sum = 0 := by
        intro l
        induction l with
        | nil => intro _; rfl
        | cons x l ih =>
          intro h
          rw [List.map_cons, List.sum_cons, ih fun d hd => h d (by simp [hd]), decide_eq_false fun he => hne ⟨x, h x (by simp), he⟩]
          rfl
      rw [this _ fun d hd => hd] at h
      cases h
    obtain ⟨d, hd, h2⟩ := this
    have := List.mem_range.1 hd
    refine ⟨d, by omega, ?_⟩
    rw [it, h2]
    show upN t r = none
    rw [upN, hu]; rfl

/-! ### tops -/
theorem topsS_bit {t : List (Int × BS)} (hr : Rng t) {i : Nat} (hi : i < t.length) {k : Nat} (hk : k < 1024) : (topsS t i).getLsbD k = topB (toT t) (k : Nat) i := by
  have hri := hr i hi
  have fit : fitsB (k : Nat) = true := fitsB_iff.2 ⟨by omega, by omega⟩
  have hh : ∀ S : BS, has S (k : Nat) = S.getLsbD k := fun S => by rw [has, fit, Int.toNat_natCast]; rfl
  rw [topB, toT_hs hi, hasL_toL, hh, toT_up hi, topsS]
  by_cases h : (bg t i).1 = -1
  · rw [if_pos h, h]; simp
  · rw [if_neg h, toT_hs (by omega), hasL_toL, hh]
    have : ¬ (bg t i).1 < 0 := by omega
    simp [this, hk]
theorem seenTo_bit {t : List (Int × BS)} (k : Nat) : ∀ i, (seenTo t i).getLsbD k = true ↔ ∃ j, j < i ∧ (topsS t j).getLsbD k = true
  | 0 => by simp [seenTo]
  | i + 1 => by
    rw [seenTo, BitVec.getLsbD_or, Bool.or_eq_true, seenTo_bit k i]
    constructor
    · rintro (⟨j, h1, h2⟩ | h)
      · exact ⟨j, by omega, h2⟩
      · exact ⟨i, by omega, h⟩
    · rintro ⟨j, h1, h2⟩
      by_cases hj : j = i
      · subst hj; exact .inr h2
      · exact .inl ⟨j, by omega, h2⟩
theorem and_zero {S T : BS} : S &&& T = 0 ↔ ∀ k, k < 1024 → ¬(S.getLsbD k = true ∧ T.getLsbD k = true) := by
  constructor
  · intro h k hk ⟨h1, h2⟩
    have := congrArg (fun S => S.getLsbD k) h
    simp [h1, h2] at this
  · intro h
    refine BitVec.eq_of_getLsbD_eq fun k hk => ?_
    have := h k hk
    rw [BitVec.getLsbD_and]
    cases h1 : S.getLsbD k <;> cases h2 : T.getLsbD k <;> simp [h1, h2] at this ⊢
/-- no two bags have a vertex at their top -/
def Uni (xs : List RB) : Prop := ∀ (id : Int) (j i : Nat), j < i → i < xs.length → ¬(topB xs id i = true ∧ topB xs id j = true)
theorem selN_two {p : Nat → Bool} : ∀ {n : Nat}, (selN p n).length ≤ 1 ↔ ∀ j i, j < i → i < n → ¬(p i = true ∧ p j = true)
  | 0 => ⟨fun _ j i _ h => by omega, fun _ => by simp [selN]⟩
  | n + 1 => by
    rw [selN_succ]
    constructor
    · intro h j i hji hi ⟨h1, h2⟩
      have hl : (selN p n).length ≤ 1 := by
        split at h
        · rw [List.length_append, List.length_singleton] at h; omega
        · exact h
      by_cases hin : i = n
      · subst hin
        rw [if_pos h1] at h
        have : (j : Int) ∈ selN p i := mem_selN.2 ⟨j, hji, h2, rfl⟩
        cases hs : selN p i with
        | nil => rw [hs] at this; cases this
        | cons x l => rw [hs] at h; simp at h
      · exact selN_two.1 hl j i hji (by omega) ⟨h1, h2⟩
    · intro h
      have hl : (selN p n).length ≤ 1 := selN_two.2 fun j i hji hi => h j i hji (by omega)
      split
      · rename_i hp
        have : selN p n = [] := by
          cases hs : selN p n with
          | nil => rfl
          | cons x l =>
            have : x ∈ selN p n := by rw [hs]; simp
            obtain ⟨j, h1, h2, _⟩ := mem_selN.1 this
            exact absurd ⟨hp, h2⟩ (h j n h1 (by omega))
        rw [this]; simp
      · exact hl
theorem topB_fits {t : List (Int × BS)} {id : Int} {i : Nat} (hi : i < t.length) (h : topB (toT t) id i = true) : ∃ k : Nat, k < 1024 ∧ id = (k : Int) := by
  rw [topB, toT_hs hi, hasL_toL, has, Bool.and_eq_true, Bool.and_eq_true, fitsB_iff] at h
  exact ⟨id.toNat, by omega, by omega⟩
theorem uni_S {t : List (Int × BS)} (hr : Rng t) : (∀ i, i < t.length → topsS t i &&& seenTo t i = 0) ↔ Uni (toT t) := by
  constructor
  · intro h id j i hji hi ⟨h1, h2⟩
    rw [toT_len] at hi
    obtain ⟨k, hk, rfl⟩ := topB_fits hi h1
    have := and_zero.1 (h i hi) k hk
    exact this ⟨by rw [topsS_bit hr hi hk]; exact h1, (seenTo_bit k i).2 ⟨j, hji, by rw [topsS_bit hr (by omega) hk]; exact h2⟩⟩
  · intro h i hi
    refine and_zero.2 fun k hk ⟨h1, h2⟩ => ?_
    obtain ⟨j, hj, h3⟩ := (seenTo_bit k i).1 h2
    rw [topsS_bit hr hi hk] at h1
    rw [topsS_bit hr (by omega) hk] at h3
    exact h k j i hj (by rw [toT_len]; exact hi) ⟨h1, h3⟩
/-- the tree alone -/
def bare (xs : List RB) : List RB := xs.map fun b => (b.1, [])
theorem bare_len (xs : List RB) : (bare xs).length = xs.length := by simp [bare]
theorem bare_up (xs : List RB) (i : Nat) : up (bare xs) i = up xs i := by
  unfold up bare
  rw [List.getElem?_map]
  cases xs[i]? <;> rfl
theorem bare_hs (xs : List RB) (i : Nat) : hs (bare xs) i = [] := by
  unfold hs bare
  rw [List.getElem?_map]
  cases xs[i]? <;> rfl
theorem bare_abv (xs : List RB) : ∀ f a, abv (bare xs) f a = abv xs f a
  | 0, a => rfl
  | f + 1, a => by rw [abv, abv, bare_up, bare_abv xs f]
theorem bare_vals {xs : List RB} (h1 : ∀ i, i < xs.length → -1 ≤ up xs i ∧ up xs i < xs.length) (h2 : (selN (fun i => decide (up xs i < 0)) xs.length).length = 1) (h3 : ∀ i, i < xs.length → (above xs i).isSome = true) : Vals (bare xs) := by
  refine ⟨fun i hi => ?_, ?_, fun i hi => ?_, fun i hi id hid => ?_⟩
  · rw [bare_len] at hi ⊢
    rw [bare_up]; exact h1 i hi
  · rw [bare_len]
    simp only [bare_up]
    exact h2
  · rw [bare_len] at hi
    rw [above, bare_abv, bare_up, bare_len]
    exact h3 i hi
  · rw [bare_hs] at hid; cases hid
theorem top_ex {xs : List RB} (V : Vals (bare xs)) (id : Int) : ∀ i, i < xs.length → id ∈ hs xs i → ∃ j, j < xs.length ∧ topB xs id j = true := by
  intro i hi
  refine tree_ind V (p := fun i => id ∈ hs xs i → ∃ j, j < xs.length ∧ topB xs id j = true) (fun i hi hu h => ⟨i, ?_, ?_⟩) (fun i j hi hj hu ih h => ?_) i (by rw [bare_len]; exact hi)
  · rwa [bare_len] at hi
  · rw [bare_up] at hu
    rw [topB, hasL, decide_eq_true h, hu]; rfl
  · rw [bare_len] at hi
    rw [bare_up] at hu
    by_cases hj2 : id ∈ hs xs j
    · exact ih hj2
    · refine ⟨i, hi, ?_⟩
      rw [topB, hasL, hasL, decide_eq_true h, hu, Int.toNat_natCast, decide_eq_false hj2]
      simp
theorem uni_R {xs : List RB} (V : Vals (bare xs)) : (∀ i, i < xs.length → ∀ id ∈ hs xs i, (topsR xs id).length = 1) ↔ Uni xs := by
  constructor
  · intro h id j i hji hi ⟨h1, h2⟩
    have hm : id ∈ hs xs i := by
      rw [topB, Bool.and_eq_true] at h1
      exact of_decide_eq_true h1.1
    have := h i hi id hm
    exact selN_two.1 (Nat.le_of_eq this) j i hji hi ⟨h1, h2⟩
  · intro h i hi id hid
    have h1 : (topsR xs id).length ≤ 1 := selN_two.2 fun j i hji hi => h id j i hji hi
    obtain ⟨j, hj, ht⟩ := top_ex V id i hi hid
    have : (j : Int) ∈ topsR xs id := mem_selN.2 ⟨j, hj, ht, rfl⟩
    have := List.length_pos_of_mem this
    omega
theorem ite2 {α : Type} {p q : Prop} {_ : Decidable p} {_ : Decidable q} {a b c d : α} (h : p ↔ q) (h1 : p → a = c) (h2 : ¬p → b = d) : (if p then a else b) = (if q then c else d) := by
  by_cases hp : p
  · rw [if_pos hp, if_pos (h.1 hp)]; exact h1 hp
  · rw [if_neg hp, if_neg (fun hq => hp (h.2 hq))]; exact h2 hp
/-- the program's check and the reference's agree -/
theorem chkT_eq {t : List (Int × BS)} : chkT t t.length = chkR (toT t) := by
  unfold chkT chkR
  rw [toT_len]
  refine ite2 (by omega) (fun _ => rfl) fun h0 => ?_
  have e1 : Rng t ↔ ∀ i, i < t.length → -1 ≤ up (toT t) i ∧ up (toT t) i < t.length := by
    constructor
    · intro h i hi; rw [toT_up hi]; exact h i hi
    · intro h i hi; have := h i hi; rwa [toT_up hi] at this
  refine ite2 (not_congr e1) (fun _ => rfl) fun hr => ?_
  replace hr := Classical.not_not.1 hr
  have e2 : (selN (fun i => decide (up (toT t) i < 0)) t.length).length = (rootN t).length := by
    rw [selN, List.length_map, rootN]
    congr 1
    refine List.filter_congr fun i hi => ?_
    have hi := List.mem_range.1 hi
    have := hr i hi
    rw [toT_up hi, decide_eq_decide]
    omega
  rw [e2]
  refine ite2 Iff.rfl (fun _ => rfl) fun h1 => ?_
  replace h1 := Classical.not_not.1 h1
  obtain ⟨r, r1, r2, r3, r4⟩ := root_one h1
  have e3 : (depthsF t t.length (rootN t)).2 = (t.length : Nat) ↔ ∀ i, i < t.length → (above (toT t) i).isSome = true := by
    rw [depthsF_cnt r1, len_count (pre_lt _ r r2)]
    have := sum_eq_len (f := fun i => (pre (kN t) t.length r).count i) (l := List.range t.length) fun i hi => pre_count_le hr r3 t.length (List.mem_range.1 hi)
    rw [List.length_range] at this
    rw [Int.ofNat_inj, this]
    constructor
    · intro h i hi
      exact (above_it hr r2 r3 r4 hi).2 (h i (List.mem_range.2 hi))
    · intro h i hi
      exact (above_it hr r2 r3 r4 (List.mem_range.1 hi)).1 (h i (List.mem_range.1 hi))
  refine ite2 (not_congr e3) (fun _ => rfl) fun h2 => ?_
  replace h2 := Classical.not_not.1 h2
  have V := bare_vals (xs := toT t) (by rw [toT_len]; exact e1.1 hr) (by rw [toT_len, e2]; exact h1) (by rw [toT_len]; exact e3.1 h2)
  have e4 := uni_R V
  rw [toT_len] at e4
  exact ite2 (not_congr ((uni_S hr).trans e4.symm)) (fun _ => rfl) fun _ => rfl
end Go.Mono

namespace Go.Mono
open Go Go.RowKit

/-- block b is a map of at most n entries, that holds m -/
def MapR (P : Program) (k e : TypeId) (w : World) (b n : Nat) (m : Int → Option Int) : Prop :=
  ∃ D : DataW Unit, w.ownsMap P k (plainElem P e) b n D ∧ Maps.IsMap D ∧ ∀ x : Int, (Lit.int .i64 x).wf = true → Maps.has D (.int .i64 x) = (m x).isSome ∧ D.atKey (.int .i64 x) (.lit (.int .i64 0)) = .lit (.int .i64 ((m x).getD 0))
variable {P : Program} {k e : TypeId} {w w' : World} {b n : Nat} {m : Int → Option Int}
theorem MapR.pres (h : MapR P k e w b n m) (hb : w'.heap[b]? = w.heap[b]?) : MapR P k e w' b n m := by
  obtain ⟨D, ⟨es, clock, h1, h2⟩, h3⟩ := h
  exact ⟨D, ⟨es, clock, hb.trans h1, h2⟩, h3⟩
theorem MapR.lt (h : MapR P k e w b n m) : b < w.heap.size := by
  obtain ⟨D, h1, _⟩ := h
  exact h1.lt
def mapE (P : Program) (k e : TypeId) : Enc (Int → Option Int) where
  k := 1
  agg := false
  r := fun G w m cs => ∃ b n, cs = [.map (some b)] ∧ ¬G b ∧ MapR P k e w b n m
  pos := by decide
  k1 := fun _ => rfl
  len := fun ⟨b, n, h, _⟩ => by rw [h]; rfl
  one := fun ⟨b, n, h, _⟩ u hu => by rw [h] at hu; simp at hu; subst hu; rfl
  pres := fun ⟨b, n, h1, h2, h3⟩ hk hs => ⟨b, n, h1, h2, h3.pres (hk b h3.lt h2)⟩
  weak := fun ⟨b, n, h1, h2, h3⟩ hk => ⟨b, n, h1, fun hg => h2 (hk b h3.lt hg), h3⟩
theorem MapR.dv (h : MapR P k e w b n m) {G : Nat → Prop} (hG : ¬G b) : (Dv (mapE P k e) G m).p (.map (some b)) w := ⟨_, ⟨b, n, rfl, hG, h⟩, rfl⟩

/-- a new map -/
theorem MapR.made (w : World) : MapR P k e (w.alloc (.map #[] 0)) w.heap.size 0 (fun _ => none) :=
  ⟨_, World.ownsMap_made w P k _, Maps.isMap_empty, fun x _ => ⟨rfl, rfl⟩⟩
theorem zero_of {t : TypeId} {z : Value} {sz bz : Nat} (h : (P.info? t).map (fun i => (i.zero, i.size, i.bytes)) = some (some z, sz, bz)) : ∀ w, (zeroValue t).run P w = .ok z w := fun w => by
  obtain ⟨i, hi, hzi, _, _⟩ := info_parts h
  simp [zeroValue, typeInfo, hi, hzi]
section
variable {w0 : World} {L : Env} {dst : Option Tmp} {ty : TypeId} {pos : String} {aft : Array Edge} {g : Option (Nat × Bool)}
end
end Go.Mono

namespace Go.Mono
open Go Go.RowKit
variable {P : Program} {w0 : World} {L : Env} {dst : Option Tmp} {ty : TypeId} {pos : String} {aft : Array Edge} {g : Option (Nat × Bool)} {x y : Operand} {t yt : TypeId}
variable {α β : Type} {e : Enc α} {G : Nat → Prop} {z : α}

theorem nilC (hx : Is L w0 x (Dv (ptE e) G (some z))) : OpC P w0 L ⟨dst, .nilCheck x, ty, pos, aft, g⟩ (Dv (ptE e) G (some z)) :=
  opc_pure fun ρ w he hv => by
    have h := hx.v he hv (by simp [Op.operands])
    obtain ⟨ad, h1, h2⟩ := Dv.pt.1 h
    exact ⟨ρ x, by simp [execOp, h1], h⟩
theorem nilE {ad : Addr} (hx : opd L x = some (E (.pointer (some ad)))) : OpC P w0 L ⟨dst, .nilCheck x, ty, pos, aft, g⟩ (E (.pointer (some ad))) :=
  opc_pure fun ρ w he hv => by
    have h1 := opE hv (x := x) (by simp [Op.operands]) hx
    exact ⟨ρ x, by simp [execOp, h1], h1⟩
theorem opc_cmp {op : BinOp} {A : VA} {c : Value} {b : Bool} (hx : Is L w0 x A) (h : ∀ v w, A.p v w → (eqGuard op t x (.const c) v c).run P w = .ok () w ∧ (binOp op t v c).run P w = .ok (.bool b) w) :
    OpC P w0 L ⟨dst, .binOp op t x (.const c) yt, ty, pos, aft, g⟩ (E (.bool b)) :=
  opc_pure fun ρ w he hv => by
    have h1 := hx.v he hv (by simp [Op.operands])
    have h2 : ρ (.const c) = c := hv (.const c) (by simp [Op.operands]) _ rfl
    obtain ⟨h3, h4⟩ := h _ _ h1
    exact ⟨_, by simp only [execOp, h2, Sem.run_bind, h3, h4, Result.andThen_ok, Sem.run_pure], rfl⟩
theorem ptee {pe : TypeId} (h : P.underlying t = some (.pointer pe)) : P.underlying t = some (.pointer (P.pointee t)) := by
  rw [h]; simp [Program.pointee, h]
theorem eqlP {pe : TypeId} (ht0 : P.underlying t = some (.pointer pe)) (hx : Is L w0 x (Dv (ptE e) G (some z))) : OpC P w0 L ⟨dst, .binOp .eql t x (.const (.pointer none)) yt, ty, pos, aft, g⟩ (E (.bool false)) :=
  have ht := ptee ht0
  opc_cmp hx fun v w h => by
    obtain ⟨ad, h1, _⟩ := Dv.pt.1 h
    subst h1
    exact ⟨rfl, run_eql_pointer_nil w t (some ad) ht⟩
end Go.Mono
namespace Go.Mono
open Go Go.RowKit
end Go.Mono
namespace Go.Mono
open Go Go.RowKit
end Go.Mono

namespace Go.Mono
open Go Go.RowKit
variable {P : Program} {w0 : World} {L : Env} {dst : Option Tmp} {ty : TypeId} {pos : String} {aft : Array Edge} {g : Option (Nat × Bool)} {x y : Operand} {t te : TypeId}

theorem sz_of {te : TypeId} {s : Nat} (hs : (P.info? te).map (·.size) = some s) (w : World) : (sizeOf te).run P w = .ok s w := by
  cases hi : P.info? te with
  | none => simp [hi] at hs
  | some i => simp [hi] at hs; simp [sizeOf, typeInfo, hi, hs]
section tail
variable {r : Option Nat} {ds : List Deferred} {ops : Array Oper} {rest : List Oper} {Q : Exit → Act → World → Prop} {n : Nat} {a : Act} {w : World}
end tail
/-- a slice that was made: a block of its own -/
def MkA (B n : Nat) (cs : Array Value) (te : TypeId) : VA := ⟨fun v w => ∃ b, B ≤ b ∧ v = .slice (some ⟨b, 0, none⟩) n n ∧ Blk w b cs te, fun v w w' e ⟨b, h1, h2, h3⟩ => ⟨b, h1, h2, h3.ext e⟩⟩
theorem mkS {z : Value} {k : IntKind} {c sz bz : Nat} (ht : P.underlying t = some (.slice te)) (hi : (P.info? te).map (fun i => (i.zero, i.size, i.bytes)) = some (some z, sz, bz)) (hx : opd L x = some (E (.int k (c : Nat)))) (hc : c ≤ 1048576) (hb : bz ≤ 1048576) :
    OpC P w0 L ⟨dst, .makeSlice t x x, ty, pos, aft, g⟩ (MkA w0.heap.size c (madeCells z.cells (c * sz)) te) := by
  refine ⟨fun ρ w he hv => ?_⟩
  have hxv : ρ x = .int k (c : Nat) := opE hv (x := x) (by simp [Op.operands]) hx
  obtain ⟨it, hit, hiz, hs, hby⟩ := info_parts hi
  have hprod : (bz : Int) * (c : Nat) ≤ 1048576 * 1048576 := Int.mul_le_mul (by omega) (by omega) (by omega) (by omega)
  have hr := run_make (P := P) w t te it z ht hit hiz k k (c : Nat) (c : Nat) (by omega) (by omega) (by rw [hby]; omega) (by omega)
  rw [hs, Int.toNat_natCast] at hr
  simp only [OpR, execOp, hxv, Sem.run_bind, hr, Result.andThen_ok, Sem.run_pure]
  exact ⟨ext_alloc _ _, _, he.size, rfl, blk_alloc _ _ _⟩
theorem exE {vs : Array Value} {i : Nat} {u : Value} (hx : opd L x = some (E (.tuple vs))) (hi : vs[i]? = some u) : OpC P w0 L ⟨dst, .extract x i, ty, pos, aft, g⟩ (E u) :=
  opc_pure fun ρ w he hv => by
    have h1 := opE hv (x := x) (by simp [Op.operands]) hx
    have hlt : i < vs.size := (Array.getElem?_eq_some_iff.1 hi).1
    exact ⟨u, by simp [execOp, h1, Instr.extract, hi], rfl⟩
end Go.Mono

namespace Go.Mono
open Go Go.RowKit

section
variable {P : Program} {ops : Array Oper} {Q : Exit → Act → World → Prop} {w0 : World} {n : Nat} {ds : List Deferred} {r : Option Nat}

def consFY (A : VA) (As : Nat → VA) : Nat → VA
  | 0 => A
  | i + 1 => As i
theorem envFY_cons (L : Env) (A : VA) (As : Nat → VA) (k j : Nat) : envF ops L (consFY A As) k (j + 1) = envF ops (push (dstOf ops k) A L) As (k + 1) j := by
  rw [← envF_shift]
  congr 1
end
end Go.Mono
namespace Go.Mono
open Go Go.RowKit
section
variable {P : Program} {w0 : World} {L : Env} {ty : TypeId} {pos : String} {aft : Array Edge}
variable {ops : Array Oper} {rest : List Oper} {K : Env → Prop} {A : VA} {op : Op} {dd : Nat} {row : Option Nat} {F : World → Prop}
end
end Go.Mono

namespace Go.Mono
open Go Go.RowKit

/-- the operation that changes blocks of S: it runs once, ahead of it the world has but grown -/
structure XOpZ (P : Program) (w0 : World) (S : Nat → Prop) (F : World → Prop) (L : Env) (o : Oper) (A : VA) : Prop where
  out : ∀ ρ w, Ext w0 w → (∀ x ∈ o.op.operands, ∀ B, opd L x = some B → B.p (ρ x) w) → OpR P o ρ w (fun v w' => Chg S w w' ∧ A.p v w' ∧ F w')
/-- the operations in the order of the text; fr: which are free; L: for the operations, L2: for what stands behind -/
def RegZ (P : Program) (ops : Array Oper) (w0 : World) (S : Nat → Prop) (F : World → Prop) : List Bool → List Oper → (Env → Prop) → Env → Env → Prop
  | [], [o], K, L, L2 => o.guard = none ∧ ∃ A, XOpZ P w0 S F L o A ∧ K (push o.dst A L2)
  | true :: fr, o :: rest, K, L, L2 => ∃ A, (∀ w1, Chg S w0 w1 → GOp P ops w1 L o A) ∧ AvS S A ∧ RegZ P ops w0 S F fr rest K (push o.dst A L) (push o.dst A L2)
  | false :: fr, o :: rest, K, L, L2 => ∃ A, GOp P ops w0 L o A ∧ RegZ P ops w0 S F fr rest K (push o.dst A L) (push o.dst Any L2)
  | _, _, _, _, _ => False

section
variable {P : Program} {ops : Array Oper} {Q : Exit → Act → World → Prop} {w0 : World} {n : Nat} {ds : List Deferred} {r : Option Nat}

def frF (fr : List Bool) (j : Nat) : Bool := fr.getD j false
theorem RegZ_As {S : Nat → Prop} {F : World → Prop} {K : Env → Prop} : ∀ (M : List Oper) (fr : List Bool) (k : Nat) (L L2 : Env), (∀ j, j < M.length → ops[k + j]? = M[j]?) → RegZ P ops w0 S F fr M K L L2 →
    ∃ As : Nat → VA, M.length = fr.length + 1 ∧ (∀ j o, j < fr.length → ops[k + j]? = some o → (frF fr j = false → GOp P ops w0 (envF ops L As k j) o (As j)) ∧ (frF fr j = true → (∀ w1, Chg S w0 w1 → GOp P ops w1 (envF ops L As k j) o (As j)) ∧ AvS S (As j))) ∧
      (∀ o, ops[k + fr.length]? = some o → o.guard = none ∧ XOpZ P w0 S F (envF ops L As k fr.length) o (As fr.length)) ∧ K (envF ops L2 (fun j => if frF fr j = true ∨ j = fr.length then As j else Any) k M.length)
  | [], [], _, _, _, _, h => h.elim
  | [], _ :: _, _, _, _, _, h => by
    rename_i f fr _ _ _ _
    cases f <;> exact h.elim
  | [o], [], k, L, L2, hM, ⟨hg, A, h1, h2⟩ => by
    have h0 : ops[k]? = some o := by simpa using hM 0 (by simp)
    have hd : dstOf ops k = o.dst := by simp [dstOf, h0]
    refine ⟨fun _ => A, rfl, fun j o hj => by simp at hj, fun o' ho' => ?_, ?_⟩
    · rw [List.length_nil, Nat.add_zero, h0] at ho'
      obtain rfl := Option.some.inj ho'
      exact ⟨hg, h1⟩
    · have : envF ops L2 (fun j => if frF [] j = true ∨ j = ([] : List Bool).length then A else Any) k 1 = push o.dst A L2 := by
        have := envFY_cons (ops := ops) L2 A (fun _ => Any) k 0
        rw [hd] at this
        show _ = envF ops (push o.dst A L2) (fun _ => Any) (k + 1) 0
        rw [← this]
        rfl
      rw [List.length_singleton, this]
      exact h2
  | o :: o2 :: M, [], _, _, _, _, h => h.elim
  | o :: M, f :: fr, k, L, L2, hM, h => by
    have h0 : ops[k]? = some o := by simpa using hM 0 (by simp)
    have hd : dstOf ops k = o.dst := by simp [dstOf, h0]
    obtain ⟨A, hA, hr⟩ : ∃ A, ((f = false → GOp P ops w0 L o A) ∧ (f = true → (∀ w1, Chg S w0 w1 → GOp P ops w1 L o A) ∧ AvS S A)) ∧ RegZ P ops w0 S F fr M K (push o.dst A L) (push o.dst (if f = true then A else Any) L2) := by
      cases f with
      | true =>
        obtain ⟨A, h1, h2, h3⟩ := h
        exact ⟨A, ⟨(fun h => by cases h), (fun _ => ⟨h1, h2⟩)⟩, h3⟩
      | false =>
        obtain ⟨A, h1, h3⟩ := h
        exact ⟨A, ⟨(fun _ => h1), (fun h => by cases h)⟩, h3⟩
    obtain ⟨As, h1, h2, h3, h4⟩ := RegZ_As M fr (k + 1) _ _ (fun j hj => by
      have := hM (j + 1) (by simpa using hj)
      rw [show k + 1 + j = k + (j + 1) by omega]
      simpa using this) hr
    refine ⟨consFY A As, by simp [h1], ?_, ?_, ?_⟩
    · intro j o' hj ho'
      cases j with
      | zero =>
        rw [Nat.add_zero, h0] at ho'
        obtain rfl := Option.some.inj ho'
        exact hA
      | succ j =>
        rw [envFY_cons, hd]
        exact h2 j o' (by simpa using hj) (by rw [show k + 1 + j = k + (j + 1) by omega]; exact ho')
    · intro o' ho'
      rw [List.length_cons, envFY_cons, hd]
      exact h3 o' (by rw [show k + 1 + fr.length = k + (fr.length + 1) by omega]; exact ho')
    · have e : (fun j => if frF (f :: fr) j = true ∨ j = fr.length + 1 then consFY A As j else Any) = consFY (if f = true then A else Any) (fun j => if frF fr j = true ∨ j = fr.length then As j else Any) := by
        funext j
        cases j with
        | zero =>
          show (if f = true ∨ 0 = fr.length + 1 then A else Any) = (if f = true then A else Any)
          have : ¬ 0 = fr.length + 1 := by omega
          simp [this]
        | succ j =>
          show (if frF fr j = true ∨ j + 1 = fr.length + 1 then As j else Any) = _
          simp [consFY]
      rw [List.length_cons, List.length_cons, e, envFY_cons, hd]
      exact h4

structure InvZ (ops : Array Oper) (m x : Nat) (fr : Nat → Bool) (S : Nat → Prop) (F : World → Prop) (n : Nat) (ds : List Deferred) (w0 : World) (L : Env) (As : Nat → VA) (listed : Array Bool) (a : Act) (w : World) : Prop where
  ext : Chg S w0 w
  pre : listed.getD x true = false → Ext w0 w
  post : listed.getD x false = true → F w
  size : a.tmps.size = n
  defers : a.defers = ds
  hL : ∀ t A, look L t = some A → (∀ j, j < m → dstOf ops j ≠ some t) → A.p (a.eval (.tmp t)) w
  hA : ∀ i, i < m → listed.getD i false = true → (listed.getD x true = false ∨ fr i = true ∨ i = x) → ∀ d, dstOf ops i = some d → (As i).p (a.eval (.tmp d)) w

theorem wpAny_mainZ {m x : Nat} {fr : Nat → Bool} {S : Nat → Prop} {F : World → Prop} (hx0 : x < m) (hFst : ∀ w w', Ext w w' → F w → F w') {L : Env} {As : Nat → VA} (hm : m ≤ ops.size) (hchk : ∀ i, i < m → chkOp ops m n i = true) (hchk2 : ∀ i, m ≤ i → i < ops.size → chkTail ops i = true)
    (hanc : ∀ j, j < m → j ≠ x → fr j = false → covers ops 12 x j = true)
    (hfree : ∀ i o, i < m → i ≠ x → fr i = true → ops[i]? = some o → ∀ t, (t ∈ tmpsOf o ∨ gdst ops o = some t) → ∀ j, j < m → dstOf ops j = some t → fr j = true ∧ j ≠ x)
    (hops : ∀ j o, j < m → j ≠ x → ops[j]? = some o → (fr j = false → GOp P ops w0 (envF ops L As 0 j) o (As j)) ∧ (fr j = true → (∀ w1, Chg S w0 w1 → GOp P ops w1 (envF ops L As 0 j) o (As j)) ∧ AvS S (As j)))
    (hX : ∀ o, ops[x]? = some o → o.guard = none ∧ XOpZ P w0 S F (envF ops L As 0 x) o (As x)) (hLav : AvSL S L)
    (hend : ∀ a w, Chg S w0 w → F w → FrD n ds a w (envF ops L (fun j => if fr j = true ∨ j = x then As j else Any) 0 m) → wpListIn (FW r) 0 P ops Q (ops.toList.drop m) a w) :
    ∀ (c : Nat) (listed : Array Bool) (a : Act) (w : World), (List.range m).countP (fun i => !listed.getD i true) = c → listed.size = ops.size →
      (∀ j, m ≤ j → j < ops.size → listed.getD j true = false) → LD ops listed → InvZ ops m x fr S F n ds w0 L As listed a w → wpAnyIn (FW r) 0 P .any ops Q (c + (ops.size - m)) listed a w
  | 0, listed, a, w, hc, hsz, hun, hld, hi => by
    have hall : ∀ j, j < m → listed.getD j false = true := by
      intro j hj
      have := (List.countP_eq_zero.1 hc) j (List.mem_range.2 hj)
      have hjl : j < listed.size := by omega
      simpa [hjl] using this
    rw [Nat.zero_add]
    refine wpAny_tail m hchk2 (ops.size - m) m (by omega) (Nat.le_refl _) listed a w hall hun hsz hld (hend a w hi.ext (hi.post (hall x hx0)) ⟨hi.size, hi.defers, fun t A ht => ?_⟩)
    rcases look_envF L _ t A m ht with ⟨j, hj, hd, rfl⟩ | ⟨hn, hl⟩
    · by_cases hk : fr j = true ∨ j = x
      · rw [if_pos hk]
        exact hi.hA j hj (hall j hj) (.inr hk) t hd
      · rw [if_neg hk]; trivial
    · exact hi.hL t A hl hn
  | c + 1, listed, a, w, hc, hsz, hun, hld, hi => by
    have facts : ∀ i o, i < m → ops[i]? = some o → (∀ e ∈ o.after, Region.binds .any e = true → e.on < i) ∧ (∀ d, o.dst = some d → d < n) ∧
        (∀ t, t ∈ tmpsOf o ∨ gdst ops o = some t → ∀ j, j < m → dstOf ops j = some t → bnd ops i j = true) ∧ (∀ j, j < m → j ≠ i → ∀ d, o.dst = some d → dstOf ops j ≠ some d) := by
      intro i o hlt ho
      have := hchk i hlt
      simp only [chkOp, ho, Bool.and_eq_true, Array.all_eq_true_iff_forall_mem, Bool.or_eq_true, Bool.not_eq_true', List.all_eq_true, List.mem_range, List.mem_append, Option.mem_toList] at this
      obtain ⟨⟨⟨h1, h2⟩, h3⟩, h4⟩ := this
      refine ⟨fun e he hb => ?_, fun d hd => ?_, fun t ht j hj hd => ?_, fun j hj hne d hd hd' => ?_⟩
      · rcases h1 e he with h | h
        · rw [hb] at h; cases h
        · simpa [Nat.blt_eq] using h
      · simpa [hd, Nat.blt_eq] using h2
      · have := h3 t ht j hj
        rcases this with h | h
        · rw [hd] at h; simp at h
        · exact h
      · have := h4 j hj
        rcases this with h | h
        · exact hne (Nat.eq_of_beq_eq_true h)
        · rw [hd, hd'] at h; simp at h
    have prog : ∃ i, i < m ∧ listed.getD i true = false ∧ ∀ j, j < i → listed.getD j true = true := by
      have hex : ∃ i, i < m ∧ listed.getD i true = false := by
        have hpos : 0 < (List.range m).countP (fun i => !listed.getD i true) := by omega
        obtain ⟨i, hi, hb⟩ := List.countP_pos_iff.1 hpos
        exact ⟨i, List.mem_range.1 hi, by simpa using hb⟩
      obtain ⟨i, hlt, hb⟩ := hex
      induction i using Nat.strongRecOn with
      | _ i ih =>
        by_cases h : ∃ j, j < i ∧ listed.getD j true = false
        · obtain ⟨j, hj, hjb⟩ := h
          exact ih j hj (by omega) hjb
        · refine ⟨i, hlt, hb, fun j hj => ?_⟩
          cases hjb : listed.getD j true with
          | true => rfl
          | false => exact absurd ⟨j, hj, hjb⟩ h
    obtain ⟨i0, hi0, hu0, hbelow⟩ := prog
    have hready : i0 ∈ Region.ready .any ops listed := by
      have ho : ops[i0]? = some (ops[i0]'(by omega)) := by simp
      refine mem_ready.2 ⟨hu0, _, ho, fun e he hb => ?_⟩
      have hlt := (facts i0 _ hi0 ho).1 e he hb
      have := hbelow _ hlt
      have hjl : e.on < listed.size := by omega
      simpa [hjl] using this
    rw [show c + 1 + (ops.size - m) = (c + (ops.size - m)) + 1 by omega]
    refine ⟨fun h0 => (by rw [h0] at hready; cases hready), fun i hir => ?_⟩
    obtain ⟨hu, o, ho, hall⟩ := mem_ready.1 hir
    have hilt : i < ops.size := (Array.getElem?_eq_some_iff.1 ho).1
    have listed_of_bnd : ∀ j, bnd ops i j = true → listed.getD j false = true := by
      intro j hb
      simp only [bnd, ho] at hb
      obtain ⟨e, he, hb⟩ := Array.any_eq_true'.1 hb
      simp only [Bool.and_eq_true] at hb
      have := hall e he hb.1
      rwa [Nat.eq_of_beq_eq_true hb.2] at this
    have him : i < m := by
      rcases Nat.lt_or_ge i m with h | h
      · exact h
      · have hc := hchk2 i h hilt
        simp only [chkTail, ho, Bool.and_eq_true, List.all_eq_true, List.mem_range] at hc
        have := cov hld 12 i i0 (hc.2 i0 (by omega)) (fun o' ho' e he hb => by
          rw [ho] at ho'
          obtain rfl := Option.some.inj ho'
          exact hall e he hb)
        rw [not_listed hu0] at this
        cases this
    obtain ⟨f1, f2, f3, f4⟩ := facts i o him ho
    have hxun : i ≠ x → fr i = false → listed.getD x true = false := by
      intro hix hfr
      cases hlx : listed.getD x true with
      | false => rfl
      | true =>
        have hxl : x < listed.size := by omega
        have hlx' : listed.getD x false = true := by simpa [hxl] using hlx
        have := cov hld 12 x i (hanc i him hix hfr) (fun o' ho' e he hb => hld x o' hlx' ho' e he hb)
        rw [not_listed hu] at this
        cases this
    have hcond : ∀ j, j < m → (∃ t, (t ∈ tmpsOf o ∨ gdst ops o = some t) ∧ dstOf ops j = some t) → (listed.getD x true = false ∨ fr j = true ∨ j = x) := by
      rintro j hj ⟨t, ht, hd⟩
      by_cases hix : i = x
      · exact .inl (hix ▸ hu)
      · cases hfr : fr i with
        | true => exact .inr (.inl (hfree i o him hix hfr ho t ht j hj hd).1)
        | false => exact .inl (hxun hix hfr)
    have byLook : ∀ t, (t ∈ tmpsOf o ∨ gdst ops o = some t) → ∀ B, look (envF ops L As 0 i) t = some B → B.p (a.eval (.tmp t)) w := by
      intro t ht B hB
      rcases look_envF L As t B i hB with ⟨j, hj, hd, rfl⟩ | ⟨hn, hl⟩
      · exact hi.hA j (by omega) (listed_of_bnd j (f3 t ht j (by omega) hd)) (hcond j (by omega) ⟨t, ht, hd⟩) t hd
      · refine hi.hL t B hl fun j hj hd => ?_
        have hb := f3 t ht j hj hd
        simp only [bnd, ho] at hb
        obtain ⟨e, he, hb⟩ := Array.any_eq_true'.1 hb
        simp only [Bool.and_eq_true] at hb
        have hlt := f1 e he hb.1
        rw [Nat.eq_of_beq_eq_true hb.2] at hlt
        exact hn j hlt hd
    have ops1 : ∀ x ∈ o.op.operands, ∀ B, opd (envF ops L As 0 i) x = some B → B.p (a.eval x) w := fun x hx B hB => by
      cases x with
      | tmp t => exact byLook t (.inl (List.mem_filterMap.2 ⟨.tmp t, by simpa using hx, rfl⟩)) B hB
      | const v => simp [opd] at hB; subst hB; rfl
      | global g => simp [opd] at hB; subst hB; rfl
      | func f => simp [opd] at hB; subst hB; rfl
    have hdst : dstOf ops i = o.dst := by simp [dstOf, ho]
    have step : ∀ v w', Chg S w w' → (i ≠ x → Ext w w') → (i = x → ∀ j, j < m → j ≠ x → fr j = true → AvS S (As j)) → (As i).p v w' → (i = x → F w') → wpAnyIn (FW r) 0 P .any ops Q (c + (ops.size - m)) (listed.setIfInBounds i true) (a.put o.dst v) w' := by
      intro v w' hx hxe hxa hv hvF
      have stab : ∀ (A : VA) u, AvS S A → A.p u w → A.p u w' := fun A u hA h => hA.av _ _ _ hx h
      refine wpAny_mainZ hx0 hFst hm hchk hchk2 hanc hfree hops hX hLav hend c _ _ _ ?_ (by simpa using hsz) ?_ ?_ ?_
      · have := countP_upd m (fun j => !listed.getD j true) (fun j => !(listed.setIfInBounds i true).getD j true) i him (by simp only [hu, Bool.not_false])
          (by have hjl : i < listed.size := by omega
              simp [hjl]) (fun j hj => by simp only [getD_set_ne true (Ne.symm hj)])
        omega
      · intro j hj hj'
        rw [getD_set_ne true (by omega)]
        exact hun j hj hj'
      · exact hld.set fun o' ho' e he hb => by
          rw [ho] at ho'
          obtain rfl := Option.some.inj ho'
          exact hall e he hb
      · refine ⟨Chg.tr hi.ext hx, fun hl => ?_, fun hl => ?_, by simp [hi.size], by simp [hi.defers], fun t A ht hn => ?_, fun j hj hl hcj d hd => ?_⟩
        · have hix : i ≠ x := by
            rintro rfl
            have hjl : i < listed.size := by omega
            simp [hjl] at hl
          rw [getD_set_ne true hix] at hl
          exact Ext.tr (hi.pre hl) (hxe hix)
        · by_cases hix : i = x
          · exact hvF hix
          · rw [getD_set_ne false hix] at hl
            exact hFst _ _ (hxe hix) (hi.post hl)
        · have h0 := stab A _ ⟨hLav.av t A ht⟩ (hi.hL t A ht hn)
          cases hod : o.dst with
          | none => exact h0
          | some d =>
            have : d ≠ t := fun e => hn i him (by rw [hdst, hod, e])
            rw [eval_put_ne this]
            exact h0
        · by_cases hji : j = i
          · subst hji
            rw [hdst] at hd
            rw [hd, eval_put_same (by rw [hi.size]; exact f2 d hd)]
            exact hv
          · have hl' : listed.getD j false = true := by rwa [getD_set_ne false (Ne.symm hji)] at hl
            have hcj' : listed.getD x true = false ∨ fr j = true ∨ j = x := by
              by_cases hix : i = x
              · exact .inl (hix ▸ hu)
              · rw [getD_set_ne true hix] at hcj
                exact hcj
            have h1 := hi.hA j hj hl' hcj' d hd
            have h0 : (As j).p (a.eval (.tmp d)) w' := by
              by_cases hix : i = x
              · refine stab _ _ (hxa hix j hj (fun h => hji (h.trans hix.symm)) ?_) h1
                rcases hcj with h | h | h
                · have hxl : x < listed.size := by omega
                  subst hix
                  simp [hxl] at h
                · exact h
                · exact absurd (h.trans hix.symm) hji
              · exact (As j).st _ _ _ (hxe hix) h1
            cases hod : o.dst with
            | none => exact h0
            | some d' =>
              have : d' ≠ d := fun e => f4 j hj hji d' hod (by rw [hd, e])
              rw [eval_put_ne this]
              exact h0
    unfold wpOpIn
    simp only [ho]
    by_cases hix : i = x
    · obtain ⟨hgd, hxo⟩ := hX o (hix ▸ ho)
      have hw : Region.wanted o (yielded ops a.tmps) = true := by unfold Region.wanted; rw [hgd]
      rw [if_pos hw]
      have hpre : Ext w0 w := hi.pre (hix ▸ hu)
      exact (hxo.out a.eval w hpre (hix ▸ ops1)).wp fun v w' hv => step v w' hv.1 (fun h => absurd hix h) (fun _ j hj hjx => by
        have hoj : ops[j]? = some (ops[j]'(by omega)) := by simp
        exact fun hfj => ((hops j _ hj hjx hoj).2 hfj).2) (hix ▸ hv.2.1) (fun _ => hv.2.2)
    · have hg : if Region.wanted o (yielded ops a.tmps) then OpR P o a.eval w (fun v w' => Ext w w' ∧ (As i).p v w') else (As i).p undef w := by
        cases hfr : fr i with
        | true => exact ((hops i o him hix ho).2 hfr).1 w hi.ext a w (Ext.rfl' w) ops1 (fun d B hd hB => byLook d (.inr hd) B hB)
        | false => exact (hops i o him hix ho).1 hfr a w (hi.pre (hxun hix hfr)) ops1 (fun d B hd hB => byLook d (.inr hd) B hB)
      split
      · rename_i hw
        rw [if_pos hw] at hg
        exact (hg.wp fun v w' hv => step v w' (Ext.chg hv.1 S) (fun _ => hv.1) (fun h => absurd h hix) hv.2 (fun h => absurd h hix))
      · rename_i hw
        rw [if_neg hw] at hg
        exact ⟨fun _ _ => trivial, step undef w (Chg.rfl' S w) (fun _ => Ext.rfl' _) (fun h => absurd h hix) hg (fun h => absurd h hix)⟩

def chkZ (ops : Array Oper) (m : Nat) (fr : List Bool) : Bool :=
  ((List.range (m - 1)).all fun j => frF fr j || covers ops 12 (m - 1) j) &&
  ((List.range (m - 1)).all fun i => !frF fr i || match ops[i]? with
    | none => false
    | some o => (tmpsOf o ++ (gdst ops o).toList).all fun t => (List.range m).all fun j => (match dstOf ops j with | some d => !Nat.beq d t | none => true) || (frF fr j && Nat.blt j (m - 1)))
/-- THE RULE: m operations first, the last of them changes blocks of S -/
theorem regZ {id : Nat} {ops : Array Oper} {L : Env} {a : Act} {w : World} (m : Nat) (fr : List Bool) (S : Nat → Prop) (F : World → Prop) (hFst : ∀ w w', Ext w w' → F w → F w') (hmix : P.follows .mixedOrders = true) (hf : FrD n ds a w L) [hL : AvSL S L] (hchk : chk ops m n = true) (hchkZ : chkZ ops m fr = true)
    (h : RegZ P ops w S F fr (ops.toList.take m) (fun L' => ∀ a' w', Chg S w w' → F w' → FrD n ds a' w' L' → wpListIn (FW r) 0 P ops Q (ops.toList.drop m) a' w') L L) : (Code.region id ops true).wpIn (FW r) 0 P Q a w := by
  simp only [chk, Bool.and_eq_true, List.all_eq_true, List.mem_range, Bool.or_eq_true, Nat.ble_eq] at hchk
  obtain ⟨⟨hm, h1⟩, h2⟩ := hchk
  refine wpIn_region_any hmix ?_
  have hlen : (ops.toList.take m).length = m := by simp; omega
  obtain ⟨As, hfl, hAs, hX, hK⟩ := RegZ_As (ops := ops) (ops.toList.take m) fr 0 L L (fun j hj => by
    rw [hlen] at hj
    rw [Nat.zero_add, List.getElem?_take, if_pos hj]; simp) h
  rw [hlen] at hK hfl
  have hxm : fr.length = m - 1 := by omega
  have hx : m - 1 < m := by omega
  rw [hxm] at hK hX hAs
  simp only [chkZ, Bool.and_eq_true, List.all_eq_true, List.mem_range, Bool.or_eq_true] at hchkZ
  obtain ⟨z1, z2⟩ := hchkZ
  have hext : Ext w { w with drawn := w.drawn + 1 } := Ext.drew w
  have := wpAny_mainZ (P := P) (ops := ops) (Q := Q) (w0 := w) (n := n) (ds := ds) (m := m) (x := m - 1) (fr := frF fr) (S := S) (r := r) (L := L) (As := As) hx hFst hm h1 (fun i hi hi' => by
      rcases h2 i hi' with h | h
      · simp only [Nat.blt_eq] at h; omega
      · exact h) (fun j hj hjx hfj => by
      rcases z1 j (by omega) with h | h
      · rw [hfj] at h; cases h
      · exact h) (fun i o hi hix hfi ho t ht j hj hd => by
      have := z2 i (by omega)
      rw [hfi, ho] at this
      simp only [Bool.not_true, Bool.false_eq_true, false_or, List.all_eq_true, List.mem_append, Option.mem_toList, List.mem_range, Bool.or_eq_true] at this
      rcases this t ht j hj with h | h
      · rw [hd] at h; simp at h
      · rw [Bool.and_eq_true, Nat.blt_eq] at h
        exact ⟨h.1, by omega⟩) (fun j o hj hjx ho => hAs j o (by omega) (by simpa using ho)) (fun o ho => hX o (by simpa using ho)) hL (fun a w hx hF hf => hK a w hx hF hf) m
    (Array.replicate ops.size false) a { w with drawn := w.drawn + 1 } ?_ (by simp) ?_ ?_ ⟨hext.chg S, fun _ => hext, fun hl => ?_, hf.size, hf.defers, fun t A ht _ => A.st _ _ _ hext (hf.val t A ht), fun i hi hl => ?_⟩
  · rwa [show m + (ops.size - m) = ops.size by omega] at this
  · have : (List.range m).countP (fun i => !(Array.replicate ops.size false).getD i true) = (List.range m).length := by
      refine List.countP_eq_length.2 fun i hi => ?_
      have := List.mem_range.1 hi
      have hlt : i < ops.size := by omega
      simp [hlt]
    simpa using this
  · intro j _ hj
    simp [hj]
  · intro i o hl
    have : (Array.replicate ops.size false).getD i false = false := by
      by_cases hlt : i < ops.size <;> simp [hlt]
    rw [this] at hl; cases hl
  · have : (Array.replicate ops.size false).getD (m - 1) false = false := by
      by_cases hlt : m - 1 < ops.size <;> simp [hlt]
    rw [this] at hl; cases hl
  · have : (Array.replicate ops.size false).getD i false = false := by
      by_cases hlt : i < ops.size <;> simp [hlt]
    rw [this] at hl; cases hl
end
section
variable {P : Program} {w0 : World} {L L2 : Env} {ty : TypeId} {pos : String} {aft : Array Edge}
variable {ops : Array Oper} {rest : List Oper} {K : Env → Prop} {A : VA} {op : Op} {dd : Nat} {S : Nat → Prop} {F : World → Prop} {fr : List Bool}
theorem za (h : OpC P w0 L ⟨some dd, op, ty, pos, aft, none⟩ A) (k : RegZ P ops w0 S F fr rest K ((dd, A) :: L) ((dd, Any) :: L2)) : RegZ P ops w0 S F (false :: fr) (⟨some dd, op, ty, pos, aft, none⟩ :: rest) K L L2 :=
  ⟨A, fun a w he hv _ => by simp only [Region.wanted, if_true]; exact h.out _ w he hv, k⟩
theorem zx {d : Option Nat} (h : XOpZ P w0 S F L ⟨d, op, ty, pos, aft, none⟩ A) (k : K (push d A L2)) : RegZ P ops w0 S F [] [⟨d, op, ty, pos, aft, none⟩] K L L2 := ⟨rfl, A, h, k⟩
end
end Go.Mono
namespace Go.Mono
open Go Go.RowKit
section
variable {P : Program} {w0 : World} {L : Env} {dst : Option Tmp} {ty : TypeId} {pos : String} {aft : Array Edge} {S : Nat → Prop} {F : World → Prop}
/-- an own slice as an assertion -/
def OwA {α : Type} (e : Enc α) (ty : TypeId) (B : Nat) (G : Nat → Prop) (xs : List α) : VA := ⟨fun v w => OwR e ty B G w xs v, fun v w w' k h => h.ext k⟩
end
end Go.Mono

namespace Go.Mono
open Go Go.RowKit
section
variable {P : Program} {k e : TypeId} {w w' : World} {b : Nat} {m : Int → Option Int}
theorem MapR.ext {n : Nat} (h : MapR P k e w b n m) (e' : Ext w w') : MapR P k e w' b n m := h.pres (e'.block b h.lt)
theorem MapR.gr {n : Nat} (h : MapR P k e w b n m) {c : Nat} (hg : w.grownBy w' (some c)) (hne : b ≠ c) : MapR P k e w' b n m := h.pres (hg.block b h.lt (by simpa using hne))
theorem MapR.ch {n : Nat} (h : MapR P k e w b n m) {S : Nat → Prop} (c : Chg S w w') (hS : ¬S b) : MapR P k e w' b n m := h.pres (c.block b h.lt hS)
end
section tail
variable {P : Program} {L : Env} {ty : TypeId} {pos : String} {aft : Array Edge} {r : Option Nat} {ds : List Deferred}
variable {ops : Array Oper} {rest : List Oper} {Q : Exit → Act → World → Prop} {n : Nat} {a : Act} {w : World} {x y z : Operand} {k e : TypeId}
end tail
end Go.Mono
namespace Go.Mono
open Go Go.RowKit
section
variable {P : Program} {w0 : World} {L : Env} {dst : Option Tmp} {ty : TypeId} {pos : String} {aft : Array Edge} {g : Option (Nat × Bool)} {t : TypeId}
theorem Dv.r1 {α : Type} {e : Enc α} {G : Nat → Prop} {x : α} {v : Value} {w : World} (ha : e.agg = false) (h : (Dv e G x).p v w) : e.r G w x [v] := by
  obtain ⟨cs, h1, h2⟩ := h
  have hl := e.len h1
  rw [e.k1 ha] at hl
  match cs, hl with
  | [u], _ =>
    rw [Enc.pack, ha] at h2
    have : v = u := h2
    rw [this]; exact h1
theorem Dv.slF {α : Type} {e : Enc α} {G : Nat → Prop} {xs : List α} {v : Value} {w : World} (h : (Dv (slE e) G xs).p v w) : ∃ ao n c, v = .slice ao n c := by
  rcases Dv.sl.1 h with ⟨rfl, _⟩ | ⟨ad, cap, cs, rfl, _⟩
  · exact ⟨_, _, _, rfl⟩
  · exact ⟨_, _, _, rfl⟩
end
theorem madeCells_get {z : Array Value} {k n i f : Nat} (hz : z.size = k) (hf : f < k) (hi : i < n) : (madeCells z (n * k))[0 + i * k + f]? = z[f]? := by
  have hlt : i * k + f < n * k := by
    have : (i + 1) * k ≤ n * k := Nat.mul_le_mul_right _ hi
    rw [Nat.add_mul, Nat.one_mul] at this
    omega
  have hm : (0 + i * k + f) % z.size = f := by rw [hz, Nat.zero_add, Nat.mul_comm, Nat.mul_add_mod]; exact Nat.mod_eq_of_lt hf
  have hfz : f < z.size := by omega
  rw [madeCells, Array.getElem?_map, Array.getElem?_range, if_pos (by omega)]
  simp only [Option.map_some, hm]
  simp [hfz]
end Go.Mono
namespace Go.Mono
open Go Go.RowKit
/-- a new variable -/
def AlA (B : Nat) (z : Value) (e : TypeId) : VA := ⟨fun v w => ∃ b, B ≤ b ∧ v = .pointer (some ⟨b, 0, none⟩) ∧ Blk w b z.cells e, fun v w w' k ⟨b, h1, h2, h3⟩ => ⟨b, h1, h2, h3.ext k⟩⟩
theorem alD {P : Program} {w0 : World} {L : Env} {dst : Option Tmp} {ty : TypeId} {pos : String} {aft : Array Edge} {g : Option (Nat × Bool)} {e : TypeId} {z : Value} {sz bz : Nat} (hz : (P.info? e).map (fun i => (i.zero, i.size, i.bytes)) = some (some z, sz, bz)) :
    OpC P w0 L ⟨dst, .alloc e, ty, pos, aft, g⟩ (AlA w0.heap.size z e) := by
  refine ⟨fun ρ w he hv => ?_⟩
  obtain ⟨i, hi, hzi, _, _⟩ := info_parts hz
  simp only [OpR, execOp, Instr.alloc, zeroValue, typeInfo, hi, hzi, Sem.run_bind, Sem.run_pure, run_newVar, Result.andThen_ok]
  simp [hi, hzi, run_newVar]
  exact ⟨ext_alloc _ _, _, he.size, rfl, blk_alloc _ _ _⟩
theorem Blk.ne {w : World} {a b : Nat} {cs cs' : Array Value} {t t' : TypeId} (h : Blk w a cs t) (h' : Blk w b cs' t') (ht : t ≠ t') : a ≠ b := by
  rintro rfl
  unfold Blk at h h'
  rw [h] at h'
  simp at h'
  exact ht h'.2
end Go.Mono

namespace Go.Mono
open Go Go.RowKit

theorem foldl_set : ∀ (c : List Value) (n off : Nat) (cells : Array Value), off + n + c.length ≤ cells.size →
    (c.zipIdx n).foldl (fun cs (p : Value × Nat) => cs.setIfInBounds (off + p.2) p.1) cells = (cells.toList.take (off + n) ++ c ++ cells.toList.drop (off + n + c.length)).toArray := by
  intro c
  induction c with
  | nil => intro n off cells h; simp
  | cons u c ih =>
    intro n off cells h
    simp only [List.length_cons] at h
    rw [List.zipIdx_cons, List.foldl_cons, ih (n + 1) off _ (by simp; omega)]
    simp only [Array.toList_setIfInBounds, List.length_cons]
    congr 1
    have hlt : off + n < cells.toList.length := by simp; omega
    rw [← Nat.add_assoc, List.take_succ_eq_append_getElem (by simpa using hlt), List.getElem_set_self, List.take_set_of_le (Nat.le_refl _), List.drop_set_of_lt (by omega)]
    rw [show off + n + 1 + c.length = off + n + (c.length + 1) by omega]
    simp
def pl {α : Type} : Nat → List α → List (Nat × α)
  | _, [] => []
  | n, v :: vs => (n, v) :: pl (n + 1) vs
theorem pl_map {α β : Type} (f : α → β) : ∀ (n : Nat) (vs : List α), (pl n vs).map (fun p => (p.1, f p.2)) = pl n (vs.map f)
  | _, [] => rfl
  | n, v :: vs => by rw [pl, List.map_cons, pl_map f (n + 1) vs]; rfl
theorem fill_seq {k : Nat} : ∀ (vs : List Value) (cs : List (List Value)) (n : Nat) (done : List Value) (cells : Array Value), vs.map Value.cells = cs.map List.toArray → (∀ c ∈ cs, c.length = k) → done.length = n * k → cells.toList.take (n * k) = done → cells.size = (n + vs.length) * k →
    Instr.fill (fun i => some (i * k, k)) cells (pl n vs) = some (done ++ cs.flatten).toArray
  | [], cs, n, done, cells, hv, hc, hd, ht, hs => by
    have : cs = [] := by cases cs <;> simp at hv ⊢
    subst this
    have : cells.toList = done := by rw [← ht, List.take_of_length_le]; rw [Array.length_toList, hs]; simp
    simp [pl, Instr.fill, ← this]
  | v :: vs, [], n, done, cells, hv, hc, hd, ht, hs => by simp at hv
  | v :: vs, c :: cs, n, done, cells, hv, hc, hd, ht, hs => by
    simp only [List.map_cons, List.cons.injEq] at hv
    have hcl := hc c (by simp)
    have hsz : v.cells.size = k := by rw [hv.1, List.size_toArray, hcl]
    rw [List.length_cons] at hs
    have hb : n * k + k ≤ cells.size := by rw [hs, Nat.add_mul, Nat.add_mul]; omega
    rw [pl, Instr.fill]
    have n1 : ¬ (n * k + k > cells.size) := by omega
    simp only [hsz, ne_eq, not_true_eq_false, decide_false, Bool.false_or, decide_eq_true_eq, n1, if_false, Bool.false_eq_true]
    rw [hv.1]
    have e1 : c.toArray.zipIdx.foldl (fun cs (p : Value × Nat) => cs.setIfInBounds (n * k + p.2) p.1) cells = (cells.toList.take (n * k) ++ c ++ cells.toList.drop (n * k + c.length)).toArray := by
      rw [foldl_zip]
      have := foldl_set c 0 (n * k) cells (by omega)
      simpa using this
    have e2 := fill_seq vs cs (n + 1) (done ++ c) (cells.toList.take (n * k) ++ c ++ cells.toList.drop (n * k + c.length)).toArray hv.2 (fun x hx => hc x (by simp [hx])) (by rw [List.length_append, hd, hcl, Nat.add_mul, Nat.one_mul]) (by
      rw [ht]
      simp only [List.append_assoc]
      rw [← List.append_assoc, List.take_left' (by rw [List.length_append, hd, hcl, Nat.add_mul, Nat.one_mul])]) (by
      simp only [List.size_toArray, List.length_append, List.length_take, List.length_drop, Array.length_toList, hcl]
      rw [Nat.min_eq_left (by omega), hs]
      have : (n + (vs.length + 1)) * k = (n + 1 + vs.length) * k := by congr 1; omega
      rw [this] at hs ⊢
      have : n * k + k ≤ (n + 1 + vs.length) * k := by omega
      omega)
    rw [List.flatten_cons, ← List.append_assoc, ← e2]
    exact congrArg (fun x => Instr.fill (fun i => some (i * k, k)) x (pl (n + 1) vs)) e1
section
variable {P : Program} {w0 : World} {L : Env} {dst : Option Tmp} {ty : TypeId} {pos : String} {aft : Array Edge} {g : Option (Nat × Bool)} {t te : TypeId}
variable {α : Type} {e : Enc α} {G : Nat → Prop}
def IsL (L : Env) (w0 : World) (e : Enc α) (G : Nat → Prop) : List Operand → List α → Prop
  | [], [] => True
  | x :: xs, z :: zs => Is L w0 x (Dv e G z) ∧ IsL L w0 e G xs zs
  | _, _ => False
theorem isL_vals {ρ : Operand → Value} {w : World} {xs0 : List Operand} (he : Ext w0 w) (hv : ∀ x ∈ xs0, ∀ B, opd L x = some B → B.p (ρ x) w) : ∀ (xs : List Operand) (zs : List α), (∀ x ∈ xs, x ∈ xs0) → IsL L w0 e G xs zs →
    ∃ cs : List (List Value), (xs.map ρ).map Value.cells = cs.map List.toArray ∧ (∀ c ∈ cs, c.length = e.k) ∧ Cells e G w zs cs.flatten ∧ xs.length = zs.length
  | [], [], _, _ => ⟨[], rfl, (fun c hc => by cases hc), rfl, rfl⟩
  | [], _ :: _, _, h => h.elim
  | _ :: _, [], _, h => h.elim
  | x :: xs, z :: zs, hm, h => by
    obtain ⟨⟨B, hB, hB2⟩, h2⟩ := h
    obtain ⟨c, h3, h4⟩ := hB2 _ _ he (hv x (hm x (by simp)) B hB)
    obtain ⟨cs, a1, a2, a3, a4⟩ := isL_vals he hv xs zs (fun y hy => hm y (by simp [hy])) h2
    refine ⟨c :: cs, ?_, ?_, ⟨c, cs.flatten, rfl, h3, a3⟩, by simp [a4]⟩
    · simp only [List.map_cons, a1]
      rw [h4, e.pack_cells h3]
    · intro d hd
      rcases List.mem_cons.1 hd with rfl | hd
      · exact e.len h3
      · exact a2 d hd
theorem bslN {z0 : Value} {sz bz n : Nat} {xs : List Operand} {zs : List α} (ht : P.underlying t = some (.slice te)) (hi : (P.info? te).map (fun i => (i.zero, i.size, i.bytes)) = some (some z0, sz, bz)) (hk : sz = e.k) (hn : zs.length = n) (hn0 : 0 < n) (hk2 : n * e.k ≤ 16777216) (hz0 : z0.cells.size = e.k) (hG : ∀ b, G b → b < w0.heap.size)
    (hx : IsL L w0 e G xs zs) : OpC P w0 L ⟨dst, .buildSlice t n (pl 0 xs).toArray, ty, pos, aft, g⟩ (Dv (slE e) G zs) := by
  refine ⟨fun ρ w he hv => ?_⟩
  obtain ⟨it, hit, hiz, hsz, _⟩ := info_parts hi
  subst hk
  have hops : (Op.buildSlice t n (pl 0 xs).toArray).operands = xs.toArray := by
    have : ∀ (k : Nat) (xs : List Operand), (pl k xs).map (·.2) = xs := by
      intro k xs
      induction xs generalizing k with
      | nil => rfl
      | cons x xs ih => rw [pl, List.map_cons, ih]
    simp [Op.operands, this]
  have hv' : ∀ x ∈ xs, ∀ B, opd L x = some B → B.p (ρ x) w := fun x hx B hB => hv x (by
    show x ∈ (Op.buildSlice t n (pl 0 xs).toArray).operands
    rw [hops]; simpa using hx) B hB
  obtain ⟨cs, a1, a2, a3, a4⟩ := isL_vals he hv' xs zs (fun x h => h) hx
  have hxl : xs.length = n := by rw [a4, hn]
  have hpos := e.pos
  have hnk : 0 < n * e.k := Nat.mul_pos hn0 hpos
  have hfl := fill_seq (k := e.k) (xs.map ρ) cs 0 [] ((Array.range (n * it.size)).map (z0.cells[· % z0.cells.size]!)) a1 a2 (by simp) (by simp) (by simp [hsz, hxl])
  have hr := run_buildSlice (P := P) w t te n (pl 0 (xs.map ρ)).toArray cs.flatten.toArray it z0 ht hit hiz (by rw [hsz]; omega) (by rw [hsz]; omega) (by rw [hsz] at hfl ⊢; simpa using hfl)
  have hm : ((pl 0 xs).toArray.map fun p => (p.1, ρ p.2)) = (pl 0 (xs.map ρ)).toArray := by
    rw [List.map_toArray, pl_map]
  have hrun : (execOp ρ ⟨dst, .buildSlice t n (pl 0 xs).toArray, ty, pos, aft, g⟩).run P w = .ok (.value (.slice (some ⟨w.heap.size, 0, none⟩) n n)) (w.alloc (.cells cs.flatten.toArray te)) := by
    simp only [execOp, Sem.run_bind]
    rw [show ((pl 0 xs).toArray.map fun (x : Nat × Operand) => match x with | (i, x) => (i, ρ x)) = (pl 0 (xs.map ρ)).toArray from hm, hr]
    simp only [Result.andThen_ok, Sem.run_pure]
  simp only [OpR, hrun]
  have hx := ext_alloc w (.cells cs.flatten.toArray te)
  refine ⟨hx, Dv.sl.2 (.inr ⟨_, n, cs.flatten, by rw [hn], by omega, fun hg => ?_, by simp, a3.pres (fun b hb hn => hx.block b hb) hx.size, fun i u hu => ?_⟩)⟩
  · exact absurd (hG _ hg) (Nat.not_lt.2 he.size)
  · rw [Addr.add_lit, Nat.zero_add, (blk_alloc w cs.flatten.toArray te).cell i, List.getElem?_toArray]
    exact hu
theorem bsl2 {z0 : Value} {sz bz : Nat} {x y : Operand} {a b : α} (ht : P.underlying t = some (.slice te)) (hi : (P.info? te).map (fun i => (i.zero, i.size, i.bytes)) = some (some z0, sz, bz)) (hk : sz = e.k) (hk2 : 2 * e.k ≤ 16777216) (hz0 : z0.cells.size = e.k) (hG : ∀ b, G b → b < w0.heap.size)
    (hx : Is L w0 x (Dv e G a)) (hy : Is L w0 y (Dv e G b)) : OpC P w0 L ⟨dst, .buildSlice t 2 #[(0, x), (1, y)], ty, pos, aft, g⟩ (Dv (slE e) G [a, b]) :=
  bslN (n := 2) (xs := [x, y]) ht hi hk rfl (by decide) hk2 hz0 hG ⟨hx, hy, trivial⟩
/-- s[:i] of a datum -/
theorem slcD {x y : Operand} {xs : List α} {i : Nat} (ht : P.underlying t = some (.slice te)) (hs : (P.info? te).map (·.size) = some e.k) (hx : Is L w0 x (Dv (slE e) G xs)) (hy : opd L y = some (E (.int .i64 (i : Nat)))) (hi : i ≤ xs.length) :
    OpC P w0 L ⟨dst, .slice t x none (some y) none, ty, pos, aft, g⟩ (Dv (slE e) G (xs.take i)) :=
  opc_pure fun ρ w he hv => by
    have h := Dv.sl.1 (hx.v he hv (by simp [Op.operands]))
    have h2 := opE hv (x := y) (by simp [Op.operands]) hy
    rcases h with ⟨h, rfl⟩ | ⟨ad, cap, cs, h, hc, h3, h4, h5, h6⟩
    · have hi0 : i = 0 := by simpa using hi
      subst hi0
      refine ⟨.slice none 0 0, ?_, Dv.nil⟩
      simp [execOp, h, h2, Instr.sliceAt, Instr.slice, Instr.sliceBounds, Instr.sliceBound, asIntOf, run_underlying ht, sz_of hs]
    · have h8 := h5.take i
      have hic : (i : Nat) ≤ cap := Nat.le_trans hi hc
      refine ⟨.slice (some ad) i cap, ?_, Dv.sl.2 (.inr ⟨ad, cap, cs.take (i * e.k), by rw [List.length_take, Nat.min_eq_left hi], by rw [List.length_take, Nat.min_eq_left hi]; exact hic, h3, h4, h8, fun j u hu => h6 j u (by rw [List.getElem?_take] at hu; split at hu; exact hu; cases hu)⟩)⟩
      simp [execOp, h, h2, Instr.sliceAt, Instr.slice, Instr.sliceBounds, Instr.sliceBound, asIntOf, run_underlying ht, sz_of hs, hic, Addr.add]
end
/-- the end of a function: three results -/
theorem ret3 {P : Program} {fn : Func} {t u s : Nat} {R : Ending → World → Prop} {n : Nat} {a : Act} {w : World} {L : Env} {A B C : VA} (hr : fn.results = #[.tmp t, .tmp u, .tmp s]) (hf : Fr n a w L) (h : look L t = some A) (h' : look L u = some B) (h'' : look L s = some C)
    (hR : ∀ v x y, A.p v w → B.p x w → C.p y w → R (.returned (.tuple #[v, x, y])) w) : bodyPost P fn R .ret a w :=
  ⟨hf.defers, .tuple #[a.eval (.tmp t), a.eval (.tmp u), a.eval (.tmp s)], by simp [results, hr, Act.eval], hR _ _ _ (hf.val t A h) (hf.val u B h') (hf.val s C h'')⟩
end Go.Mono

namespace Go.Mono
open Go Go.RowKit
theorem bslO1 {P : Program} {w0 : World} {L : Env} {dst : Option Tmp} {ty : TypeId} {pos : String} {aft : Array Edge} {g : Option (Nat × Bool)} {t te : TypeId} {x : Operand} {B : Nat} {G : Nat → Prop} {z : Int} {bz : Nat} {z0 : Value} (ht : P.underlying t = some (.slice te)) (hi : (P.info? te).map (fun i => (i.zero, i.size, i.bytes)) = some (some z0, 1, bz)) (hz0 : z0.cells.size = 1)
    (hx : opd L x = some (E (.int .i64 z))) (hB : B ≤ w0.heap.size) (hG : ∀ b, G b → b < B) : OpC P w0 L ⟨dst, .buildSlice t 1 #[(0, x)], ty, pos, aft, g⟩ (OwA intE te B G [z]) := by
  refine ⟨fun ρ w he hv => ?_⟩
  have hxv := opE hv (x := x) (by simp [Op.operands]) hx
  obtain ⟨it, hit, hiz, hsz, _⟩ := info_parts hi
  have hfl := fill_seq (k := 1) [Value.int .i64 z] [[Value.int .i64 z]] 0 [] ((Array.range (1 * 1)).map (z0.cells[· % z0.cells.size]!)) rfl (by simp) (by simp) (by simp) (by simp)
  have hr := run_buildSlice (P := P) w t te 1 #[(0, .int .i64 z)] #[.int .i64 z] it z0 ht hit hiz (by rw [hsz]; omega) (by rw [hsz]; omega) (by rw [hsz]; exact hfl)
  have hrun : (execOp ρ ⟨dst, .buildSlice t 1 #[(0, x)], ty, pos, aft, g⟩).run P w = .ok (.value (.slice (some ⟨w.heap.size, 0, none⟩) 1 1)) (w.alloc (.cells #[.int .i64 z] te)) := by
    simp only [execOp, Sem.run_bind, List.map_toArray, List.map_cons, List.map_nil, hxv, hr, Result.andThen_ok, Sem.run_pure]
  simp only [OpR, hrun]
  have hx := ext_alloc w (.cells #[.int .i64 z] te)
  have hBw : B ≤ w.heap.size := Nat.le_trans hB he.size
  refine ⟨hx, ⟨[.int .i64 z], ⟨rfl, .inr ⟨w.heap.size, 1, #[.int .i64 z], rfl, hBw, blk_alloc w _ _, Nat.le_refl _, by decide, rfl, rfl⟩⟩, ⟨[.int .i64 z], [], rfl, rfl, rfl⟩⟩, hG, Nat.le_trans hBw hx.size⟩
theorem OwR.slN {α : Type} {e : Enc α} [FlE e] {ty : TypeId} {B : Nat} {G N : Nat → Prop} {w : World} {xs : List α} {v : Value} (h : OwR e ty B G w xs v) (hN : ∀ b, v.ownBlock = some b → ¬N b) : (Dv (slE e) N xs).p v w := by
  obtain ⟨cs, h1, h2⟩ := h.own
  refine Dv.sl.2 ?_
  rcases h1.2 with ⟨hv, hn⟩ | ⟨g, cap, cur, hv, hB, hg, hn, hm, hs, ht⟩
  · exact .inl ⟨hv, List.eq_nil_of_length_eq_zero hn⟩
  · exact .inr ⟨_, cap, cs, hv, hn, hN g (by rw [hv]; rfl), (Array.getElem?_eq_some_iff.1 hg).1, Cells.fl h2, h1.cells (by rw [hv]; rfl)⟩
end Go.Mono

namespace Go.Mono
open Go Go.RowKit
section tail
variable {P : Program} {L : Env} {ty : TypeId} {pos : String} {aft : Array Edge} {r : Option Nat} {ds : List Deferred}
variable {ops : Array Oper} {rest : List Oper} {Q : Exit → Act → World → Prop} {n : Nat} {a : Act} {w : World} {x y : Operand}
/-- a store of a struct into a part of a block -/
theorem tl_stP {t bt : TypeId} {b off s : Nat} {cs new : Array Value} (ht : TI P t true s) (hf : FrD n ds a w L) [hL : AvL b L] (hx : opd L x = some (E (.pointer (some ⟨b, off, none⟩)))) (hy : opd L y = some (E (.agg new))) (h1 : new.all (·.oneCell') = true)
    (hb : Blk w b cs bt) (hn : new.size = s) (ho : off + s ≤ cs.size) (k : ∀ w', w.grownBy w' (some b) → w'.heap.size = w.heap.size → Blk w' b (cs.toList.take off ++ new.toList ++ cs.toList.drop (off + s)).toArray bt → FrD n ds a w' L → wpListIn (FW r) 0 P ops Q rest a w') :
    wpListIn (FW r) 0 P ops Q (⟨none, .store t x y, ty, pos, aft, none⟩ :: rest) a w :=
  wpListIn_plain rfl fun K hK => by
    have hxv : a.eval x = .pointer (some ⟨b, off, none⟩) := hf.opd x _ hx
    have hyv : a.eval y = .agg new := hf.opd y _ hy
    have hrun := run_storeCells_at (P := P) b off bt new.toList 0 cs w hb (by simp; omega) (fun v hv => by rw [Array.all_eq_true_iff_forall_mem] at h1; exact h1 v (by simpa using hv))
    simp only [Nat.add_zero, Array.length_toList, hn] at hrun
    have hc : (Value.agg new).cells = new := rfl
    refine OpR.wp (R := fun _ w' => w' = w.setRow b (cs.toList.take off ++ new.toList ++ cs.toList.drop (off + s)).toArray) ?_ ?_
    · simp [OpR, execOp, Instr.storeAt, Instr.sureAddr, hxv, hyv, storeVar, hc, ht.size, hn, hrun]
    · rintro _ w' rfl
      exact hK _ _ (k _ (grownBy_setRow _ _ _) (by simp) (setRow_heap _ _ _ _ _ _ hb) (hf.gr (grownBy_setRow _ _ _)))
end tail
section
variable {P : Program} {w0 : World} {L : Env} {dst : Option Tmp} {ty : TypeId} {pos : String} {aft : Array Edge} {α : Type} {e : Enc α}
end
end Go.Mono

namespace Go.Mono
open Go Go.RowKit

/-- the operations behind the one that changes -/
def RegP (P : Program) (ops : Array Oper) (w0 : World) (S : Nat → Prop) (F : World → Prop) : List Oper → (Env → Prop) → Env → Prop
  | [], K, L2 => K L2
  | o :: rest, K, L2 => ∃ A, (∀ w1, Chg S w0 w1 → F w1 → GOp P ops w1 L2 o A) ∧ RegP P ops w0 S F rest K (push o.dst A L2)
/-- the operations in the order of the text; fr tells of those ahead of the one that changes: 0: ahead of it, forgotten behind it; 1: free; 2: ahead of it, known behind it; L: for these, L2: for what stands behind -/
def RegQ (P : Program) (ops : Array Oper) (w0 : World) (S : Nat → Prop) (F : World → Prop) : List Nat → List Oper → (Env → Prop) → Env → Env → Prop
  | [], o :: rest, K, L, L2 => o.guard = none ∧ ∃ A, XOpZ P w0 S F L o A ∧ RegP P ops w0 S F rest K (push o.dst A L2)
  | c :: fr, o :: rest, K, L, L2 => ∃ A, (c ≠ 1 → GOp P ops w0 L o A) ∧ (c = 1 → ∀ w1, Chg S w0 w1 → GOp P ops w1 L o A) ∧ (c ≠ 0 → AvS S A) ∧ RegQ P ops w0 S F fr rest K (push o.dst A L) (push o.dst (if c ≠ 0 then A else Any) L2)
  | _, _, _, _, _ => False
def frQ (fr : List Nat) (j : Nat) : Bool := Nat.beq (fr.getD j 0) 1
def kpQ (fr : List Nat) (j : Nat) : Bool := !Nat.beq (fr.getD j 0) 0

section
variable {P : Program} {ops : Array Oper} {Q : Exit → Act → World → Prop} {w0 : World} {n : Nat} {ds : List Deferred} {r : Option Nat}

theorem RegP_As {S : Nat → Prop} {F : World → Prop} {K : Env → Prop} : ∀ (M : List Oper) (k : Nat) (L : Env), (∀ j, j < M.length → ops[k + j]? = M[j]?) → RegP P ops w0 S F M K L →
    ∃ As : Nat → VA, (∀ j o, j < M.length → ops[k + j]? = some o → ∀ w1, Chg S w0 w1 → F w1 → GOp P ops w1 (envF ops L As k j) o (As j)) ∧ K (envF ops L As k M.length)
  | [], k, L, _, h => ⟨fun _ => Any, fun j o hj => by simp at hj, h⟩
  | o :: M, k, L, hM, ⟨A, hA, hr⟩ => by
    have h0 : ops[k]? = some o := by simpa using hM 0 (by simp)
    have hd : dstOf ops k = o.dst := by simp [dstOf, h0]
    obtain ⟨As, h1, h2⟩ := RegP_As M (k + 1) (push o.dst A L) (fun j hj => by
      have := hM (j + 1) (by simpa using hj)
      rw [show k + 1 + j = k + (j + 1) by omega]
      simpa using this) hr
    refine ⟨consFY A As, ?_, ?_⟩
    · intro j o' hj ho'
      cases j with
      | zero =>
        rw [Nat.add_zero, h0] at ho'
        obtain rfl := Option.some.inj ho'
        exact hA
      | succ j =>
        rw [envFY_cons, hd]
        exact h1 j o' (by simpa using hj) (by rw [show k + 1 + j = k + (j + 1) by omega]; exact ho')
    · rw [List.length_cons, envFY_cons, hd]
      exact h2
theorem RegQ_As {S : Nat → Prop} {F : World → Prop} {K : Env → Prop} : ∀ (M : List Oper) (fr : List Nat) (k : Nat) (L L2 : Env), (∀ j, j < M.length → ops[k + j]? = M[j]?) → RegQ P ops w0 S F fr M K L L2 →
    ∃ As : Nat → VA, fr.length < M.length ∧ (∀ j o, j < fr.length → ops[k + j]? = some o → (frQ fr j = false → GOp P ops w0 (envF ops L As k j) o (As j)) ∧ (frQ fr j = true → ∀ w1, Chg S w0 w1 → GOp P ops w1 (envF ops L As k j) o (As j)) ∧ (kpQ fr j = true → AvS S (As j))) ∧
      (∀ o, ops[k + fr.length]? = some o → o.guard = none ∧ XOpZ P w0 S F (envF ops L As k fr.length) o (As fr.length)) ∧
      (∀ j o, fr.length < j → j < M.length → ops[k + j]? = some o → ∀ w1, Chg S w0 w1 → F w1 → GOp P ops w1 (envF ops L2 (fun j => if kpQ fr j = true ∨ fr.length ≤ j then As j else Any) k j) o (As j)) ∧
      K (envF ops L2 (fun j => if kpQ fr j = true ∨ fr.length ≤ j then As j else Any) k M.length)
  | [], [], _, _, _, _, h => h.elim
  | [], _ :: _, _, _, _, _, h => h.elim
  | o :: M, [], k, L, L2, hM, ⟨hg, A, h1, h2⟩ => by
    have h0 : ops[k]? = some o := by simpa using hM 0 (by simp)
    have hd : dstOf ops k = o.dst := by simp [dstOf, h0]
    obtain ⟨As, h3, h4⟩ := RegP_As M (k + 1) (push o.dst A L2) (fun j hj => by
      have := hM (j + 1) (by simpa using hj)
      rw [show k + 1 + j = k + (j + 1) by omega]
      simpa using this) h2
    have e : (fun j => if kpQ [] j = true ∨ ([] : List Nat).length ≤ j then consFY A As j else Any) = consFY A As := by
      funext j
      simp
    refine ⟨consFY A As, by simp, fun j o hj => by simp at hj, fun o' ho' => ?_, fun j o' hj hj2 ho' => ?_, ?_⟩
    · rw [List.length_nil, Nat.add_zero, h0] at ho'
      obtain rfl := Option.some.inj ho'
      exact ⟨hg, h1⟩
    · rw [e]
      cases j with
      | zero => simp at hj
      | succ j =>
        rw [envFY_cons, hd]
        exact h3 j o' (by simpa using hj2) (by rw [show k + 1 + j = k + (j + 1) by omega]; exact ho')
    · rw [e, List.length_cons, envFY_cons, hd]
      exact h4
  | o :: M, c :: fr, k, L, L2, hM, ⟨A, hA1, hA2, hA3, hr⟩ => by
    have h0 : ops[k]? = some o := by simpa using hM 0 (by simp)
    have hd : dstOf ops k = o.dst := by simp [dstOf, h0]
    obtain ⟨As, h1, h2, h3, h5, h4⟩ := RegQ_As M fr (k + 1) _ _ (fun j hj => by
      have := hM (j + 1) (by simpa using hj)
      rw [show k + 1 + j = k + (j + 1) by omega]
      simpa using this) hr
    have hc1 : kpQ (c :: fr) 0 = true ↔ c ≠ 0 := by
      unfold kpQ
      cases c with
      | zero => simp
      | succ n => exact ⟨fun _ => Nat.succ_ne_zero n, fun _ => rfl⟩
    have hc2 : frQ (c :: fr) 0 = true ↔ c = 1 := by
      unfold frQ
      simp [Nat.beq_eq]
    have e : (fun j => if kpQ (c :: fr) j = true ∨ (c :: fr).length ≤ j then consFY A As j else Any) = consFY (if c ≠ 0 then A else Any) (fun j => if kpQ fr j = true ∨ fr.length ≤ j then As j else Any) := by
      funext j
      cases j with
      | zero =>
        show (if kpQ (c :: fr) 0 = true ∨ fr.length + 1 ≤ 0 then A else Any) = (if c ≠ 0 then A else Any)
        have : ¬ fr.length + 1 ≤ 0 := by omega
        simp [this, hc1]
      | succ j =>
        show (if kpQ fr j = true ∨ fr.length + 1 ≤ j + 1 then As j else Any) = _
        simp [consFY]
    refine ⟨consFY A As, by simp only [List.length_cons]; omega, ?_, ?_, ?_, ?_⟩
    · intro j o' hj ho'
      cases j with
      | zero =>
        rw [Nat.add_zero, h0] at ho'
        obtain rfl := Option.some.inj ho'
        exact ⟨fun h => hA1 fun hc => (by rw [hc2.2 hc] at h; cases h), fun h => hA2 (hc2.1 h), fun h => hA3 (hc1.1 h)⟩
      | succ j =>
        rw [envFY_cons, hd]
        exact h2 j o' (by simpa using hj) (by rw [show k + 1 + j = k + (j + 1) by omega]; exact ho')
    · intro o' ho'
      rw [List.length_cons, envFY_cons, hd]
      exact h3 o' (by rw [show k + 1 + fr.length = k + (fr.length + 1) by omega]; exact ho')
    · intro j o' hj hj2 ho'
      rw [e]
      cases j with
      | zero => simp at hj
      | succ j =>
        rw [envFY_cons, hd]
        exact h5 j o' (by simpa using hj) (by simpa using hj2) (by rw [show k + 1 + j = k + (j + 1) by omega]; exact ho')
    · rw [e, List.length_cons, envFY_cons, hd]
      exact h4

structure InvQ (ops : Array Oper) (m x : Nat) (kp : Nat → Bool) (S : Nat → Prop) (F : World → Prop) (n : Nat) (ds : List Deferred) (w0 : World) (L : Env) (As : Nat → VA) (listed : Array Bool) (a : Act) (w : World) : Prop where
  ext : Chg S w0 w
  pre : listed.getD x true = false → Ext w0 w
  post : listed.getD x false = true → F w
  size : a.tmps.size = n
  defers : a.defers = ds
  hL : ∀ t A, look L t = some A → (∀ j, j < m → dstOf ops j ≠ some t) → A.p (a.eval (.tmp t)) w
  hA : ∀ i, i < m → listed.getD i false = true → (listed.getD x true = false ∨ kp i = true ∨ x ≤ i) → ∀ d, dstOf ops i = some d → (As i).p (a.eval (.tmp d)) w

theorem wpAny_mainQ {m x : Nat} {fr kp : Nat → Bool} {S : Nat → Prop} {F : World → Prop} (hx0 : x < m) (hFst : ∀ w w', Ext w w' → F w → F w') {L : Env} {As : Nat → VA} (hm : m ≤ ops.size) (hchk : ∀ i, i < m → chkOp ops m n i = true) (hchk2 : ∀ i, m ≤ i → i < ops.size → chkTail ops i = true)
    (hanc : ∀ j, j < x → fr j = false → covers ops 12 x j = true) (hpo : ∀ j, x < j → j < m → covers ops 12 j x = true) (hfk : ∀ j, fr j = true → kp j = true)
    (hfree : ∀ i o, i < x → fr i = true → ops[i]? = some o → ∀ t, (t ∈ tmpsOf o ∨ gdst ops o = some t) → ∀ j, j < m → dstOf ops j = some t → fr j = true ∧ j ≠ x)
    (hopsP : ∀ j o, x < j → j < m → ops[j]? = some o → ∀ w1, Chg S w0 w1 → F w1 → GOp P ops w1 (envF ops L (fun j => if kp j = true ∨ x ≤ j then As j else Any) 0 j) o (As j))
    (hops : ∀ j o, j < x → ops[j]? = some o → (fr j = false → GOp P ops w0 (envF ops L As 0 j) o (As j)) ∧ (fr j = true → ∀ w1, Chg S w0 w1 → GOp P ops w1 (envF ops L As 0 j) o (As j)) ∧ (kp j = true → AvS S (As j)))
    (hX : ∀ o, ops[x]? = some o → o.guard = none ∧ XOpZ P w0 S F (envF ops L As 0 x) o (As x)) (hLav : AvSL S L)
    (hend : ∀ a w, Chg S w0 w → F w → FrD n ds a w (envF ops L (fun j => if kp j = true ∨ x ≤ j then As j else Any) 0 m) → wpListIn (FW r) 0 P ops Q (ops.toList.drop m) a w) :
    ∀ (c : Nat) (listed : Array Bool) (a : Act) (w : World), (List.range m).countP (fun i => !listed.getD i true) = c → listed.size = ops.size →
      (∀ j, m ≤ j → j < ops.size → listed.getD j true = false) → LD ops listed → InvQ ops m x kp S F n ds w0 L As listed a w → wpAnyIn (FW r) 0 P .any ops Q (c + (ops.size - m)) listed a w
  | 0, listed, a, w, hc, hsz, hun, hld, hi => by
    have hall : ∀ j, j < m → listed.getD j false = true := by
      intro j hj
      have := (List.countP_eq_zero.1 hc) j (List.mem_range.2 hj)
      have hjl : j < listed.size := by omega
      simpa [hjl] using this
    rw [Nat.zero_add]
    refine wpAny_tail m hchk2 (ops.size - m) m (by omega) (Nat.le_refl _) listed a w hall hun hsz hld (hend a w hi.ext (hi.post (hall x hx0)) ⟨hi.size, hi.defers, fun t A ht => ?_⟩)
    rcases look_envF L _ t A m ht with ⟨j, hj, hd, rfl⟩ | ⟨hn, hl⟩
    · by_cases hk : kp j = true ∨ x ≤ j
      · rw [if_pos hk]
        exact hi.hA j hj (hall j hj) (.inr hk) t hd
      · rw [if_neg hk]; trivial
    · exact hi.hL t A hl hn
  | c + 1, listed, a, w, hc, hsz, hun, hld, hi => by
    have facts : ∀ i o, i < m → ops[i]? = some o → (∀ e ∈ o.after, Region.binds .any e = true → e.on < i) ∧ (∀ d, o.dst = some d → d < n) ∧
        (∀ t, t ∈ tmpsOf o ∨ gdst ops o = some t → ∀ j, j < m → dstOf ops j = some t → bnd ops i j = true) ∧ (∀ j, j < m → j ≠ i → ∀ d, o.dst = some d → dstOf ops j ≠ some d) := by
      intro i o hlt ho
      have := hchk i hlt
      simp only [chkOp, ho, Bool.and_eq_true, Array.all_eq_true_iff_forall_mem, Bool.or_eq_true, Bool.not_eq_true', List.all_eq_true, List.mem_range, List.mem_append, Option.mem_toList] at this
      obtain ⟨⟨⟨h1, h2⟩, h3⟩, h4⟩ := this
      refine ⟨fun e he hb => ?_, fun d hd => ?_, fun t ht j hj hd => ?_, fun j hj hne d hd hd' => ?_⟩
      · rcases h1 e he with h | h
        · rw [hb] at h; cases h
        · simpa [Nat.blt_eq] using h
      · simpa [hd, Nat.blt_eq] using h2
      · have := h3 t ht j hj
        rcases this with h | h
        · rw [hd] at h; simp at h
        · exact h
      · have := h4 j hj
        rcases this with h | h
        · exact hne (Nat.eq_of_beq_eq_true h)
        · rw [hd, hd'] at h; simp at h
    have prog : ∃ i, i < m ∧ listed.getD i true = false ∧ ∀ j, j < i → listed.getD j true = true := by
      have hex : ∃ i, i < m ∧ listed.getD i true = false := by
        have hpos : 0 < (List.range m).countP (fun i => !listed.getD i true) := by omega
        obtain ⟨i, hi, hb⟩ := List.countP_pos_iff.1 hpos
        exact ⟨i, List.mem_range.1 hi, by simpa using hb⟩
      obtain ⟨i, hlt, hb⟩ := hex
      induction i using Nat.strongRecOn with
      | _ i ih =>
        by_cases h : ∃ j, j < i ∧ listed.getD j true = false
        · obtain ⟨j, hj, hjb⟩ := h
          exact ih j hj (by omega) hjb
        · refine ⟨i, hlt, hb, fun j hj => ?_⟩
          cases hjb : listed.getD j true with
          | true => rfl
          | false => exact absurd ⟨j, hj, hjb⟩ h
    obtain ⟨i0, hi0, hu0, hbelow⟩ := prog
    have hready : i0 ∈ Region.ready .any ops listed := by
      have ho : ops[i0]? = some (ops[i0]'(by omega)) := by simp
      refine mem_ready.2 ⟨hu0, _, ho, fun e he hb => ?_⟩
      have hlt := (facts i0 _ hi0 ho).1 e he hb
      have := hbelow _ hlt
      have hjl : e.on < listed.size := by omega
      simpa [hjl] using this
    rw [show c + 1 + (ops.size - m) = (c + (ops.size - m)) + 1 by omega]
    refine ⟨fun h0 => (by rw [h0] at hready; cases hready), fun i hir => ?_⟩
    obtain ⟨hu, o, ho, hall⟩ := mem_ready.1 hir
    have hilt : i < ops.size := (Array.getElem?_eq_some_iff.1 ho).1
    have listed_of_bnd : ∀ j, bnd ops i j = true → listed.getD j false = true := by
      intro j hb
      simp only [bnd, ho] at hb
      obtain ⟨e, he, hb⟩ := Array.any_eq_true'.1 hb
      simp only [Bool.and_eq_true] at hb
      have := hall e he hb.1
      rwa [Nat.eq_of_beq_eq_true hb.2] at this
    have him : i < m := by
      rcases Nat.lt_or_ge i m with h | h
      · exact h
      · have hc := hchk2 i h hilt
        simp only [chkTail, ho, Bool.and_eq_true, List.all_eq_true, List.mem_range] at hc
        have := cov hld 12 i i0 (hc.2 i0 (by omega)) (fun o' ho' e he hb => by
          rw [ho] at ho'
          obtain rfl := Option.some.inj ho'
          exact hall e he hb)
        rw [not_listed hu0] at this
        cases this
    obtain ⟨f1, f2, f3, f4⟩ := facts i o him ho
    have hlx : x < i → listed.getD x false = true := fun hxi => cov hld 12 i x (hpo i hxi him) (fun o' ho' e he hb => by
      rw [ho] at ho'
      obtain rfl := Option.some.inj ho'
      exact hall e he hb)
    have hxun : i < x → fr i = false → listed.getD x true = false := by
      intro hix hfr
      cases hlx : listed.getD x true with
      | false => rfl
      | true =>
        have hxl : x < listed.size := by omega
        have hlx' : listed.getD x false = true := by simpa [hxl] using hlx
        have := cov hld 12 x i (hanc i hix hfr) (fun o' ho' e he hb => hld x o' hlx' ho' e he hb)
        rw [not_listed hu] at this
        cases this
    have hcond : i ≤ x → ∀ j, j < m → (∃ t, (t ∈ tmpsOf o ∨ gdst ops o = some t) ∧ dstOf ops j = some t) → (listed.getD x true = false ∨ kp j = true ∨ x ≤ j) := by
      rintro hix0 j hj ⟨t, ht, hd⟩
      by_cases hix : i = x
      · exact .inl (hix ▸ hu)
      · cases hfr : fr i with
        | true => exact .inr (.inl (hfk j (hfree i o (by omega) hfr ho t ht j hj hd).1))
        | false => exact .inl (hxun (by omega) hfr)
    have byLook : i ≤ x → ∀ t, (t ∈ tmpsOf o ∨ gdst ops o = some t) → ∀ B, look (envF ops L As 0 i) t = some B → B.p (a.eval (.tmp t)) w := by
      intro hix t ht B hB
      rcases look_envF L As t B i hB with ⟨j, hj, hd, rfl⟩ | ⟨hn, hl⟩
      · exact hi.hA j (by omega) (listed_of_bnd j (f3 t ht j (by omega) hd)) (hcond hix j (by omega) ⟨t, ht, hd⟩) t hd
      · refine hi.hL t B hl fun j hj hd => ?_
        have hb := f3 t ht j hj hd
        simp only [bnd, ho] at hb
        obtain ⟨e, he, hb⟩ := Array.any_eq_true'.1 hb
        simp only [Bool.and_eq_true] at hb
        have hlt := f1 e he hb.1
        rw [Nat.eq_of_beq_eq_true hb.2] at hlt
        exact hn j hlt hd
    have byLookP : ∀ t, (t ∈ tmpsOf o ∨ gdst ops o = some t) → ∀ B, look (envF ops L (fun j => if kp j = true ∨ x ≤ j then As j else Any) 0 i) t = some B → B.p (a.eval (.tmp t)) w := by
      intro t ht B hB
      rcases look_envF L _ t B i hB with ⟨j, hj, hd, rfl⟩ | ⟨hn, hl⟩
      · by_cases hk : kp j = true ∨ x ≤ j
        · rw [if_pos hk]
          exact hi.hA j (by omega) (listed_of_bnd j (f3 t ht j (by omega) hd)) (.inr hk) t hd
        · rw [if_neg hk]; trivial
      · refine hi.hL t B hl fun j hj hd => ?_
        have hb := f3 t ht j hj hd
        simp only [bnd, ho] at hb
        obtain ⟨e, he, hb⟩ := Array.any_eq_true'.1 hb
        simp only [Bool.and_eq_true] at hb
        have hlt := f1 e he hb.1
        rw [Nat.eq_of_beq_eq_true hb.2] at hlt
        exact hn j hlt hd
    have ops1 : i ≤ x → ∀ x ∈ o.op.operands, ∀ B, opd (envF ops L As 0 i) x = some B → B.p (a.eval x) w := fun hix x hx B hB => by
      cases x with
      | tmp t => exact byLook hix t (.inl (List.mem_filterMap.2 ⟨.tmp t, by simpa using hx, rfl⟩)) B hB
      | const v => simp [opd] at hB; subst hB; rfl
      | global g => simp [opd] at hB; subst hB; rfl
      | func f => simp [opd] at hB; subst hB; rfl
    have ops2 : ∀ x' ∈ o.op.operands, ∀ B, opd (envF ops L (fun j => if kp j = true ∨ x ≤ j then As j else Any) 0 i) x' = some B → B.p (a.eval x') w := fun x' hx B hB => by
      cases x' with
      | tmp t => exact byLookP t (.inl (List.mem_filterMap.2 ⟨.tmp t, by simpa using hx, rfl⟩)) B hB
      | const v => simp [opd] at hB; subst hB; rfl
      | global g => simp [opd] at hB; subst hB; rfl
      | func f => simp [opd] at hB; subst hB; rfl
    have hdst : dstOf ops i = o.dst := by simp [dstOf, ho]
    have step : ∀ v w', Chg S w w' → (i ≠ x → Ext w w') → (i = x → ∀ j, j < x → kp j = true → AvS S (As j)) → (As i).p v w' → (i = x → F w') → wpAnyIn (FW r) 0 P .any ops Q (c + (ops.size - m)) (listed.setIfInBounds i true) (a.put o.dst v) w' := by
      intro v w' hx hxe hxa hv hvF
      have stab : ∀ (A : VA) u, AvS S A → A.p u w → A.p u w' := fun A u hA h => hA.av _ _ _ hx h
      refine wpAny_mainQ hx0 hFst hm hchk hchk2 hanc hpo hfk hfree hopsP hops hX hLav hend c _ _ _ ?_ (by simpa using hsz) ?_ ?_ ?_
      · have := countP_upd m (fun j => !listed.getD j true) (fun j => !(listed.setIfInBounds i true).getD j true) i him (by simp only [hu, Bool.not_false])
          (by have hjl : i < listed.size := by omega
              simp [hjl]) (fun j hj => by simp only [getD_set_ne true (Ne.symm hj)])
        omega
      · intro j hj hj'
        rw [getD_set_ne true (by omega)]
        exact hun j hj hj'
      · exact hld.set fun o' ho' e he hb => by
          rw [ho] at ho'
          obtain rfl := Option.some.inj ho'
          exact hall e he hb
      · refine ⟨Chg.tr hi.ext hx, fun hl => ?_, fun hl => ?_, by simp [hi.size], by simp [hi.defers], fun t A ht hn => ?_, fun j hj hl hcj d hd => ?_⟩
        · have hix : i ≠ x := by
            rintro rfl
            have hjl : i < listed.size := by omega
            simp [hjl] at hl
          rw [getD_set_ne true hix] at hl
          exact Ext.tr (hi.pre hl) (hxe hix)
        · by_cases hix : i = x
          · exact hvF hix
          · rw [getD_set_ne false hix] at hl
            exact hFst _ _ (hxe hix) (hi.post hl)
        · have h0 := stab A _ ⟨hLav.av t A ht⟩ (hi.hL t A ht hn)
          cases hod : o.dst with
          | none => exact h0
          | some d =>
            have : d ≠ t := fun e => hn i him (by rw [hdst, hod, e])
            rw [eval_put_ne this]
            exact h0
        · by_cases hji : j = i
          · subst hji
            rw [hdst] at hd
            rw [hd, eval_put_same (by rw [hi.size]; exact f2 d hd)]
            exact hv
          · have hl' : listed.getD j false = true := by rwa [getD_set_ne false (Ne.symm hji)] at hl
            have hcj' : listed.getD x true = false ∨ kp j = true ∨ x ≤ j := by
              by_cases hix : i = x
              · exact .inl (hix ▸ hu)
              · rw [getD_set_ne true hix] at hcj
                exact hcj
            have h1 := hi.hA j hj hl' hcj' d hd
            have h0 : (As j).p (a.eval (.tmp d)) w' := by
              by_cases hix : i = x
              · have hjx : j < x := by
                  rcases Nat.lt_trichotomy j x with h | h | h
                  · exact h
                  · exact absurd (h.trans hix.symm) hji
                  · have := cov hld 12 j x (hpo j h hj) (fun o' ho' e he hb => hld j o' hl' ho' e he hb)
                    rw [not_listed (hix ▸ hu)] at this
                    cases this
                refine stab _ _ (hxa hix j hjx ?_) h1
                rcases hcj with h | h | h
                · have hxl : x < listed.size := by omega
                  subst hix
                  simp [hxl] at h
                · exact h
                · omega
              · exact (As j).st _ _ _ (hxe hix) h1
            cases hod : o.dst with
            | none => exact h0
            | some d' =>
              have : d' ≠ d := fun e => f4 j hj hji d' hod (by rw [hd, e])
              rw [eval_put_ne this]
              exact h0
    unfold wpOpIn
    simp only [ho]
    by_cases hix : i = x
    · obtain ⟨hgd, hxo⟩ := hX o (hix ▸ ho)
      have hw : Region.wanted o (yielded ops a.tmps) = true := by unfold Region.wanted; rw [hgd]
      rw [if_pos hw]
      have hpre : Ext w0 w := hi.pre (hix ▸ hu)
      exact (hxo.out a.eval w hpre (hix ▸ ops1 (Nat.le_of_eq hix))).wp fun v w' hv => step v w' hv.1 (fun h => absurd hix h) (fun _ j hj => by
        have hoj : ops[j]? = some (ops[j]'(by omega)) := by simp
        exact fun hfj => (hops j _ hj hoj).2.2 hfj) (hix ▸ hv.2.1) (fun _ => hv.2.2)
    · have hg : if Region.wanted o (yielded ops a.tmps) then OpR P o a.eval w (fun v w' => Ext w w' ∧ (As i).p v w') else (As i).p undef w := by
        by_cases hlt : i < x
        · cases hfr : fr i with
          | true => exact (hops i o hlt ho).2.1 hfr w hi.ext a w (Ext.rfl' w) (ops1 (by omega)) (fun d B hd hB => byLook (by omega) d (.inr hd) B hB)
          | false => exact (hops i o hlt ho).1 hfr a w (hi.pre (hxun hlt hfr)) (ops1 (by omega)) (fun d B hd hB => byLook (by omega) d (.inr hd) B hB)
        · exact hopsP i o (by omega) him ho w hi.ext (hi.post (hlx (by omega))) a w (Ext.rfl' w) ops2 (fun d B hd hB => byLookP d (.inr hd) B hB)
      split
      · rename_i hw
        rw [if_pos hw] at hg
        exact (hg.wp fun v w' hv => step v w' (Ext.chg hv.1 S) (fun _ => hv.1) (fun h => absurd h hix) hv.2 (fun h => absurd h hix))
      · rename_i hw
        rw [if_neg hw] at hg
        exact ⟨fun _ _ => trivial, step undef w (Chg.rfl' S w) (fun _ => Ext.rfl' _) (fun h => absurd h hix) hg (fun h => absurd h hix)⟩

def chkQ (ops : Array Oper) (m : Nat) (fr : List Nat) : Bool :=
  Nat.blt fr.length m && ((List.range fr.length).all fun j => frQ fr j || covers ops 12 fr.length j) && ((List.range m).all fun j => Nat.ble j fr.length || covers ops 12 j fr.length) &&
  ((List.range fr.length).all fun i => !frQ fr i || match ops[i]? with
    | none => false
    | some o => (tmpsOf o ++ (gdst ops o).toList).all fun t => (List.range m).all fun j => (match dstOf ops j with | some d => !Nat.beq d t | none => true) || (frQ fr j && Nat.blt j fr.length))
/-- THE RULE: m operations; the one behind those that fr tells of changes blocks of S -/
theorem regQ {id : Nat} {ops : Array Oper} {L : Env} {a : Act} {w : World} (m : Nat) (fr : List Nat) (S : Nat → Prop) (F : World → Prop) (hFst : ∀ w w', Ext w w' → F w → F w') (hmix : P.follows .mixedOrders = true) (hf : FrD n ds a w L) [hL : AvSL S L] (hchk : chk ops m n = true) (hchkZ : chkQ ops m fr = true)
    (h : RegQ P ops w S F fr (ops.toList.take m) (fun L' => ∀ a' w', Chg S w w' → F w' → FrD n ds a' w' L' → wpListIn (FW r) 0 P ops Q (ops.toList.drop m) a' w') L L) : (Code.region id ops true).wpIn (FW r) 0 P Q a w := by
  simp only [chk, Bool.and_eq_true, List.all_eq_true, List.mem_range, Bool.or_eq_true, Nat.ble_eq] at hchk
  obtain ⟨⟨hm, h1⟩, h2⟩ := hchk
  refine wpIn_region_any hmix ?_
  have hlen : (ops.toList.take m).length = m := by simp; omega
  obtain ⟨As, hfl, hAs, hX, hPo, hK⟩ := RegQ_As (ops := ops) (ops.toList.take m) fr 0 L L (fun j hj => by
    rw [hlen] at hj
    rw [Nat.zero_add, List.getElem?_take, if_pos hj]; simp) h
  rw [hlen] at hK hfl hPo
  simp only [chkQ, Bool.and_eq_true, List.all_eq_true, List.mem_range, Bool.or_eq_true, Nat.blt_eq, Nat.ble_eq] at hchkZ
  obtain ⟨⟨⟨hx, z1⟩, z3⟩, z2⟩ := hchkZ
  have hext : Ext w { w with drawn := w.drawn + 1 } := Ext.drew w
  have := wpAny_mainQ (P := P) (ops := ops) (Q := Q) (w0 := w) (n := n) (ds := ds) (m := m) (x := fr.length) (fr := frQ fr) (kp := kpQ fr) (S := S) (F := F) (r := r) (L := L) (As := As) hx hFst hm h1 (fun i hi hi' => by
      rcases h2 i hi' with h | h
      · simp only [Nat.blt_eq] at h; omega
      · exact h) (fun j hj hfj => by
      rcases z1 j hj with h | h
      · rw [hfj] at h; cases h
      · exact h) (fun j hj hjm => by
      rcases z3 j hjm with h | h
      · omega
      · exact h) (fun j h => by
      unfold frQ at h
      unfold kpQ
      rw [Nat.eq_of_beq_eq_true h]; rfl) (fun i o hi hfi ho t ht j hj hd => by
      have := z2 i hi
      rw [hfi, ho] at this
      simp only [Bool.not_true, Bool.false_eq_true, false_or, List.all_eq_true, List.mem_append, Option.mem_toList, List.mem_range, Bool.or_eq_true] at this
      rcases this t ht j hj with h | h
      · rw [hd] at h; simp at h
      · rw [Bool.and_eq_true, Nat.blt_eq] at h
        exact ⟨h.1, by omega⟩) (fun j o hj hjm ho => hPo j o hj hjm (by simpa using ho)) (fun j o hj ho => hAs j o hj (by simpa using ho)) (fun o ho => hX o (by simpa using ho)) hL (fun a w hx hF hf => hK a w hx hF hf) m
    (Array.replicate ops.size false) a { w with drawn := w.drawn + 1 } ?_ (by simp) ?_ ?_ ⟨hext.chg S, fun _ => hext, fun hl => ?_, hf.size, hf.defers, fun t A ht _ => A.st _ _ _ hext (hf.val t A ht), fun i hi hl => ?_⟩
  · rwa [show m + (ops.size - m) = ops.size by omega] at this
  · have : (List.range m).countP (fun i => !(Array.replicate ops.size false).getD i true) = (List.range m).length := by
      refine List.countP_eq_length.2 fun i hi => ?_
      have := List.mem_range.1 hi
      have hlt : i < ops.size := by omega
      simp [hlt]
    simpa using this
  · intro j _ hj
    simp [hj]
  · intro i o hl
    have : (Array.replicate ops.size false).getD i false = false := by
      by_cases hlt : i < ops.size <;> simp [hlt]
    rw [this] at hl; cases hl
  · have : (Array.replicate ops.size false).getD fr.length false = false := by
      by_cases hlt : fr.length < ops.size <;> simp [hlt]
    rw [this] at hl; cases hl
  · have : (Array.replicate ops.size false).getD i false = false := by
      by_cases hlt : i < ops.size <;> simp [hlt]
    rw [this] at hl; cases hl
end
section
variable {P : Program} {w0 : World} {L L2 : Env} {ty : TypeId} {pos : String} {aft : Array Edge}
variable {ops : Array Oper} {rest : List Oper} {K : Env → Prop} {A : VA} {op : Op} {dd : Nat} {S : Nat → Prop} {F : World → Prop} {fr : List Nat}
theorem qf (h : ∀ w1, Chg S w0 w1 → OpC P w1 L ⟨some dd, op, ty, pos, aft, none⟩ A) [hA : AvS S A] (k : RegQ P ops w0 S F fr rest K ((dd, A) :: L) ((dd, A) :: L2)) : RegQ P ops w0 S F (1 :: fr) (⟨some dd, op, ty, pos, aft, none⟩ :: rest) K L L2 :=
  ⟨A, fun h => absurd rfl h, fun _ w1 h1 a w he hv _ => by simp only [Region.wanted, if_true]; exact (h w1 h1).out _ w he hv, fun _ => hA, k⟩
theorem qa (h : OpC P w0 L ⟨some dd, op, ty, pos, aft, none⟩ A) (k : RegQ P ops w0 S F fr rest K ((dd, A) :: L) ((dd, Any) :: L2)) : RegQ P ops w0 S F (0 :: fr) (⟨some dd, op, ty, pos, aft, none⟩ :: rest) K L L2 :=
  ⟨A, fun _ a w he hv _ => by simp only [Region.wanted, if_true]; exact h.out _ w he hv, fun h => (by cases h), fun h => absurd rfl h, k⟩
theorem qk (h : OpC P w0 L ⟨some dd, op, ty, pos, aft, none⟩ A) [hA : AvS S A] (k : RegQ P ops w0 S F fr rest K ((dd, A) :: L) ((dd, A) :: L2)) : RegQ P ops w0 S F (2 :: fr) (⟨some dd, op, ty, pos, aft, none⟩ :: rest) K L L2 :=
  ⟨A, fun _ a w he hv _ => by simp only [Region.wanted, if_true]; exact h.out _ w he hv, fun h => (by cases h), fun _ => hA, k⟩
theorem qx {d : Option Nat} (h : XOpZ P w0 S F L ⟨d, op, ty, pos, aft, none⟩ A) (k : RegP P ops w0 S F rest K (push d A L2)) : RegQ P ops w0 S F [] (⟨d, op, ty, pos, aft, none⟩ :: rest) K L L2 := ⟨rfl, A, h, k⟩
theorem qp (h : ∀ w1, Chg S w0 w1 → F w1 → OpC P w1 L2 ⟨some dd, op, ty, pos, aft, none⟩ A) (k : RegP P ops w0 S F rest K ((dd, A) :: L2)) : RegP P ops w0 S F (⟨some dd, op, ty, pos, aft, none⟩ :: rest) K L2 :=
  ⟨A, fun w1 h1 h2 a w he hv _ => by simp only [Region.wanted, if_true]; exact (h w1 h1 h2).out _ w he hv, k⟩
theorem qe (h : K L2) : RegP P ops w0 S F [] K L2 := h
end
end Go.Mono

namespace Go.Mono
open Go Go.RowKit
section
variable {P : Program} {w0 : World} {L : Env} {ty : TypeId} {pos : String} {aft : Array Edge} {S : Nat → Prop}
theorem zstP {x y : Operand} {t bt : TypeId} {b off s : Nat} {cs new : Array Value} (ht : TI P t true s) (hx : opd L x = some (E (.pointer (some ⟨b, off, none⟩)))) (hy : opd L y = some (E (.agg new))) (h1 : new.all (·.oneCell') = true) (hb : Blk w0 b cs bt) (hn : new.size = s) (ho : off + s ≤ cs.size) (hS : S b) :
    XOpZ P w0 S (fun w => Blk w b (cs.toList.take off ++ new.toList ++ cs.toList.drop (off + s)).toArray bt) L ⟨none, .store t x y, ty, pos, aft, none⟩ Any := by
  refine ⟨fun ρ w he hv => ?_⟩
  have hxv : ρ x = .pointer (some ⟨b, off, none⟩) := hv x (by simp [Op.operands]) _ hx
  have hyv : ρ y = .agg new := hv y (by simp [Op.operands]) _ hy
  have hb' := hb.ext he
  have hrun := run_storeCells_at (P := P) b off bt new.toList 0 cs w hb' (by simp; omega) (fun v hv => by rw [Array.all_eq_true_iff_forall_mem] at h1; exact h1 v (by simpa using hv))
  simp only [Nat.add_zero, Array.length_toList, hn] at hrun
  have hc : (Value.agg new).cells = new := rfl
  simp only [OpR, execOp, Sem.run_bind, Instr.storeAt, Instr.sureAddr, hxv, hyv, storeVar, hc, ht.size, hn, hrun, Result.andThen_ok, Sem.run_pure]
  simp [ht.size, hn, hrun, -List.append_assoc]
  have hg := grownBy_setRow w b (cs.toList.take off ++ new.toList ++ cs.toList.drop (off + s)).toArray
  exact ⟨⟨hg.os, hg.tape, hg.output, hg.size, fun b' hb' hS' => hg.block b' hb' fun h => hS' (by cases h; exact hS)⟩, trivial, setRow_heap _ _ _ _ _ _ hb'⟩
end
/-- a row of sets, of which f tells the first n -/
structure SR (n : Nat) (f : Nat → BS) (cap : Nat) (cur : Array Value) : Prop where
  size : cur.size = cap * 16
  le : n ≤ cap
  el : ∀ i, i < n → ∀ j, j < 16 → cur[i * 16 + j]? = (setC (f i))[j]?
theorem SR.get {n cap : Nat} {f : Nat → BS} {cur : Array Value} (h : SR n f cap cur) {i : Nat} (hi : i < n) : Value.agg (cur.extract (0 + ((i : Nat) : Int).toNat * 16) (0 + ((i : Nat) : Int).toNat * 16 + 16)) = setV (f i) := by
  refine congrArg Value.agg (Array.ext_getElem? fun j => ?_)
  have hs := h.size
  have hl := h.le
  rw [Int.toNat_natCast, Nat.zero_add, Array.getElem?_extract]
  split
  · rename_i hj
    exact h.el i hi j (by omega)
  · rename_i hj
    rw [Array.getElem?_eq_none]
    rw [setC_size]
    omega
theorem SR.put {n cap : Nat} {f : Nat → BS} {cur : Array Value} (h : SR n f cap cur) {i : Nat} (hi : i < n) (x : BS) : SR n (fun j => if j = i then x else f j) cap (cur.toList.take (0 + ((i : Nat) : Int).toNat * 16) ++ (setC x).toList ++ cur.toList.drop (0 + ((i : Nat) : Int).toNat * 16 + 16)).toArray := by
  have hs := h.size
  have hl := h.le
  have hb : (setC x).toList.length = 16 := by rw [Array.length_toList, setC_size]
  have hc : cur.toList.length = cap * 16 := by rw [Array.length_toList, hs]
  rw [Int.toNat_natCast, Nat.zero_add]
  have ht : (cur.toList.take (i * 16)).length = i * 16 := by rw [List.length_take, hc]; omega
  refine ⟨?_, h.le, fun k hk j hj => ?_⟩
  · rw [List.size_toArray, List.length_append, List.length_append, ht, hb, List.length_drop, hc]; omega
  rw [List.getElem?_toArray]
  by_cases hki : k = i
  · subst hki
    simp only [if_true]
    rw [List.append_assoc, List.getElem?_append_right (by omega), ht, List.getElem?_append_left (by omega), show k * 16 + j - k * 16 = j from by omega, Array.getElem?_toList]
  · simp only [if_neg hki]
    rw [← h.el k hk j hj]
    by_cases hlt : k < i
    · rw [List.append_assoc, List.getElem?_append_left (by omega), List.getElem?_take, if_pos (by omega), Array.getElem?_toList]
    · rw [List.getElem?_append_right (by rw [List.length_append, ht, hb]; omega), List.length_append, ht, hb, List.getElem?_drop, Array.getElem?_toList]
      congr 1; omega
theorem sr_cells {G : Nat → Prop} {n cap : Nat} {f : Nat → BS} {cur : Array Value} {w : World} (h : SR n f cap cur) : ∀ m s, s + m = n → Cells setE G w ((List.range' s m).map f) ((cur.toList.take (n * 16)).drop (s * 16))
  | 0, s, hs => by
    have : (cur.toList.take (n * 16)).drop (s * 16) = [] := List.drop_eq_nil_of_le (by rw [List.length_take]; omega)
    rw [this]; rfl
  | m + 1, s, hs => by
    rw [List.range'_succ, List.map_cons]
    have hz := h.size
    have hl := h.le
    have hc : cur.toList.length = cap * 16 := by rw [Array.length_toList, hz]
    have hd : (cur.toList.take (n * 16)).drop (s * 16) = (setC (f s)).toList ++ (cur.toList.take (n * 16)).drop ((s + 1) * 16) := by
      have hb : (setC (f s)).toList.length = 16 := by simp [setC_size]
      refine List.ext_getElem? fun j => ?_
      by_cases hj : j < 16
      · rw [List.getElem?_append_left (by omega), List.getElem?_drop, List.getElem?_take, if_pos (by omega), Array.getElem?_toList, h.el s (by omega) j hj]
        rw [Array.getElem?_toList]
      · rw [List.getElem?_append_right (by omega), hb, List.getElem?_drop, List.getElem?_drop]
        congr 1; omega
    rw [hd]
    exact ⟨_, _, rfl, rfl, sr_cells h m (s + 1) (by omega)⟩
theorem SR.dv {bt : TypeId} {n cap : Nat} {G : Nat → Prop} {f : Nat → BS} {cur : Array Value} {w : World} {g : Nat} (h : SR n f cap cur) (hb : Blk w g cur bt) (hG : ¬G g) : (Dv (slE setE) G ((List.range n).map f)).p (.slice (some ⟨g, 0, none⟩) n cap) w := by
  have hc := sr_cells (G := G) (w := w) h n 0 (Nat.zero_add n)
  rw [Nat.zero_mul, List.drop_zero, ← List.range_eq_range'] at hc
  have hz := h.size
  have hl := h.le
  refine Dv.sl.2 (.inr ⟨⟨g, 0, none⟩, cap, cur.toList.take (n * 16), ?_, by simp; exact hl, hG, hb.lt, hc, fun i u hu => ?_⟩)
  · simp
  · rw [Addr.add_lit, Nat.zero_add, hb.cell i]
    rw [List.getElem?_take] at hu
    split at hu
    · simpa using hu
    · cases hu
/-- a row of empty sets that was made -/
theorem SR.made (n : Nat) : SR n (fun _ => 0) n (madeCells (setC 0) (n * 16)) :=
  ⟨by simp [madeCells], Nat.le_refl _, fun i hi j hj => by
    have := madeCells_get (z := setC 0) (setC_size _) hj hi
    rwa [Nat.zero_add] at this⟩
theorem SR.cong {n cap : Nat} {f f' : Nat → BS} {cur : Array Value} (h : SR n f cap cur) (hf : ∀ i, i < n → f i = f' i) : SR n f' cap cur := ⟨h.size, h.le, fun i hi j hj => by rw [h.el i hi j hj, hf i hi]⟩
end Go.Mono

namespace Go.Mono
open Go

/-- the place of the lowest bit (64: none) -/
def tz (x : BitVec 64) : Nat := ((List.range 64).find? fun i => x.getLsbD i).getD 64
def tabZ : List Nat := [0, 1, 56, 2, 57, 49, 28, 3, 61, 58, 42, 50, 38, 29, 17, 4, 62, 47, 59, 36, 45, 43, 51, 22, 53, 39, 33, 30, 24, 18, 12, 5, 63, 55, 48, 27, 60, 41, 37, 16, 46, 35, 44, 21, 52, 32, 23, 11, 54, 26, 40, 15, 34, 20, 31, 10, 25, 14, 19, 9, 13, 8, 7, 6]
theorem tab_all : ∀ k, k < 64 → tabZ.getD (((1#64 <<< k) * 285870213051353865#64) >>> 58).toNat 0 = k := by decide
theorem tz_some {x : BitVec 64} (h : x ≠ 0) : ∃ k, k < 64 ∧ tz x = k ∧ x.getLsbD k = true ∧ ∀ j, j < k → x.getLsbD j = false := by
  cases hf : (List.range 64).find? fun i => x.getLsbD i with
  | none =>
    exfalso
    apply h
    apply BitVec.eq_of_getLsbD_eq
    intro i hi
    have := List.find?_eq_none.1 hf i (List.mem_range.2 hi)
    simpa using this
  | some k =>
    have hk := List.find?_some hf
    have hm := List.mem_range.1 (List.mem_of_find?_eq_some hf)
    refine ⟨k, hm, by simp [tz, hf], hk, fun j hj => ?_⟩
    have := (List.find?_range_eq_some.1 hf).2.2 j hj
    simpa using this
theorem lowbit {x : BitVec 64} {k : Nat} (hk : k < 64) (h : x.getLsbD k = true) (h0 : ∀ j, j < k → x.getLsbD j = false) : x &&& -x = 1#64 <<< k := by
  apply BitVec.eq_of_getLsbD_eq
  intro i hi
  rw [BitVec.getLsbD_and, BitVec.getLsbD_neg, BitVec.getLsbD_shiftLeft, BitVec.getLsbD_one]
  rcases Nat.lt_trichotomy i k with hik | hik | hik
  · simp [h0 i hik, hik]
  · subst hik
    have : ¬ ∃ j, j < i ∧ x.getLsbD j = true := fun ⟨j, hj, hb⟩ => by rw [h0 j hj] at hb; cases hb
    rw [decide_eq_false this]
    simp only [h]
    simp [hi]
  · have : ∃ j, j < i ∧ x.getLsbD j = true := ⟨k, hik, h⟩
    rw [decide_eq_true this]
    have hne : i - k ≠ 0 := by omega
    simp only [decide_eq_false hne, hi, decide_true, Bool.true_and, Bool.and_true, Bool.xor_true, Bool.and_false]
    cases x.getLsbD i <;> rfl
theorem tz_calc {x : BitVec 64} (h : x ≠ 0) : (((x &&& -x) * 285870213051353865#64) >>> 58).toNat < 64 ∧ tabZ.getD (((x &&& -x) * 285870213051353865#64) >>> 58).toNat 0 = tz x := by
  obtain ⟨k, hk, ht, hb, h0⟩ := tz_some h
  constructor
  · have : (((x &&& -x) * 285870213051353865#64) >>> 58).toNat < 64 := by
      rw [BitVec.toNat_ushiftRight, Nat.shiftRight_eq_div_pow]
      have := ((x &&& -x) * 285870213051353865#64).isLt
      omega
    exact this
  · rw [lowbit hk hb h0, tab_all k hk, ht]
theorem tz_lt {x : BitVec 64} (h : x ≠ 0) : tz x < 64 := by
  obtain ⟨k, hk, ht, _⟩ := tz_some h
  omega

/-- the least element -/
def minOf (S : BS) : Option Nat := (List.range 1024).find? fun i => S.getLsbD i
theorem minOf_none {S : BS} : minOf S = none ↔ S = 0 := by
  constructor
  · intro h
    apply BitVec.eq_of_getLsbD_eq
    intro i hi
    have := List.find?_eq_none.1 h i (List.mem_range.2 hi)
    simpa using this
  · rintro rfl
    exact List.find?_eq_none.2 fun x hx => by simp
theorem find_range {p : Nat → Bool} {n k : Nat} (hk : k < n) (h : p k = true) (h0 : ∀ j, j < k → p j = false) : (List.range n).find? p = some k := by
  rw [List.find?_range_eq_some]
  exact ⟨h, List.mem_range.2 hk, fun j hj => by simp [h0 j hj]⟩
theorem minOf_some {S : BS} {k : Nat} : minOf S = some k ↔ k < 1024 ∧ S.getLsbD k = true ∧ ∀ j, j < k → S.getLsbD j = false := by
  constructor
  · intro h
    have := List.find?_range_eq_some.1 h
    exact ⟨List.mem_range.1 this.2.1, this.1, fun j hj => by simpa using this.2.2 j hj⟩
  · rintro ⟨h1, h2, h3⟩
    exact find_range h1 h2 h3
theorem minOf_word {S : BS} {k : Nat} (hk : k < 16) (h0 : ∀ i, i < k → word S i = 0) (h : word S k ≠ 0) : minOf S = some (64 * k + tz (word S k)) := by
  obtain ⟨t, ht, e, hb, hz⟩ := tz_some h
  rw [e]
  refine minOf_some.2 ⟨by omega, ?_, fun j hj => ?_⟩
  · rwa [word_bit _ _ _ ht] at hb
  · by_cases hjk : j / 64 < k
    · have h1 := h0 _ hjk
      have h2 := congrArg (fun v => v.getLsbD (j % 64)) h1
      simp only [word_bit _ _ _ (Nat.mod_lt j (by decide : 0 < 64)), Nat.div_add_mod] at h2
      simpa using h2
    · have hj64 : j / 64 = k := by omega
      have h1 := hz (j % 64) (by omega)
      rw [word_bit _ _ _ (Nat.mod_lt j (by decide))] at h1
      rw [← hj64, Nat.div_add_mod] at h1
      exact h1
theorem all_zero {S : BS} (h : ∀ i, i < 16 → word S i = 0) : S = 0 := word_ext fun i hi => by rw [h i hi, word_zero]
end Go.Mono

namespace Go.Mono
open Go Go.Proofs Go.RowKit

/-- the library's table lies where it was laid -/
def Tab (w : World) : Prop := ∀ i, i < 64 → w.cell? ⟨0, i, none⟩ = some (.int .u8 (tabZ.getD i 0 : Nat))
theorem Tab.ext {w w' : World} (h : Tab w) (e : Ext w w') : Tab w' := fun i hi =>
  (Below.cell e (p := ⟨0, i, none⟩) (World.block_lt_of_cell? w ⟨0, i, none⟩ (h i hi))).trans (h i hi)
theorem Tab.lt {w : World} (h : Tab w) : 0 < w.heap.size := World.block_lt_of_cell? w ⟨0, 0, none⟩ (h 0 (by decide))

theorem tz_spec (x : BitVec 64) (W : World) (hT : Tab W) : Calls Tryz.prog 155 #[Mono.W x] W (Post (E (I (tz x))) W) := by
  refine enter (args := [Mono.W x]) (As := [E (Mono.W x)]) Tryz.func155 rfl Tryz.ntmps155 (Nat.le_of_ble_eq_true rfl) ?_ (fun a hf => ?_) (Nat.le_of_ble_eq_true rfl)
  rotate_left
  dsimp only [params, Nat.reduceAdd] at hf
  rotate_right
  · exact arg1 rfl
  have e := Ext.rfl' W
  repeat refine seq ?_
  refine regn0 ?_
  refine tl_as hf rfl (by decide) fun a hf => ?_
  refine tl_nil ?_
  cases hb : (x == 0#64)
  · have hx : x ≠ 0 := by simpa using hb
    obtain ⟨h1, h2⟩ := tz_calc hx
    obtain ⟨p, hp⟩ : ∃ p : BitVec 64, p = ((x &&& -x) * 285870213051353865#64) >>> 58 := ⟨_, rfl⟩
    rw [← hp] at h1 h2
    repeat refine seq ?_
    refine regn 2 hf (by decide +kernel) ?_
    refine st (mv rfl) ?_
    refine st ((eqlW (v := 0#64) rfl rfl).eq (congrArg Value.bool (hb))) ?_
    refine en fun a w e' hf => ?_
    replace e := Ext.tr e e'
    clear e'
    refine tl_nil ?_
    repeat refine seq ?_
    refine ifc hf rfl (fun h => by cases h) (fun _ => wskip ?_)
    repeat refine seq ?_
    refine regn 9 hf (by decide +kernel) ?_
    refine st (mv rfl) ?_
    refine st (mv rfl) ?_
    refine st (negW rfl) ?_
    refine st (andW rfl rfl) ?_
    refine st (mulW (v := 285870213051353865#64) rfl rfl) ?_
    refine st ((shrW rfl rfl (by omega)).eq (show Mono.W _ = Mono.W p from by rw [hp]; rfl)) ?_
    refine st (idxA Tryz.underlying201 ⟨_, T5⟩ rfl rfl (by constructor <;> omega)) ?_
    refine st (ldC T5 rfl (v := .int .u8 (tabZ.getD p.toNat 0 : Nat)) (fun w' e' => by simpa using hT.ext (Ext.tr e e') _ h1)) ?_
    refine st (convI Tryz.underlying5 Tryz.underlying3 rfl) ?_
    refine en fun a w e' hf => ?_
    replace e := Ext.tr e e'
    clear e'
    refine tl_as hf rfl (by decide) fun a hf => ?_
    refine tl_nil ?_
    refine wret (ret1 rfl hf rfl ?_)
    rintro v rfl
    refine ⟨_, rfl, e, ?_⟩
    have h3 := tz_lt hx
    show Value.int .i64 _ = Value.int .i64 _
    rw [h2, IntWalk.i64_in _ (by omega)]
  · have hx : x = 0 := by simpa using hb
    repeat refine seq ?_
    refine regn 2 hf (by decide +kernel) ?_
    refine st (mv rfl) ?_
    refine st ((eqlW (v := 0#64) rfl rfl).eq (congrArg Value.bool (hb))) ?_
    refine en fun a w e' hf => ?_
    replace e := Ext.tr e e'
    clear e'
    refine tl_nil ?_
    repeat refine seq ?_
    refine ifc hf rfl (fun _ => ?_) (fun h => by cases h)
    repeat refine seq ?_
    refine regn0 ?_
    refine tl_as hf rfl (by decide) fun a hf => ?_
    refine tl_nil ?_
    refine wret (ret1 rfl hf rfl ?_)
    rintro v rfl
    refine ⟨_, rfl, e, ?_⟩
    subst hx
    rfl

/-- what Min returns -/
def minP (S : BS) : VA := Tup [E (I ((minOf S).getD 0 : Nat)), E (B (minOf S).isSome)]

theorem min_spec (S : BS) (W : World) (hT : Tab W) : Calls Tryz.prog 114 #[setV S] W (Post (minP S) W) := by
  refine enter (args := [setV S]) (As := [E (setV S)]) Tryz.func114 rfl Tryz.ntmps114 (Nat.le_of_ble_eq_true rfl) ?_ (fun a hf => ?_) (Nat.le_of_ble_eq_true rfl)
  rotate_left
  dsimp only [params, Nat.reduceAdd] at hf
  rotate_right
  · exact arg1 rfl
  have e := Ext.rfl' W
  repeat refine seq ?_
  refine regn0 ?_
  refine tl_box hf rfl (by decide) fun a b1 w v1 hv1 e' hb1 hs1 B1 hf => ?_
  have hle1 := Nat.le_trans e.size (Nat.le_of_eq hb1.symm)
  replace e := Ext.tr e e'
  clear e'
  refine tl_as hf rfl (by decide) fun a hf => ?_
  refine tl_as hf rfl (by decide) fun a hf => ?_
  refine tl_nil ?_
  subst hv1
  rw [setV_cells] at B1
  repeat refine seq ?_
  refine regn 2 hf (by decide +kernel) ?_
  refine st (ldW T67 rfl (by assumption) rfl) ?_
  refine st (mv rfl) ?_
  refine en fun a w e' hf => ?_
  replace e := Ext.tr e e'
  replace B1 := B1.ext e'
  clear e'
  refine tl_nil ?_
  replace hf := hf.keep [6, 7]
  dsimp only [keep, List.filterMap, look, Nat.beq, Option.map] at hf
  repeat refine seq ?_
  refine blk (loopN (fun r a w => ∃ k : Nat, r = 16 - k ∧ k ≤ 16 ∧ Fr 19 a w [(6, E (setV S)), (7, E (I k))] ∧ Ext W w ∧ ∀ i, i < k → word S i = 0) 16 ⟨0, rfl, by omega, hf, e, fun i hi => by omega⟩ ?_)
  clear hf e B1
  rintro r a w ⟨k, rfl, hk, hf, e, hz⟩
  by_cases hlt : k < 16
  · repeat refine seq ?_
    refine regn 1 hf (by decide +kernel) ?_
    refine st ((lss rfl rfl).eq (congrArg Value.bool (show decide ((k : Int) < 16) = true from decide_eq_true (by omega)))) ?_
    refine en fun a w e' hf => ?_
    replace e := Ext.tr e e'
    clear e'
    refine tl_nil ?_
    repeat refine seq ?_
    refine ifc hf rfl (fun _ => wskip ?_) (fun h => by cases h)
    repeat refine seq ?_
    refine blk ?_
    repeat refine seq ?_
    refine regn 2 hf (by decide +kernel) ?_
    refine st (mv rfl) ?_
    refine st (idxV Tryz.underlying67 T65 rfl rfl (by omega) (by simpa [setC] using wordsC_get (word S) k hlt)) ?_
    refine en fun a w e' hf => ?_
    replace e := Ext.tr e e'
    clear e'
    refine tl_as hf rfl (by decide) fun a hf => ?_
    refine tl_as hf rfl (by decide) fun a hf => ?_
    refine tl_nil ?_
    cases hb : (word S k != 0#64)
    · have hw : word S k = 0 := by simpa using hb
      repeat refine seq ?_
      refine regn 2 hf (by decide +kernel) ?_
      refine st (mv rfl) ?_
      refine st ((neqW (v := 0#64) rfl rfl).eq (congrArg Value.bool (hb))) ?_
      refine en fun a w e' hf => ?_
      replace e := Ext.tr e e'
      clear e'
      refine tl_nil ?_
      repeat refine seq ?_
      refine ifc hf rfl (fun h => by cases h) (fun _ => wskip ?_)
      repeat refine seq ?_
      refine regn 1 hf (by decide +kernel) ?_
      refine st (add rfl rfl (by omega)) ?_
      refine en fun a w e' hf => ?_
      replace e := Ext.tr e e'
      clear e'
      refine tl_op hf (by decide) (mv rfl) fun a w e' hf => ?_
      replace e := Ext.tr e e'
      clear e'
      refine tl_nil ?_
      replace hf := hf.keep [6, 7]
      dsimp only [keep, List.filterMap, look, Nat.beq, Option.map] at hf
      exact ⟨16 - (k + 1), by omega, k + 1, rfl, by omega, by simpa using hf, e, fun i hi => by
        by_cases h : i = k
        · subst h; exact hw
        · exact hz i (by omega)⟩
    · have hw : word S k ≠ 0 := by simpa using hb
      have hm := minOf_word hlt hz hw
      have htz := tz_lt hw
      repeat refine seq ?_
      refine regn 2 hf (by decide +kernel) ?_
      refine st (mv rfl) ?_
      refine st ((neqW (v := 0#64) rfl rfl).eq (congrArg Value.bool (hb))) ?_
      refine en fun a w e' hf => ?_
      replace e := Ext.tr e e'
      clear e'
      refine tl_nil ?_
      repeat refine seq ?_
      refine ifc hf rfl (fun _ => ?_) (fun h => by cases h)
      repeat refine seq ?_
      refine regn 5 hf (by decide +kernel) ?_
      refine st (mv rfl) ?_
      refine st (mul rfl rfl (by omega)) ?_
      refine st (mv rfl) ?_
      refine st (call1 En155 rfl (fun v w' e' h => by cases h; exact tz_spec _ w' (hT.ext (Ext.tr e e')))) ?_
      refine st (add rfl rfl (by omega)) ?_
      refine en fun a w e' hf => ?_
      replace e := Ext.tr e e'
      clear e'
      refine tl_as hf rfl (by decide) fun a hf => ?_
      refine tl_as hf rfl (by decide) fun a hf => ?_
      refine tl_nil ?_
      refine wret (ret2 rfl hf rfl rfl ?_)
      rintro u v rfl rfl
      refine ⟨_, rfl, e, Tup.two ?_ ?_⟩
      · rw [hm]; simp [E]
      · rw [hm]; rfl
  · obtain rfl : k = 16 := by omega
    have hm : minOf S = none := minOf_none.2 (all_zero hz)
    repeat refine seq ?_
    refine regn 1 hf (by decide +kernel) ?_
    refine st ((lss rfl rfl).eq (congrArg Value.bool (show decide (((16 : Nat) : Int) < 16) = false from rfl))) ?_
    refine en fun a w e' hf => ?_
    replace e := Ext.tr e e'
    clear e'
    refine tl_nil ?_
    repeat refine seq ?_
    refine ifc hf rfl (fun h => by cases h) (fun _ => wexit ?_)
    simp only [Exit.then, Exit.inBlock, ↓reduceIte]
    repeat refine seq ?_
    refine regn0 ?_
    refine tl_as hf rfl (by decide) fun a hf => ?_
    refine tl_as hf rfl (by decide) fun a hf => ?_
    refine tl_nil ?_
    refine wret (ret2 rfl hf rfl rfl ?_)
    rintro u v rfl rfl
    refine ⟨_, rfl, e, Tup.two ?_ ?_⟩
    · rw [hm]; rfl
    · rw [hm]; rfl
end Go.Mono
