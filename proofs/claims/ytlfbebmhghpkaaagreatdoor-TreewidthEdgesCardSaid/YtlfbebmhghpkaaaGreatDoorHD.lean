/-
  Walks and plain facts, in this order: MonoB, Skv, Conv, Bag, Below, Depths, Depths2, Check, Plain1, MonoI, MonoS, Nb, Range3, MonoR, Clone, Trees, Comp, Pop, Len, Bal1, Bal2, Rch, Tw5, TwP, Arg, MonoL, Memo, Tw7, Tw8, Tw9, MonoD1.
  No condition.
-/
import Derived.Test.YtlfbebmhghpkaaaGreatDoorHB
import Derived.Maps.RangeWalk
import Derived.Test.YtlfbebmhghpkaaaGreatDoorHC
import Derived.Test.YtlfbebmhghpkaaaGreatDoorHA
import Derived.ArgAppend
import Derived.OpenShut
import Derived.Deep.Slices
import Derived.ChangeSame
import Derived.OrdersIn
import Derived.TacticsIn
import Derived.RangeFuncIn
import Derived.RangeFuncLeaves
import Derived.RangeFuncRecord
import Derived.RangeFuncCalls
import Derived.Below
set_option linter.unusedVariables false
set_option linter.unusedSimpArgs false
namespace Go.Mono
open Go Go.RowKit Go.Gr
section
variable {P : Program} {α β : Type} [DecidableEq α] {V : KV P α β} {w w' : World} {b r n : Nat} {old rest : List (α × β)}
def RgR (V : KV P α β) (w : World) (b r n : Nat) (old rest : List (α × β)) : Prop :=
 ∃ es left cnt, w.ranges P V.k V.R b r n (.map es) left cnt ∧ es.Perm ((old ++ rest).map V.enc) ∧ (∀ p ∈ old ++ rest, V.ok p.1 ∧ V.okv p.2) ∧ (old ++ rest).Pairwise (fun p q => p.1 ≠ q.1) ∧
  (∀ x, V.ok x → left (V.kl x) = rest.any fun p => decide (p.1 = x))
theorem RgR.map (h : RgR V w b r n old rest) : MpR V w b n (old ++ rest) := by
 obtain ⟨es, left, cnt, h1, h2, h3, h4, _⟩ := h
 exact ⟨es, h1.owns, h2, h3, h4⟩
theorem RgR.lt (h : RgR V w b r n old rest) : b < w.heap.size ∧ r < w.heap.size ∧ r ≠ b := by
 obtain ⟨es, left, cnt, h1, _⟩ := h
 exact ⟨h1.owns.lt, h1.lt, h1.ne⟩
theorem RgR.gr (h : RgR V w b r n old rest) {row : Option Nat} (hg : w.grownBy w' row) (h1 : some b ≠ row) (h2 : some r ≠ row) : RgR V w' b r n old rest := by
 obtain ⟨es, left, cnt, k1, k2⟩ := h
 exact ⟨es, left, cnt, k1.kept hg h1 h2, k2⟩
theorem RgR.ext (h : RgR V w b r n old rest) (e : Ext w w') : RgR V w' b r n old rest := h.gr e.gr0 (by simp) (by simp)
theorem MpR.range {t : TypeId} {l : List (α × β)} (h : MpR V w b n l) (ht : P.underlying t = some (.map V.k V.e)) :
  ∃ w', (Instr.range t (.map (some b))).run P w = .ok (.pointer (some ⟨w.heap.size, 0, none⟩)) w' ∧ RgR V w' b w.heap.size n [] l ∧ Ext w w' ∧ w'.heap.size = w.heap.size + 1 := by
 obtain ⟨es, h1, h2, h3, h4⟩ := h
 obtain ⟨w', k1, k2, k3, k4⟩ := h1.range V.K ht
 refine ⟨w', k1, ⟨es, _, _, k2, h2, h3, h4, fun x hx => ?_⟩, ⟨k3.os, k3.tape, k3.output, k3.size, fun b hb => k3.block b hb (by simp)⟩, k4⟩
 obtain ⟨D, h5, h6, _⟩ := MpR.has (V := V) ⟨es, h1, h2, h3, h4⟩ hx
 show es.any (fun p => p.1.sameKey (V.kl x)) = _
 rw [h2.any_eq, List.any_map, Bool.eq_iff_iff]
 simp only [List.any_eq_true, Function.comp, KV.enc]
 exact ⟨fun ⟨p, hp, hq⟩ => ⟨p, hp, by rwa [V.same hx (h3 p hp).1] at hq⟩, fun ⟨p, hp, hq⟩ => ⟨p, hp, by rwa [V.same hx (h3 p hp).1]⟩⟩
theorem nodup_val {γ δ : Type} : ∀ {m : List (γ × δ)}, m.Pairwise (fun p q => p.1 ≠ q.1) → ∀ {x : γ} {c c' : δ}, (x, c) ∈ m → (x, c') ∈ m → c = c'
 | [], _, _, _, _, h, _ => by simp at h
 | y :: r, hm, x, c, c', h, h' => by
  obtain ⟨h6, h7⟩ := List.pairwise_cons.1 hm
  rcases List.mem_cons.1 h with hy | h1 <;> rcases List.mem_cons.1 h' with hy' | h2
  ·rw [← hy] at hy'; exact (congrArg Prod.snd hy').symm
  ·exact absurd rfl (by have := h6 _ h2; rwa [← hy] at this)
  ·exact absurd rfl (by have := h6 _ h1; rwa [← hy'] at this)
  ·exact nodup_val h7 h1 h2
theorem filter_one_perm : ∀ {m : List (α × β)}, m.Pairwise (fun p q => p.1 ≠ q.1) → ∀ {x : α} {c : β}, (x, c) ∈ m → m.Perm ((x, c) :: m.filter fun p => !decide (p.1 = x))
 | [], _, _, _, h => by simp at h
 | y :: r, hm, x, c, h => by
  obtain ⟨h6, h7⟩ := List.pairwise_cons.1 hm
  rcases List.mem_cons.1 h with hy | h1
  ·subst hy
   rw [List.filter_cons_of_neg (by simp)]
   have : r.filter (fun p => !decide (p.1 = x)) = r := List.filter_eq_self.2 fun p hp => by have := h6 p hp; simp only [Bool.not_eq_true', decide_eq_false_iff_not]; exact fun h => this h.symm
   rw [this]
  ·have hne : y.1 ≠ x := fun he => h6 _ h1 he
   rw [List.filter_cons_of_pos (by simpa using hne)]
   exact ((filter_one_perm h7 h1).cons y).trans (List.Perm.swap _ _ _)
theorem RgR.next (h : RgR V w b r n old rest) (ty : TypeId) :
  (rest = [] ∧ (Instr.next (.pointer (some ⟨r, 0, none⟩)) false ty).run P w = .ok (.tuple #[.bool false]) w) ∨
  ∃ x c w', (x, c) ∈ rest ∧ (Instr.next (.pointer (some ⟨r, 0, none⟩)) false ty).run P w = .ok (.tuple #[.bool true, V.kv x, V.mv c]) w' ∧ RgR V w' b r n (old ++ [(x, c)]) (rest.filter fun p => !decide (p.1 = x)) ∧ w.grownBy w' (some r) ∧
   (Instr.entry (.pointer (some ⟨r, 0, none⟩))).run P w' = .ok (.tuple #[V.kv x, V.mv c]) w' := by
 obtain ⟨es, left, cnt, h1, h2, h3, h4, h5⟩ := h
 have hMp : MpR V w b n (old ++ rest) := ⟨es, h1.owns, h2, h3, h4⟩
 rcases h1.next V.K ty with ⟨h0, hl, hrun⟩ | ⟨key, v, kl, y, w', cnt', hkey, hlk, hv, hat, hrun, hrg, _, hgr, _, hen⟩
 ·refine .inl ⟨?_, hrun⟩
  cases rest with
  | nil => rfl
  | cons p s =>
   have := h5 p.1 (h3 p (by simp)).1
   rw [hl] at this
   simp at this
 ·obtain ⟨x, hx, rfl, rfl⟩ := V.keyInv _ _ hkey
  obtain ⟨c, hc, rfl, rfl⟩ := V.valInv _ _ hv
  rw [h5 x hx, List.any_eq_true] at hlk
  obtain ⟨⟨x', c'⟩, hp, hpx⟩ := hlk
  obtain rfl : x' = x := by simpa using hpx
  obtain ⟨D, k1, k2, k3, _⟩ := hMp.has hx
  have hD : ∀ z, (DataW.map es).atKey (V.kl x') z = V.dv c' := by
   intro z
   have hm : V.enc (x', c') ∈ es := h2.mem_iff.2 (List.mem_map_of_mem (by simp [hp]))
   obtain ⟨es', hD', hpw, _⟩ := h1.owns.entries V.K
   cases hD'
   have hcm : (x', c') ∈ old ++ rest := by simp [hp]
   simp only [DataW.atKey]
   cases hf : es.find? (fun p => p.1.sameKey (V.kl x')) with
   | none =>
    have := List.find?_eq_none.1 hf _ hm
    simp [KV.enc, WideAt.sameKey_self (V.isKey hx)] at this
   | some q =>
    have hq := List.mem_of_find?_eq_some hf
    have hq2 := List.find?_some hf
    obtain ⟨p, hp2, rfl⟩ := List.mem_map.1 (h2.mem_iff.1 hq)
    have hpx' : p.1 = x' := by rw [KV.enc, V.same hx (h3 p hp2).1] at hq2; simpa using hq2
    have : p = (x', p.2) := by rw [← hpx']
    rw [this] at hp2
    rw [this, nodup_val h4 hp2 hcm]; rfl
  have hcc : c = c' := V.dvInj _ _ ((hat .nil).symm.trans (hD .nil))
  subst hcc
  have hperm := filter_one_perm (List.pairwise_append.1 h4).2.1 hp
  have hp2 : (old ++ rest).Perm (old ++ [(x', c)] ++ rest.filter fun p => !decide (p.1 = x')) := by
   rw [List.append_assoc]; exact (List.Perm.append_left old hperm)
  refine .inr ⟨x', c, w', hp, hrun, ⟨es, _, _, hrg, h2.trans (hp2.map _), fun p hp => h3 p (hp2.mem_iff.2 hp), (hp2.pairwise_iff (fun {_ _} hne => Ne.symm hne)).1 h4, fun z hz => ?_⟩, hgr, hen⟩
  rw [h5 z hz, V.same hx hz, List.any_filter]
  by_cases hzx : z = x'
  ·subst hzx
   simp only [decide_true, Bool.not_true, Bool.and_false]
   symm
   rw [List.any_eq_false]
   intro p _
   simp
  ·simp only [hzx, decide_false, Bool.not_false, Bool.and_true]
   congr 1
   funext p
   by_cases hpz : p.1 = z
   ·simp [hpz, hzx]
   ·simp [hpz]
end
section tail
variable {P : Program} {L : Env} {ty : TypeId} {pos : String} {aft : Array Edge} {ro : Option Nat} {ds : List Deferred}
variable {ops : Array Oper} {rest : List Oper} {Q : Exit → Act → World → Prop} {n : Nat} {a : Act} {w : World} {x y z : Operand} {α β : Type} [DecidableEq α] {V : KV P α β} {d : Nat}
theorem tl_range {t : TypeId} {b nn : Nat} {l : List (α × β)} (ht : P.underlying t = some (.map V.k V.e)) (hf : FrD n ds a w L) (hd : d < n) (hx : opd L x = some (E (.map (some b)))) (hM : MpR V w b nn l)
  (k : ∀ a' r w', Ext w w' → r = w.heap.size → w'.heap.size = r + 1 → RgR V w' b r nn [] l → FrD n ds a' w' ((d, E (.pointer (some ⟨r, 0, none⟩))) :: L) → wpListIn (FW ro) 0 P ops Q rest a' w') :
  wpListIn (FW ro) 0 P ops Q (⟨some d, .range t x, ty, pos, aft, none⟩ :: rest) a w :=
 wpListIn_plain rfl fun K hK => by
  have hxv : a.eval x = .map (some b) := hf.opd x _ hx
  obtain ⟨w', h1, h2, h3, h4⟩ := hM.range ht
  refine OpR.wp (R := fun v w1 => v = .pointer (some ⟨w.heap.size, 0, none⟩) ∧ w1 = w') ?_ ?_
  ·simp only [OpR, execOp, hxv, Sem.run_bind, h1, Result.andThen_ok, Sem.run_pure]
   exact ⟨trivial, trivial⟩
  ·rintro v w1 ⟨rfl, rfl⟩
   exact hK _ _ (k _ _ _ h3 rfl h4 h2 (hf.put (d := some d) h3 (fun k hk => by cases hk; exact hd) rfl))
theorem tl_next {b r nn : Nat} {old rem : List (α × β)} (hf : FrD n ds a w L) [hL : AvL r L] (hd : d < n) (hx : opd L x = some (E (.pointer (some ⟨r, 0, none⟩)))) (hR : RgR V w b r nn old rem)
  (k0 : ∀ a', rem = [] → FrD n ds a' w ((d, E (.tuple #[.bool false])) :: L) → wpListIn (FW ro) 0 P ops Q rest a' w)
  (k1 : ∀ a' w' i c, (i, c) ∈ rem → w.grownBy w' (some r) → RgR V w' b r nn (old ++ [(i, c)]) (rem.filter fun p => !decide (p.1 = i)) → (Instr.entry (.pointer (some ⟨r, 0, none⟩))).run P w' = .ok (.tuple #[V.kv i, V.mv c]) w' →
   FrD n ds a' w' ((d, E (.tuple #[.bool true, V.kv i, V.mv c])) :: L) → wpListIn (FW ro) 0 P ops Q rest a' w') :
  wpListIn (FW ro) 0 P ops Q (⟨some d, .next x false, ty, pos, aft, none⟩ :: rest) a w :=
 wpListIn_plain rfl fun K hK => by
  have hxv : a.eval x = .pointer (some ⟨r, 0, none⟩) := hf.opd x _ hx
  rcases hR.next ty with ⟨h0, hrun⟩ | ⟨i, c, w', hm, hrun, hR', hg, hen⟩
  ·refine OpR.wp (R := fun v w1 => v = .tuple #[.bool false] ∧ w1 = w) ?_ ?_
   ·simp only [OpR, execOp, hxv, Sem.run_bind, hrun, Result.andThen_ok, Sem.run_pure]
    exact ⟨trivial, trivial⟩
   ·rintro v w1 ⟨rfl, rfl⟩
    exact hK _ _ (k0 _ h0 (hf.put (d := some d) (Ext.rfl' _) (fun k hk => by cases hk; exact hd) rfl))
  ·refine OpR.wp (R := fun v w1 => v = .tuple #[.bool true, V.kv i, V.mv c] ∧ w1 = w') ?_ ?_
   ·simp only [OpR, execOp, hxv, Sem.run_bind, hrun, Result.andThen_ok, Sem.run_pure]
    exact ⟨trivial, trivial⟩
   ·rintro v w1 ⟨rfl, rfl⟩
    exact hK _ _ (k1 _ _ _ _ hm hg hR' hen ((hf.gr hg).put (d := some d) (Ext.rfl' _) (fun k hk => by cases hk; exact hd) rfl))
theorem tl_entry {r : Nat} {u : Value} (hf : FrD n ds a w L) (hd : d < n) (hx : opd L x = some (E (.pointer (some ⟨r, 0, none⟩)))) (hen : (Instr.entry (.pointer (some ⟨r, 0, none⟩))).run P w = .ok u w)
  (k : ∀ a', FrD n ds a' w ((d, E u) :: L) → wpListIn (FW ro) 0 P ops Q rest a' w) :
  wpListIn (FW ro) 0 P ops Q (⟨some d, .entry x, ty, pos, aft, none⟩ :: rest) a w :=
 wpListIn_plain rfl fun K hK => by
  have hxv : a.eval x = .pointer (some ⟨r, 0, none⟩) := hf.opd x _ hx
  refine OpR.wp (R := fun v w1 => v = u ∧ w1 = w) ?_ ?_
  ·simp only [OpR, execOp, hxv, Sem.run_bind, hen, Result.andThen_ok, Sem.run_pure]
   exact ⟨trivial, trivial⟩
  ·rintro v w1 ⟨rfl, rfl⟩
   exact hK _ _ (k _ (hf.put (d := some d) (Ext.rfl' _) (fun k hk => by cases hk; exact hd) rfl))
theorem tl_exE {vs : Array Value} {i : Nat} {u : Value} (hf : FrD n ds a w L) (hd : d < n) (hx : opd L x = some (E (.tuple vs))) (hi : vs[i]? = some u)
  (k : ∀ a', FrD n ds a' w ((d, E u) :: L) → wpListIn (FW ro) 0 P ops Q rest a' w) :
  wpListIn (FW ro) 0 P ops Q (⟨some d, .extract x i, ty, pos, aft, none⟩ :: rest) a w :=
 wpListIn_plain rfl fun K hK => by
  have hxv : a.eval x = .tuple vs := hf.opd x _ hx
  refine OpR.wp (R := fun v w1 => v = u ∧ w1 = w) ?_ ?_
  ·simp [OpR, execOp, hxv, Instr.extract, part, hi]
  ·rintro v w1 ⟨rfl, rfl⟩
   exact hK _ _ (k _ (hf.put (d := some d) (Ext.rfl' _) (fun k hk => by cases hk; exact hd) rfl))
end tail
end Go.Mono

namespace Go.Mono
open Go Go.Proofs Go.RowKit Go.Gr

def setD (S : BS) : DataW Unit := .lit (.int .i64 (S.toNat : Int))
theorem setD_inj {S S' : BS} (h : setD S = setD S') : S = S' := by
 unfold setD at h
 injection h with h
 injection h with _ h
 exact BitVec.eq_of_toNat_eq (by omega)
theorem setV_inj {S S' : BS} (h : setV S = setV S') : S = S' := setC_inj (by injection h)
open Classical in
noncomputable def setR (v : Value) : Option (DataW Unit × List MemPlace) := if h : ∃ S, v = setV S then some (setD (Classical.choose h), []) else none
theorem setR_mk (S : BS) : setR (setV S) = some (setD S, []) := by
 have h : ∃ S', setV S = setV S' := ⟨S, rfl⟩
 unfold setR
 rw [dif_pos h, ← setV_inj (Classical.choose_spec h)]
theorem setR_inv {v : Value} {y : DataW Unit × List MemPlace} (h : setR v = some y) : ∃ S, True ∧ v = setV S ∧ y = (setD S, []) := by
 unfold setR at h
 split at h
 ·rename_i hx; cases h; exact ⟨_, trivial, Classical.choose_spec hx, rfl⟩
 ·cases h
noncomputable def sKV : KV Tryz.prog Int BS where
 k := 3
 e := 39
 kv := fun x => .int .i64 x
 kl := fun x => .int .i64 x
 ok := fun x => (Lit.int .i64 x).wf = true
 mv := setV
 dv := setD
 okv := fun _ => True
 R := setR
 K := Maps.int_keyed Tryz.underlying3
 key := fun x hx => Maps.keyOf_int_mk Tryz.underlying3 hx
 keyInv := fun v l h => by obtain ⟨x, h1, h2, h3⟩ := Maps.keyOf_int_inv Tryz.underlying3 h; exact ⟨x, h3, h1, h2⟩
 kvInj := fun x y h => by cases h; rfl
 val := fun c _ => setR_mk c
 valInv := fun v y h => setR_inv h
 dvInj := fun c c' h => setD_inj h
end Go.Mono

namespace Go.Mono
open Go Go.Proofs Go.RowKit

abbrev bagE : Enc (Int × BS) := prE intE setE
def toB (b : Int × BS) : RB := (b.1, toL b.2)
def bg (t : List (Int × BS)) (i : Nat) : Int × BS := match t[i]? with
 | some b => b
 | none => (0, 0)
end Go.Mono

namespace Go.Mono
open Go Go.Proofs Go.RowKit

def bagC (b : Int × BS) : Array Value := (Value.int .i64 b.1 :: (setC b.2).toList).toArray
abbrev bagV (b : Int × BS) : Value := .agg (bagC b)
section
variable {P : Program} {w0 : World} {L : Env} {dst : Option Tmp} {ty : TypeId} {pos : String} {aft : Array Edge} {g : Option (Nat × Bool)} {t : TypeId} {x : Operand} {G : Nat → Prop} {b : Int × BS}
theorem Dv.bag {v : Value} {w : World} : (Dv bagE G b).p v w ↔ v = bagV b := by
 constructor
 ·rintro ⟨cs, ⟨c, d, h, h1, h2⟩, hv⟩
  cases h1; cases h2; subst h
  exact hv
 ·rintro rfl
  exact ⟨_, ⟨_, _, rfl, rfl, rfl⟩, rfl⟩
end

end Go.Mono

namespace Go.Mono
open Go Go.Proofs Go.RowKit

end Go.Mono

namespace Go.Mono
open Go Go.Proofs Go.RowKit

end Go.Mono

namespace Go.Mono
open Go Go.Proofs Go.RowKit

end Go.Mono

namespace Go.Mono
open Go Go.Proofs Go.RowKit

end Go.Mono

namespace Go.Mono

def pre (ks : Nat → List Nat) : Nat → Nat → List Nat
 | 0, b => [b]
 | f + 1, b => b :: (ks b).flatMap (pre ks f)
def upN (t : List (Int × BS)) (i : Nat) : Option Nat := if (bg t i).1 < 0 then none else some (bg t i).1.toNat
def it (t : List (Int × BS)) : Nat → Nat → Option Nat
 | 0, i => some i
 | d + 1, i => (it t d i).bind (upN t)
end Go.Mono

namespace Go.Mono
open Go Go.RowKit
theorem OwR.neT {α β : Type} {e : Enc α} {f : Enc β} {ty ty' : TypeId} {B B' : Nat} {G G' : Nat → Prop} {w : World} {xs : List α} {ys : List β} {u v : Value} (h : OwR e ty B G w xs u) (h' : OwR f ty' B' G' w ys v) (ht : ty ≠ ty') {g : Nat} (hu : u.ownBlock = some g) : v.ownBlock ≠ some g := by
 obtain ⟨cs, h1, _⟩ := h.own
 rcases h1.2 with ⟨rfl, _⟩ | ⟨g', cap, cur, rfl, _, hg, _⟩
 ·simp [Value.ownBlock] at hu
 ·simp only [Value.ownBlock, Option.some.injEq] at hu
  subst hu
  exact h'.neB (show Blk w g' cur ty from hg) ht
theorem OwR.groE {α : Type} {e : Enc α} [FlE e] {ty : TypeId} {B : Nat} {G : Nat → Prop} {w w' : World} {xs : List α} {v : Value} {row : Option Nat} (h : OwR e ty B G w xs v) (hg : w.grownBy w' row) (hne : ∀ b, v.ownBlock = some b → row ≠ some b) : OwR e ty B G w' xs v :=
 h.chE (S := fun b => row = some b) ⟨hg.os, hg.tape, hg.output, hg.size, fun b hb hn => hg.block b hb fun h => hn h.symm⟩ hne
end Go.Mono

namespace Go.Mono
open Go Go.RowKit
structure FlF {α : Type} (e : Enc α) (f : α → List Value) : Prop where
 r : ∀ G w x cs, e.r G w x cs ↔ cs = f x
 len : ∀ x, (f x).length = e.k
section
variable {α : Type} {e : Enc α} {f : α → List Value} {te : TypeId} {N n cap b : Nat} {cur : Array Value} {w w' : World} {G : Nat → Prop} {xs : List α} {v : Value}
theorem FlF.cells (F : FlF e f) : ∀ (xs : List α) (cs : List Value), Cells e G w xs cs ↔ cs = xs.flatMap f
 | [], cs => by simp [Cells]
 | x :: xs, cs => by
  constructor
  ·rintro ⟨c, d, rfl, h1, h2⟩
   rw [(F.r _ _ _ _).1 h1, (F.cells xs d).1 h2, List.flatMap_cons]
  ·intro h
   exact ⟨f x, xs.flatMap f, by rw [h, List.flatMap_cons], (F.r _ _ _ _).2 rfl, (F.cells xs _).2 rfl⟩
theorem FlF.flen (F : FlF e f) : ∀ xs : List α, (xs.flatMap f).length = xs.length * e.k
 | [] => by simp
 | x :: r => by rw [List.flatMap_cons, List.length_append, F.len, F.flen r, List.length_cons, Nat.succ_mul]; omega
structure RwR (k : Nat) (te : TypeId) (N cap b : Nat) (cur : Array Value) (w : World) : Prop where
 bl : Blk w b cur te
 lo : N ≤ b
 sz : cur.size = cap * k
 mx : cap ≤ maxLen
theorem RwR.ext {k : Nat} (h : RwR k te N cap b cur w) (e' : Ext w w') : RwR k te N cap b cur w' := ⟨h.bl.ext e', h.lo, h.sz, h.mx⟩
theorem RwR.gr {k d : Nat} (h : RwR k te N cap b cur w) (hg : w.grownBy w' (some d)) (hne : b ≠ d) : RwR k te N cap b cur w' := ⟨h.bl.gr hg hne, h.lo, h.sz, h.mx⟩
theorem OwR.rw (h : OwR e te N G w xs v) (F : FlF e f) : (v = .slice none 0 0 ∧ xs = []) ∨ ∃ b cap cur, v = .slice (some ⟨b, 0, none⟩) xs.length cap ∧ xs.length ≤ cap ∧ RwR e.k te N cap b cur w ∧ cur.toList.take (xs.length * e.k) = xs.flatMap f := by
 obtain ⟨cs, ⟨hlen, hv⟩, hcs⟩ := h.own
 rw [F.cells] at hcs
 subst hcs
 rcases hv with ⟨rfl, hn⟩ | ⟨g0, cap, cur, rfl, hB, hheap, hcap, hmax, hcur, htake⟩
 ·exact .inl ⟨rfl, List.length_eq_zero_iff.1 hn⟩
 ·exact .inr ⟨g0, cap, cur, rfl, hcap, ⟨hheap, hB, hcur, hmax⟩, htake⟩
theorem RwR.own (h : RwR e.k te N cap b cur w) (F : FlF e f) (hn : xs.length ≤ cap) (ht : cur.toList.take (xs.length * e.k) = xs.flatMap f) (hG : ∀ b, G b → b < N) : OwR e te N G w xs (.slice (some ⟨b, 0, none⟩) xs.length cap) :=
 ⟨⟨xs.flatMap f, ⟨F.flen xs, .inr ⟨b, cap, cur, rfl, h.lo, h.bl, hn, h.mx, h.sz, ht⟩⟩, (F.cells _ _).2 rfl⟩, hG, Nat.le_trans h.lo (Nat.le_of_lt h.bl.lt)⟩
end
section
variable {α : Type} {f : α → List Value} {k : Nat}
end
section ops
variable {P : Program} {w0 : World} {L : Env} {dst : Option Tmp} {ty : TypeId} {pos : String} {aft : Array Edge} {g : Option (Nat × Bool)} {x y : Operand} {t te : TypeId}
end ops
section tail
variable {P : Program} {L : Env} {ty : TypeId} {pos : String} {aft : Array Edge} {r : Option Nat} {ds : List Deferred}
variable {ops : Array Oper} {rest : List Oper} {Q : Exit → Act → World → Prop} {n : Nat} {a : Act} {w : World} {x y : Operand} {t te : TypeId}
end tail
end Go.Mono

namespace Go.Mono
open Go Go.Proofs Go.RowKit
def adjK (t : List (Int × BS)) (k j : Nat) : BS :=
 (List.range k).foldl (fun S i => if (bg t i).1 < 0 then S else if (bg t i).1 = (j : Int) then ins S (i : Int) else if i = j then ins S (bg t i).1 else S) 0
def adjL (t : List (Int × BS)) : List BS := (List.range t.length).map (adjK t t.length)
end Go.Mono

namespace Go.Mono
open Go Go.Proofs Go.RowKit

section
variable {g : Operand} {p : Nat} {assign body : Code} {Q : Exit → Act → World → Prop} {n b : Nat} {ds : List Deferred} {a : Act} {w : World} {S : BS} {L : Env} {r : Option Nat}

theorem range_core3 (lo : Nat) [PureL L] {l : Nat} {mark : List Deferred} {df : Nat} {D : Option Nat} (hf : FrD n ds a w L) (hx : opd L g = some (E (seqV b))) (hb : Blk w b (setC S) 39) (hp : p < n)
  (J : List Nat → World → Prop) (X : Exit → World → Prop)
  (henter : ∀ fn, ∃ W1, (Instr.enterLoop fn a.tmps #[p] assign body r).run Tryz.prog w = .ok (l, mark) W1 ∧ W1.heap[l]? = some (.loop { state := .ready, pending := none, fn, tmps := a.tmps, params := #[p], assign, body, defers := df }) ∧ Ext w W1 ∧
   W1.heap.size ≤ w.heap.size + 2 ∧ w.heap.size + lo ≤ W1.heap.size ∧ w.heap.size ≤ l ∧ ∀ d, D = some d → W1.heap[d]? = some (.deferred (some [])) ∧ d ≠ l ∧ w.heap.size ≤ d)
  (hT : ∀ s w1, J s w1 → Tab w1) (h0 : J [] w)
  (hJ : ∀ s w1 w2, J s w1 → w.heap.size ≤ w1.heap.size → Kp w.heap.size w1 w2 → J s w2)
  (hX : ∀ e w1 w2, X e w1 → w.heap.size ≤ w1.heap.size → Kp w.heap.size w1 w2 → X e w2)
  (hbody : ∀ (l s x) (rest : List Nat) (a1 : Act) (w1 : World), elems S = s ++ x :: rest → J s w1 → w.heap.size + lo < w1.heap.size → FrD n [] a1 w1 ((p, E (I (x : Nat))) :: L) →
   assign.wpIn (FW (some l)) 0 Tryz.prog (Exit.then (fun a2 w2 => Kh w.heap.size w1 w2 ∧ ∀ w3, Kp w.heap.size w2 w3 → w3.heap.size = w2.heap.size → body.wpIn (FW (some l)) 0 Tryz.prog (Rd J X s x w.heap.size w3) a2 w3) (fun _ _ _ => False)) a1 w1)
  (hdone : ∀ a' w', FrD n (mark ++ ds) a' w' L → J (elems S) w' → w.heap.size ≤ w'.heap.size → (∀ d, D = some d → w'.heap[d]? = some (.deferred (some []))) → Q .normal a' w')
  (hexit : ∀ e c a' w', codeOf e = some c → FrD n (mark ++ ds) a' w' L → X e w' → w.heap.size ≤ w'.heap.size → (∀ d, D = some d → w'.heap[d]? = some (.deferred (some []))) → Q e a' w') :
  (Code.rangeFunc g #[p] assign body).wpIn (FW r) 0 Tryz.prog Q a w := by
 have hxv : a.eval g = seqV b := hf.opd g _ hx
 refine wpIn_rangeFunc fun fn _ => ?_
 obtain ⟨W1, hrun, hl, he, hsz, hlo, hwl, hD⟩ := henter fn
 have hlt : l < W1.heap.size := (Array.getElem?_eq_some_iff.1 hl).1
 have hres : (resolve a.eval (rangeCall g l) 0).run Tryz.prog W1 = .ok { target := .fn (.func 49) #[.pointer (some ⟨b, 0, none⟩)], args := #[.func (.yield l) #[] #[]] } W1 := by
  have hev : a.eval (.const (.func (.yield l) #[] #[])) = .func (.yield l) #[] #[] := rfl
  simp [resolve, hxv, hev, seqV, Deferred.ofValue]
 refine ⟨l, mark, W1, _, W1, 49, #[.func (.yield l) #[] #[], .pointer (some ⟨b, 0, none⟩)], W1, hrun, hres, fun _ _ => trivial, ?_, fun hd => (by simp [FW] at hd), ?_⟩
 ·exact En49 _ W1
 generalize hrec : ({ state := .ready, pending := none, fn, tmps := a.tmps, params := #[p], assign, body, defers := df } : Loop) = rec0 at hl
 have hhole : Hole w.heap.size l := ⟨hwl, by omega⟩
 have hW3 : ∀ x, x < W1.heap.size → w.heap.size ≤ x → Hole w.heap.size x := fun x h1 h2 => ⟨h2, by omega⟩
 refine callsW r ((iter_spec S l b w.heap.size W1
  (fun s w1 => J s w1 ∧ W1.heap.size ≤ w1.heap.size ∧ w1.heap[l]? = some (.loop rec0) ∧ ∀ d, D = some d → w1.heap[d]? = some (.deferred (some [])))
  (fun w1 => ∃ e c, codeOf e = some c ∧ X e w1 ∧ W1.heap.size ≤ w1.heap.size ∧ w1.heap[l]? = some (.loop { rec0 with state := .done, pending := some c }) ∧ ∀ d, D = some d → w1.heap[d]? = some (.deferred (some [])))
  ((hT [] w h0).ext he) (hb.ext he) hb.lt he.size (by omega) ⟨hJ [] w W1 h0 (Nat.le_refl _) (Kp.ext he), Nat.le_refl _, hl, fun d hd => (hD d hd).1⟩ ?_ ?_ ?_ ?_).mono ?_)
 ·rintro s w1 w2 ⟨j1, j2, j3, j4⟩ k hsz1 hsame
  refine ⟨hJ s w1 w2 j1 (Nat.le_trans he.size j2) k, Nat.le_trans j2 k.size, (hsame l hlt).trans j3, fun d hd => (hsame d ?_).trans (j4 d hd)⟩
  exact (Array.getElem?_eq_some_iff.1 (hD d hd).1).1
 ·rintro w1 w2 ⟨e, c, x1, x2, x3, x4, x5⟩ k
  exact ⟨e, c, x1, hX e w1 w2 x2 (Nat.le_trans he.size x3) (Kp.ext k), Nat.le_trans x3 k.size, (k.block l (by omega)).trans x4, fun d hd => (k.block d (Array.getElem?_eq_some_iff.1 (x5 d hd)).1).trans (x5 d hd)⟩
 ·rintro s w1 ⟨j1, _⟩
  exact hT s w1 j1
 ·rintro s x rest w1 hs ⟨j1, j2, j3, j4⟩ hltW
  have hy := run_yield (P := Tryz.prog) (args := #[I (x : Nat)]) j3 (by subst hrec; rfl)
  have htm : (rec0.params.zip #[I (x : Nat)]).foldl (fun tmps (t, a) => tmps.setIfInBounds t a) rec0.tmps = a.tmps.setIfInBounds p (I (x : Nat)) := by
   subst hrec; simp
  have hfn : rec0.assign = assign ∧ rec0.body = body ∧ rec0.fn = fn ∧ rec0.state = .ready := by subst hrec; exact ⟨rfl, rfl, rfl, rfl⟩
  rw [htm, hfn.1, hfn.2.1] at hy
  refine ⟨_, _, _, _, hy, ?_⟩
  have hf0 : FrD n [] { tmps := a.tmps, defers := [] } w1 L := ⟨hf.size, rfl, fun t A ht => PureL.pu t A ht _ _ _ (hf.val t A ht)⟩
  have hf1 : FrD n [] { tmps := a.tmps.setIfInBounds p (I (x : Nat)), defers := [] } w1 ((p, E (I (x : Nat))) :: L) :=
   hf0.put (d := some p) (v := I (x : Nat)) (A := E (I (x : Nat))) (Ext.rfl' _) (fun k hk => by cases hk; exact hp) rfl
  refine roundIn_of_wpIn (F := Fence.wide) (n := 0) trivial ?_
  refine wpIn_mono (hbody l s x rest _ w1 hs j1 (by omega) hf1) fun e2 a2 w2 hq => ?_
  cases e2 with
  | normal =>
   obtain ⟨kh, hb2⟩ := hq
   have j3' : w2.heap[l]? = some (.loop rec0) := (kh.same l (by omega) hhole).trans j3
   refine ⟨_, run_beginRound j3' hfn.2.2.2, ?_⟩
   refine wpIn_mono (hb2 (w2.putObj l (.loop { rec0 with state := .busy })) (Kp.put hhole) (by simp)) fun e3 a3 w3 hq3 => ?_
   have hl2 : l < w2.heap.size := (Array.getElem?_eq_some_iff.1 j3').1
   have rec3 : ∀ {w3 : World}, Kh w.heap.size (w2.putObj l (.loop { rec0 with state := .busy })) w3 → w3.heap[l]? = some (.loop { rec0 with state := .busy }) := fun k =>
    (k.same l (by simpa using hl2) hhole).trans (World.putObj_heap_same hl2)
   have size3 : ∀ {w3 : World}, Kh w.heap.size (w2.putObj l (.loop { rec0 with state := .busy })) w3 → w1.heap.size ≤ w3.heap.size := fun k => by
    have h1 := k.size
    have h2 := kh.size
    simp at h1
    omega
   have d3 : ∀ {w3 : World}, Kh w.heap.size (w2.putObj l (.loop { rec0 with state := .busy })) w3 → ∀ o, ∀ d, D = some d → (w3.putObj l o).heap[d]? = some (.deferred (some [])) := fun {w3} k o d hd => by
    have h1 := hD d hd
    have hdlt : d < w1.heap.size := (Array.getElem?_eq_some_iff.1 (j4 d hd)).1
    have hdh : Hole w.heap.size d := hW3 d (Array.getElem?_eq_some_iff.1 h1.1).1 h1.2.2
    have hk2 := kh.size
    rw [World.putObj_heap_other h1.2.1, k.same d (by simp; omega) hdh, World.putObj_heap_other h1.2.1, kh.same d hdlt hdh]
    exact j4 d hd
   have rb3 : ∀ {w3 : World}, Kh w.heap.size (w2.putObj l (.loop { rec0 with state := .busy })) w3 → ∀ o, (w3.putObj l o).heap[W1.heap.size]? = w1.heap[W1.heap.size]? := fun {w3} k o => by
    have hne : W1.heap.size ≠ l := by omega
    have hr : Hole w.heap.size W1.heap.size := ⟨he.size, by omega⟩
    have hk2 := kh.size
    rw [World.putObj_heap_other hne, k.same _ (by simp; omega) hr, World.putObj_heap_other hne, kh.same _ hltW hr]
   cases e3 with
   | normal =>
    obtain ⟨q1, q2⟩ := hq3
    refine ⟨_, _, run_endRound none (rec3 q2), _, rfl, .inl ⟨rfl, ⟨hJ _ _ _ q1 (Nat.le_trans (Nat.le_trans he.size j2) (size3 q2)) (Kp.put hhole), ?_, ?_, d3 q2 _⟩, by simpa using size3 q2, rb3 q2 _⟩⟩
    ·have := size3 q2; simp; omega
    ·rw [World.putObj_heap_same (Array.getElem?_eq_some_iff.1 (rec3 q2)).1]
     subst hrec
     rfl
   | ret =>
    obtain ⟨q1, q2⟩ := hq3
    refine ⟨_, _, run_endRound (some .ret) (rec3 q2), _, rfl, .inr ⟨rfl, .ret, .ret, rfl, hX _ _ _ q1 (Nat.le_trans (Nat.le_trans he.size j2) (size3 q2)) (Kp.put hhole), ?_, ?_, d3 q2 _⟩⟩
    ·have := size3 q2; simp; omega
    ·rw [World.putObj_heap_same (Array.getElem?_eq_some_iff.1 (rec3 q2)).1]
     rfl
   | exit id =>
    obtain ⟨q1, q2⟩ := hq3
    refine ⟨_, _, run_endRound (some (.exit id)) (rec3 q2), _, rfl, .inr ⟨rfl, .exit id, .exit id, rfl, hX _ _ _ q1 (Nat.le_trans (Nat.le_trans he.size j2) (size3 q2)) (Kp.put hhole), ?_, ?_, d3 q2 _⟩⟩
    ·have := size3 q2; simp; omega
    ·rw [World.putObj_heap_same (Array.getElem?_eq_some_iff.1 (rec3 q2)).1]
     rfl
   | goto t => exact hq3.elim
   | panic c => exact hq3.elim
   | outgrown => exact hq3.elim
  | _ => exact hq.elim
 ·rintro e w2 ⟨rfl, h | h⟩
  ·obtain ⟨j1, j2, j3, j4⟩ := h
   refine ⟨none, w2.putObj l (.loop { rec0 with state := .exhausted }), ?_, hdone _ _ (⟨hf.size, by simp [hf.defers], fun t A ht => PureL.pu t A ht _ _ _ (hf.val t A ht)⟩) (hJ _ _ _ j1 (Nat.le_trans he.size j2) (Kp.put hhole)) ?_ ?_⟩
   ·have := run_endLoop (P := Tryz.prog) j3 (by subst hrec; simp)
    subst hrec
    exact this
   ·have := he.size; simp; omega
   ·intro d hd
    rw [World.putObj_heap_other (hD d hd).2.1]
    exact j4 d hd
  ·obtain ⟨ex, c, x1, x2, x3, x4, x5⟩ := h
   refine ⟨some c, _, run_endLoop (P := Tryz.prog) x4 (by simp), ?_⟩
   have hQ := hexit ex c { a with defers := mark ++ a.defers } (w2.putObj l (.loop { rec0 with state := .exhausted, pending := some c })) x1 (⟨hf.size, by simp [hf.defers], fun t A ht => PureL.pu t A ht _ _ _ (hf.val t A ht)⟩)
    (hX _ _ _ x2 (Nat.le_trans he.size x3) (Kp.put hhole)) (by have := he.size; simp; omega) (fun d hd => by
     rw [World.putObj_heap_other (hD d hd).2.1]
     exact x5 d hd)
   cases ex with
   | ret => cases x1; exact wpIn_ret hQ
   | exit id => cases x1; exact wpIn_exit hQ
   | _ => cases x1
theorem range_all3 [PureL L] (hf : FrD n ds a w L) (hx : opd L g = some (E (seqV b))) (hb : Blk w b (setC S) 39) (hp : p < n)
  (J : List Nat → World → Prop) (X : Exit → World → Prop)
  (hT : ∀ s w1, J s w1 → Tab w1) (h0 : J [] w)
  (hJ : ∀ s w1 w2, J s w1 → w.heap.size ≤ w1.heap.size → Kp w.heap.size w1 w2 → J s w2)
  (hX : ∀ e w1 w2, X e w1 → w.heap.size ≤ w1.heap.size → Kp w.heap.size w1 w2 → X e w2)
  (hbody : ∀ (l s x) (rest : List Nat) (a1 : Act) (w1 : World), elems S = s ++ x :: rest → J s w1 → w.heap.size + 3 ≤ w1.heap.size → FrD n [] a1 w1 ((p, E (I (x : Nat))) :: L) →
   assign.wpIn (FW (some l)) 0 Tryz.prog (Exit.then (fun a2 w2 => Kh w.heap.size w1 w2 ∧ ∀ w3, Kp w.heap.size w2 w3 → w3.heap.size = w2.heap.size → body.wpIn (FW (some l)) 0 Tryz.prog (Rd J X s x w.heap.size w3) a2 w3) (fun _ _ _ => False)) a1 w1)
  (hdone : ∀ a' w', FrD n ({ target := .collected w.heap.size, args := #[] } :: ds) a' w' L → J (elems S) w' → w.heap.size ≤ w'.heap.size → w'.heap[w.heap.size]? = some (.deferred (some [])) → Q .normal a' w')
  (hexit : ∀ e c a' w', codeOf e = some c → FrD n ({ target := .collected w.heap.size, args := #[] } :: ds) a' w' L → X e w' → w.heap.size ≤ w'.heap.size → w'.heap[w.heap.size]? = some (.deferred (some [])) → Q e a' w') :
  (Code.rangeFunc g #[p] assign body).wpIn (FW none) 0 Tryz.prog Q a w := by
 refine range_core3 2 (l := w.heap.size + 1) (mark := [{ target := .collected w.heap.size, args := #[] }]) (df := w.heap.size) (D := some w.heap.size) hf hx hb hp J X ?_ hT h0 hJ hX (fun l s x rest a1 w1 h1 h2 h3 => hbody l s x rest a1 w1 h1 h2 (by omega))
  (fun a' w' h1 h2 h3 h4 => hdone a' w' h1 h2 h3 (h4 _ rfl)) (fun e c a' w' h1 h2 h3 h4 h5 => hexit e c a' w' h1 h2 h3 h4 (h5 _ rfl))
 intro fn
 refine ⟨_, run_enterLoop_outer fn a.tmps #[p] assign body, ?_, ?_, ?_, by simp, by omega, ?_⟩
 ·have := World.alloc_heap_new (w.alloc (.deferred (some []))) (.loop { state := .ready, pending := none, fn, tmps := a.tmps, params := #[p], assign, body, defers := w.heap.size })
  rwa [World.size_alloc] at this
 ·exact Ext.tr (ext_alloc w _) (ext_alloc _ _)
 ·simp
 ·rintro d hd
  cases hd
  refine ⟨?_, by omega, Nat.le_refl _⟩
  rw [Below.heap_alloc _ _ _ (by simp)]
  exact World.alloc_heap_new w _

end
end Go.Mono

namespace Go.Mono
open Go Go.RowKit
structure QR (te : TypeId) (B : Nat) (w : World) (xs : List Int) (v : Value) : Prop where
 own : ∃ g off cap cur, v = .slice (some ⟨g, off, none⟩) xs.length cap ∧ B ≤ g ∧ Blk w g cur te ∧ xs.length ≤ cap ∧ off + cap ≤ cur.size ∧ ∀ i z, xs[i]? = some z → cur[off + i]? = some (Value.int .i64 z)
theorem QR.ch {te : TypeId} {B : Nat} {w w' : World} {xs : List Int} {v : Value} (h : QR te B w xs v) {S : Nat → Prop} (c : Chg S w w') (hS : ∀ b, v.ownBlock = some b → ¬S b) : QR te B w' xs v := by
 obtain ⟨g, off, cap, cur, rfl, h1, h2, h3⟩ := h.own
 exact ⟨g, off, cap, cur, rfl, h1, h2.ch c (hS g rfl), h3⟩
theorem QR.ext {te : TypeId} {B : Nat} {w w' : World} {xs : List Int} {v : Value} (h : QR te B w xs v) (e : Ext w w') : QR te B w' xs v := by
 obtain ⟨g, off, cap, cur, rfl, h1, h2, h3⟩ := h.own
 exact ⟨g, off, cap, cur, rfl, h1, h2.ext e, h3⟩
theorem QR.gr {te : TypeId} {B : Nat} {w w' : World} {xs : List Int} {v : Value} {b : Nat} (h : QR te B w xs v) (hg : w.grownBy w' (some b)) (hb : v.ownBlock ≠ some b) : QR te B w' xs v := by
 obtain ⟨g, off, cap, cur, rfl, h1, h2, h3⟩ := h.own
 exact ⟨g, off, cap, cur, rfl, h1, h2.gr hg (fun h => hb (by rw [← h]; rfl)), h3⟩
theorem QR.one {te : TypeId} {B : Nat} {w : World} {xs : List Int} {v : Value} (h : QR te B w xs v) : v.oneCell' = true := by
 obtain ⟨g, off, cap, cur, rfl, _⟩ := h.own
 rfl
theorem QR.ne {te : TypeId} {B : Nat} {w : World} {xs : List Int} {v : Value} (h : QR te B w xs v) {b : Nat} {cs : Array Value} {t : TypeId} (hb : Blk w b cs t) (ht : t ≠ te) : v.ownBlock ≠ some b := by
 obtain ⟨g, off, cap, cur, rfl, _, h2, _⟩ := h.own
 intro he
 have : g = b := by simpa [Value.ownBlock] using he
 subst this
 exact (Blk.ne h2 hb (Ne.symm ht)) rfl
theorem QR.lt {te : TypeId} {B : Nat} {w : World} {xs : List Int} {v : Value} (h : QR te B w xs v) {b : Nat} (hb : v.ownBlock = some b) : B ≤ b ∧ b < w.heap.size := by
 obtain ⟨g, off, cap, cur, rfl, h1, h2, _⟩ := h.own
 have : g = b := by simpa [Value.ownBlock] using hb
 subst this
 exact ⟨h1, h2.lt⟩
theorem OwR.queue {te : TypeId} {B : Nat} {G : Nat → Prop} {w : World} {xs : List Int} {v : Value} (h : OwR intE te B G w xs v) (h0 : xs ≠ []) : QR te B w xs v := by
 obtain ⟨cs, ⟨hl, hrow⟩, hcs⟩ := h.own
 have hc : ∀ {l : List Int} {cs : List Value}, Cells intE (GO G v) w l cs → cs = l.map (Value.int .i64) := by
  intro l
  induction l with
  | nil => intro cs h; exact h
  | cons x l ih =>
   rintro cs ⟨c, d, h, h1, h2⟩
   have : c = [.int .i64 x] := h1
   rw [h, this, ih h2]; rfl
 have hcs' := hc hcs
 subst hcs'
 rcases hrow with ⟨_, hn⟩ | ⟨g, cap, cur, rfl, hB, hg, hn, hm, hs, ht⟩
 ·exact absurd (List.eq_nil_of_length_eq_zero hn) h0
 ·simp only [show (intE).k = 1 from rfl, Nat.mul_one] at hs ht
  refine ⟨g, 0, cap, cur, rfl, hB, hg, hn, by omega, fun i z hz => ?_⟩
  have hlt := (List.getElem?_eq_some_iff.1 hz).1
  have : (cur.toList.take xs.length)[i]? = (xs.map (Value.int .i64))[i]? := by rw [ht]
  rw [List.getElem?_take, if_pos hlt, List.getElem?_map, hz] at this
  simpa using this
theorem QR.dv {te : TypeId} {B : Nat} {G : Nat → Prop} {w : World} {xs : List Int} {v : Value} (h : QR te B w xs v) (hG : ∀ b, v.ownBlock = some b → ¬G b) : (Dv (slE intE) G xs).p v w := by
 obtain ⟨g, off, cap, cur, rfl, h1, h2, h3, h4, h5⟩ := h.own
 have hc : ∀ l : List Int, Cells intE G w l (l.map (Value.int .i64)) := by
  intro l
  induction l with
  | nil => rfl
  | cons x l ih => exact ⟨[.int .i64 x], _, rfl, rfl, ih⟩
 refine Dv.sl.2 (.inr ⟨⟨g, off, none⟩, cap, xs.map (Value.int .i64), rfl, h3, hG g rfl, h2.lt, hc xs, fun i u hu => ?_⟩)
 rw [Addr.add_lit, h2.cell]
 rw [List.getElem?_map] at hu
 cases hz : xs[i]? with
 | none => rw [hz] at hu; cases hu
 | some z => rw [hz] at hu; cases hu; exact h5 i z hz

section
variable {P : Program} {w0 : World} {L : Env} {dst : Option Tmp} {ty : TypeId} {pos : String} {aft : Array Edge} {g : Option (Nat × Bool)}
end
section tail
variable {P : Program} {L : Env} {ty : TypeId} {pos : String} {aft : Array Edge} {r : Option Nat} {ds : List Deferred}
variable {ops : Array Oper} {rest : List Oper} {Q : Exit → Act → World → Prop} {n : Nat} {a : Act} {w : World} {x y : Operand}
end tail
end Go.Mono

namespace Go.Mono
open Go Go.Proofs Go.RowKit

end Go.Mono

namespace Go.Mono
open Go Go.Proofs Go.RowKit

theorem of_spec {G : Nat → Prop} (r : List Int) (v : Value) (W : World) (h : (Dv (slE intE) G r).p v W) (hl : r.length ≤ 4096) :
  Calls Tryz.prog 10 #[v] W (Post (E (setV (r.foldl ins 0))) W) := by
 refine enter (args := [v]) (As := [Dv (slE intE) (GB W G) r]) Tryz.func10 rfl Tryz.ntmps10 (Nat.le_of_ble_eq_true rfl) ?_ (fun a hf => ?_) (Nat.le_of_ble_eq_true rfl)
 rotate_left
 dsimp only [params, Nat.reduceAdd] at hf
 rotate_right
 ·exact arg1 (Dv.toB h)
 have e := Ext.rfl' W
 repeat refine seq ?_
 refine regn0 ?_
 refine tl_alloc I39 hf (by decide) fun a b2 w e' hb2 hs2 B2 hf => ?_
 have hle2 := Nat.le_trans e.size (Nat.le_of_eq hb2.symm)
 replace e := e.tr e'
 refine tl_nil ?_
 repeat refine seq ?_
 refine regn0 ?_
 refine tl_alloc I39 hf (by decide) fun a b3 w e' hb3 hs3 B3 hf => ?_
 have hle3 := Nat.le_trans e.size (Nat.le_of_eq hb3.symm)
 have lt3_B2 := B2.lt
 replace e := e.tr e'
 replace B2 := B2.ext e'
 refine tl_nil ?_
 have hne : b2 ≠ b3 := by omega
 simp only [Value.cells, zeroC] at B2 B3
 repeat refine seq ?_
 refine regn 3 hf (by decide +kernel) ?_
 refine st (mv rfl) ?_
 refine st (lenD Tryz.underlying26 (isR rfl)) ?_
 refine st (mv rfl) ?_
 refine en fun a w e' hf => ?_
 replace e := e.tr e'
 replace B2 := B2.ext e'
 replace B3 := B3.ext e'
 refine tl_nil ?_
 replace hf := hf.kp [2, 3, 6, 7, 8]
 repeat refine seq ?_
 refine blk (loopN (fun r0 a w => ∃ (k : Nat) , r0 = r.length - k ∧ k ≤ r.length ∧ Fr 17 a w [(2, E (.pointer (some ⟨b2, 0, none⟩))), (3, E (.pointer (some ⟨b3, 0, none⟩))), (6, Dv (slE intE) (GB W G) r), (7, E (I (r.length : Nat))), (8, E (I k))] ∧ Ext W w ∧ Blk w b2 (setC 0) 39 ∧ Blk w b3 (setC ((r.take k).foldl ins 0)) 39) r.length ⟨0, rfl, by omega, hf, e, B2, B3⟩ ?_)
 clear hf e; try clear B2; try clear B3
 rintro r0 a w ⟨k, rfl, hk, hf, e, B2, B3⟩
 repeat refine seq ?_
 refine regn 1 hf (by decide +kernel) ?_
 refine st (lss rfl rfl) ?_
 refine en fun a w e' hf => ?_
 replace e := e.tr e'
 replace B2 := B2.ext e'
 replace B3 := B3.ext e'
 refine tl_nil ?_
 repeat refine seq ?_
 refine ifc hf rfl (fun hc => wskip ?_) (fun hc => wexit ?_)
 rotate_left
 rotate_left
 ·have hlt : k < r.length := by have := of_decide_eq_true hc; (try dsimp only at this); omega
  clear hc
  replace hf := hf.kp [2, 3, 6, 7, 8]
  repeat refine seq ?_
  refine blk ?_
  have hx := gi_get hlt
  have hS : (r.take (k + 1)).foldl ins 0 = ins ((r.take k).foldl ins 0) (gi r k) := by rw [gi_take hlt, List.foldl_append]; rfl
  repeat refine seq ?_
  refine regn 2 hf (by decide +kernel) ?_
  refine st (idxD Tryz.underlying26 S3 (isR rfl) rfl (by omega) (hx)) ?_
  refine st (ldI T3 (isR rfl)) ?_
  refine en fun a w e' hf => ?_
  replace e := e.tr e'
  replace B2 := B2.ext e'
  replace B3 := B3.ext e'
  refine tl_as hf rfl (by decide) fun a hf => ?_
  refine tl_nil ?_
  repeat refine seq ?_
  refine regn 3 hf (by decide +kernel) ?_
  refine st (ldW T39 rfl (by assumption) rfl) ?_
  refine st (mv rfl) ?_
  refine st (call2 En28 rfl rfl (fun v u w he h h' => by cases h; cases h'; exact with_spec _ _ w)) ?_
  refine en fun a w e' hf => ?_
  replace e := e.tr e'
  replace B2 := B2.ext e'
  replace B3 := B3.ext e'
  clear e'
  haveI hinr : ∀ G0, InR (GB W G0) (some b3) := fun G0 => InR.gb (by omega)
  refine tl_stW T39 hf rfl rfl (wordsC_one _) B3 rfl (rfl) fun w hg hsz B3 hf => ?_
  replace e := e.gr hg (by omega)
  replace B2 := B2.gr hg (by omega)
  clear hg
  refine tl_nil ?_
  try simp only [Exit.then, Exit.inBlock, ↓reduceIte]
  rw [← hS] at B3
  try simp only [Exit.then, Exit.inBlock, ↓reduceIte]
  repeat refine seq ?_
  refine regn 1 hf (by decide +kernel) ?_
  refine st ((add rfl rfl (by omega)).eq (congrArg (Value.int .i64) (show (k : Int) + 1 = ((k + 1 : Nat) : Int) from rfl))) ?_
  refine en fun a w e' hf => ?_
  replace e := e.tr e'
  replace B2 := B2.ext e'
  replace B3 := B3.ext e'
  clear e'
  refine tl_op hf (by decide) (mv rfl) fun a w e' hf => ?_
  replace e := e.tr e'
  replace B2 := B2.ext e'
  replace B3 := B3.ext e'
  refine tl_nil ?_
  replace hf := hf.kp [2, 3, 6, 7, 8]
  refine ⟨_, ?_, k + 1, rfl, by omega, hf, e, ?_⟩
  ·omega
  exact ⟨B2, B3⟩
 ·obtain rfl : k = r.length := by have := of_decide_eq_false hc; (try dsimp only at this); omega
  clear hc
  simp only [Exit.then, Exit.inBlock, ↓reduceIte]
  rw [List.take_length] at B3
  replace hf := hf.kp [2, 3]
  repeat refine seq ?_
  refine regn 1 hf (by decide +kernel) ?_
  refine st (ldW T39 rfl (by assumption) rfl) ?_
  refine en fun a w e' hf => ?_
  replace e := e.tr e'
  replace B2 := B2.ext e'
  replace B3 := B3.ext e'
  clear e'
  haveI hinr : ∀ G0, InR (GB W G0) (some b2) := fun G0 => InR.gb (by omega)
  refine tl_stW T39 hf rfl rfl (wordsC_one _) B2 rfl (rfl) fun w hg hsz B2 hf => ?_
  replace e := e.gr hg (by omega)
  replace B3 := B3.gr hg (by omega)
  clear hg
  refine tl_nil ?_
  refine wret (retS rfl T39 hf rfl B2 e rfl)
end Go.Mono

namespace Go.Mono
open Go Go.Proofs Go.RowKit
def sg (fs : List BS) (j : Nat) : BS := match fs[j]? with
 | some S => S
 | none => 0
def elI (S : BS) : List Int := (elems S).map fun i : Nat => (i : Int)
def compF (fs : List BS) (inn : BS) : Nat → BS → List Int → Option BS
 | _, S, [] => some S
 | 0, _, _ :: _ => none
 | f + 1, S, r :: R => let X := (sg fs r.toNat &&& inn) &&& ~~~S; compF fs inn f (S ||| X) (R ++ elI X)
theorem mem_elI {S : BS} {k : Nat} (hk : k < 1024) : ((k : Int) ∈ elI S) ↔ S.getLsbD k = true := by
 rw [elI, List.mem_map]
 constructor
 ·rintro ⟨i, h1, h2⟩
  obtain rfl : k = i := by omega
  exact (mem_elems.1 h1).2
 ·intro h; exact ⟨k, mem_elems.2 ⟨hk, h⟩, rfl⟩
theorem fold1 (p : Int) (S : BS) : [p].foldl ins S = ins S p := by rw [List.foldl_cons, List.foldl_nil]
def natI (s : List Nat) : List Int := s.map fun i : Nat => (i : Int)
structure CMJ (G : Nat → Prop) (W : World) (fs : List BS) (fv : Value) (b5 b6 b7 b8 B : Nat) (inn S : BS) (R : List Int) (D : List Nat) (s : List Nat) (w : World) : Prop where
 e : Ext W w
 t : Tab w
 hv : (Dv (slE setE) (GB W G) fs).p fv w
 b5 : Blk w b5 (setC inn) 39
 b6 : Blk w b6 (setC 0) 39
 b7 : Blk w b7 (setC ((natI s).foldl ins S)) 39
 q : ∃ v, Blk w b8 #[v] 26 ∧ QR 3 W.heap.size w (R ++ natI s) v ∧ ∀ g, v.ownBlock = some g → ¬Hole B g
 ds : Ds D w
theorem CMJ.kp {G : Nat → Prop} {W : World} {fs : List BS} {fv : Value} {b5 b6 b7 b8 B : Nat} {inn S : BS} {R : List Int} {D : List Nat} {s : List Nat} {w w' : World} (h : CMJ G W fs fv b5 b6 b7 b8 B inn S R D s w) (k : Kp B w w')
  (hW : W.heap.size ≤ B) (h0 : 0 < B) (l5 : b5 < B) (l6 : b6 < B) (l7 : b7 < B) (l8 : b8 < B) (lD : ∀ d ∈ D, d < B) : CMJ G W fs fv b5 b6 b7 b8 B inn S R D s w' := by
 have no : ∀ {b}, b < B → ¬Hole B b := fun h hh => by have := hh.1; omega
 obtain ⟨v, q1, q2, q3⟩ := h.q
 exact ⟨h.e.kp k hW, h.t.kp k h0, Dv.ch h.hv k.chg (fun b hb => .inr (by have := hb.1; omega)), h.b5.kp k (no l5), h.b6.kp k (no l6), h.b7.kp k (no l7), ⟨v, q1.kp k (no l8), q2.ch k.chg q3, q3⟩, h.ds.ch k.chg fun d hd => no (lD d hd)⟩
end Go.Mono

namespace Go.Mono.Pop

theorem land_step (k M c z : Nat) (hc : c < 2 ^ k) : z &&& (2 ^ k * M + c) = 2 ^ k * ((z / 2 ^ k) &&& M) + ((z % 2 ^ k) &&& c) := by
 have h1 : (z % 2 ^ k) &&& c < 2 ^ k := Nat.lt_of_le_of_lt Nat.and_le_right hc
 apply Nat.eq_of_testBit_eq
 intro i
 rw [Nat.testBit_and, Nat.testBit_two_pow_mul_add _ hc, Nat.testBit_two_pow_mul_add _ h1]
 split
 ·rename_i hi
  rw [Nat.testBit_and, Nat.testBit_mod_two_pow]
  simp [hi]
 ·rename_i hi
  rw [Nat.testBit_and, Nat.testBit_div_two_pow]
  congr 2
  omega
theorem land256 (M c z : Nat) (hc : c < 256) : z &&& (256 * M + c) = 256 * ((z / 256) &&& M) + ((z % 256) &&& c) := land_step 8 M c z hc

def mask (c : Nat) : Nat → Nat
 | 0 => 0
 | n + 1 => 256 * mask c n + c
def pc (b : Nat) : Nat := (List.range 8).countP fun i => b.testBit i
def F : Nat → Nat → Nat
 | 0, _ => 0
 | n + 1, x => pc (x % 256) + 256 * F n (x / 256)
def sA (m x : Nat) : Nat := ((x / 2) &&& m) + (x &&& m)
def sB (m x : Nat) : Nat := ((x / 4) &&& m) + (x &&& m)
def sC (m x : Nat) : Nat := (x / 16 + x) &&& m

theorem kA : ∀ b, b < 256 → ∀ e, e < 2 → (b / 2 + 128 * e) &&& 85 = (b / 2) &&& 85 := by decide +kernel
theorem kA2 : ∀ b, b < 256 → sA 85 b < 256 := by decide +kernel
theorem kB : ∀ b, b < 256 → ∀ e, e < 4 → (b / 4 + 64 * e) &&& 51 = (b / 4) &&& 51 := by decide +kernel
theorem kB2 : ∀ b, b < 256 → sB 51 (sA 85 b) < 256 ∧ sB 51 (sA 85 b) % 16 < 5 := by decide +kernel
theorem kC : ∀ b, b < 256 → ∀ e, e < 5 → e * 16 + (sB 51 (sA 85 b) / 16 + sB 51 (sA 85 b)) < 256 ∧ (e * 16 + (sB 51 (sA 85 b) / 16 + sB 51 (sA 85 b))) &&& 15 = pc b := by decide +kernel
theorem pc_le : ∀ b, b < 256 → pc b ≤ 8 := by decide +kernel

theorem stepA (n x : Nat) : sA (mask 85 (n + 1)) x = sA 85 (x % 256) + 256 * sA (mask 85 n) (x / 256) := by
 unfold sA
 rw [mask, land256 _ _ _ (by decide), land256 _ _ _ (by decide)]
 have h1 : x / 2 / 256 = x / 256 / 2 := by omega
 have h2 : x / 2 % 256 = x % 256 / 2 + 128 * (x / 256 % 2) := by omega
 rw [h1, h2, kA _ (Nat.mod_lt _ (by decide)) _ (Nat.mod_lt _ (by decide))]
 omega
theorem stepB (n y : Nat) : sB (mask 51 (n + 1)) y = sB 51 (y % 256) + 256 * sB (mask 51 n) (y / 256) := by
 unfold sB
 rw [mask, land256 _ _ _ (by decide), land256 _ _ _ (by decide)]
 have h1 : y / 4 / 256 = y / 256 / 4 := by omega
 have h2 : y / 4 % 256 = y % 256 / 4 + 64 * (y / 256 % 4) := by omega
 rw [h1, h2, kB _ (Nat.mod_lt _ (by decide)) _ (Nat.mod_lt _ (by decide))]
 omega
theorem AB (n x : Nat) : sB (mask 51 (n + 1)) (sA (mask 85 (n + 1)) x) = sB 51 (sA 85 (x % 256)) + 256 * sB (mask 51 n) (sA (mask 85 n) (x / 256)) := by
 have h := kA2 (x % 256) (Nat.mod_lt _ (by decide))
 rw [stepA, stepB]
 have h1 : (sA 85 (x % 256) + 256 * sA (mask 85 n) (x / 256)) % 256 = sA 85 (x % 256) := by omega
 have h2 : (sA 85 (x % 256) + 256 * sA (mask 85 n) (x / 256)) / 256 = sA (mask 85 n) (x / 256) := by omega
 rw [h1, h2]
theorem AB_low : ∀ (n x : Nat), sB (mask 51 n) (sA (mask 85 n) x) % 16 < 5
 | 0, x => by simp [sB, sA, mask]
 | n + 1, x => by
  rw [AB]
  have := (kB2 (x % 256) (Nat.mod_lt _ (by decide))).2
  omega
theorem ABC : ∀ (n x : Nat), sC (mask 15 n) (sB (mask 51 n) (sA (mask 85 n) x)) = F n x
 | 0, x => by simp [sC, mask, F]
 | n + 1, x => by
  have hb := Nat.mod_lt x (show 256 > 0 by decide)
  have hq := AB_low n (x / 256)
  have ih := ABC n (x / 256)
  obtain ⟨k1, k2⟩ := kC _ hb _ hq
  have k3 := (kB2 _ hb).1
  rw [AB, F, ← ih]
  generalize sB (mask 51 n) (sA (mask 85 n) (x / 256)) = q at *
  generalize sB 51 (sA 85 (x % 256)) = b at *
  unfold sC
  rw [mask, land256 _ _ _ (by decide)]
  have h1 : (b + 256 * q) / 16 + (b + 256 * q) = 256 * (q / 16 + q) + (q % 16 * 16 + (b / 16 + b)) := by omega
  rw [h1]
  have h2 : (256 * (q / 16 + q) + (q % 16 * 16 + (b / 16 + b))) / 256 = q / 16 + q := by omega
  have h3 : (256 * (q / 16 + q) + (q % 16 * 16 + (b / 16 + b))) % 256 = q % 16 * 16 + (b / 16 + b) := by omega
  rw [h2, h3, k2]
  omega
theorem masks : mask 85 8 = 6148914691236517205 ∧ mask 51 8 = 3689348814741910323 ∧ mask 15 8 = 1085102592571150095 := by decide
def G : Nat → Nat → Nat
 | 0, _ => 0
 | n + 1, x => pc (x % 256) + G n (x / 256)
def V : List Nat → Nat
 | [] => 0
 | a :: l => a + 256 * V l
def addL : List Nat → List Nat → List Nat
 | [], m => m
 | l, [] => l
 | a :: l, b :: m => (a + b) :: addL l m
theorem V_add : ∀ l m, V (addL l m) = V l + V m
 | [], m => by simp [addL, V]
 | a :: l, [] => by simp [addL, V]
 | a :: l, b :: m => by simp only [addL, V, V_add l m]; omega
theorem V_div : ∀ (k : Nat) (l : List Nat), (∀ a ∈ l, a < 256) → V l / 256 ^ k = V (l.drop k)
 | 0, l, _ => by simp
 | k + 1, [], _ => by simp [V]
 | k + 1, a :: l, h => by
  have h1 : V (a :: l) / 256 = V l := by
   have := h a (by simp)
   simp only [V]
   omega
  rw [Nat.pow_succ, Nat.mul_comm, ← Nat.div_div_eq_div_mul, h1, V_div k l (fun x hx => h x (by simp [hx]))]
  simp
theorem V_lt : ∀ (l : List Nat), (∀ a ∈ l, a < 256) → V l < 256 ^ l.length
 | [], _ => by simp [V]
 | a :: l, h => by
  have h1 := h a (by simp)
  have h2 := V_lt l (fun x hx => h x (by simp [hx]))
  simp only [V, List.length_cons, Nat.pow_succ]
  omega
theorem addL_le (x y : Nat) : ∀ (l m : List Nat), (∀ a ∈ l, a ≤ x) → (∀ a ∈ m, a ≤ y) → ∀ a ∈ addL l m, a ≤ x + y
 | [], m, _, h2 => fun a ha => by have := h2 a (by simpa [addL] using ha); omega
 | a :: l, [], h1, _ => fun b hb => by have := h1 b (by simpa [addL] using hb); omega
 | a :: l, b :: m, h1, h2 => fun c hc => by
  simp only [addL, List.mem_cons] at hc
  rcases hc with rfl | hc
  ·have := h1 a (by simp); have := h2 b (by simp); omega
  ·exact addL_le x y l m (fun x hx => h1 x (by simp [hx])) (fun x hx => h2 x (by simp [hx])) c hc
theorem addL_len : ∀ (l m : List Nat), m.length ≤ l.length → (addL l m).length = l.length
 | [], [], _ => rfl
 | a :: l, [], _ => rfl
 | a :: l, b :: m, h => by simp only [addL, List.length_cons] at h ⊢; rw [addL_len l m (by omega)]
theorem stepV (k b : Nat) (l : List Nat) (hl : l.length = 8) (hb : ∀ a ∈ l, a ≤ b) (h : b + b < 256) :
  (V l + V l / 256 ^ k) % 18446744073709551616 = V (addL l (l.drop k)) ∧ (addL l (l.drop k)).length = 8 ∧ ∀ a ∈ addL l (l.drop k), a ≤ b + b := by
 have hd : ∀ a ∈ l.drop k, a ≤ b := fun a ha => hb a (List.mem_of_mem_drop ha)
 have h3 := addL_le b b l (l.drop k) hb hd
 have h2 := addL_len l (l.drop k) (by simp)
 refine ⟨?_, by omega, h3⟩
 rw [V_div k l (fun a ha => by have := hb a ha; omega), ← V_add]
 refine Nat.mod_eq_of_lt ?_
 have := V_lt (addL l (l.drop k)) (fun a ha => by have := h3 a ha; omega)
 rw [h2, hl] at this
 exact this
def bytes (x : Nat) : List Nat := [pc (x % 256), pc (x / 256 % 256), pc (x / 256 / 256 % 256), pc (x / 256 / 256 / 256 % 256), pc (x / 256 / 256 / 256 / 256 % 256), pc (x / 256 / 256 / 256 / 256 / 256 % 256),
 pc (x / 256 / 256 / 256 / 256 / 256 / 256 % 256), pc (x / 256 / 256 / 256 / 256 / 256 / 256 / 256 % 256)]
theorem F_V (x : Nat) : F 8 x = V (bytes x) := rfl
theorem bytes_le (x : Nat) : ∀ a ∈ bytes x, a ≤ 8 := by
 intro a ha
 simp only [bytes, List.mem_cons, List.not_mem_nil, or_false] at ha
 rcases ha with rfl | rfl | rfl | rfl | rfl | rfl | rfl | rfl <;> exact pc_le _ (Nat.mod_lt _ (by decide))
theorem head_sum : ∀ p0 p1 p2 p3 p4 p5 p6 p7 : Nat, ∃ t, addL (addL (addL [p0, p1, p2, p3, p4, p5, p6, p7] [p1, p2, p3, p4, p5, p6, p7]) ((addL [p0, p1, p2, p3, p4, p5, p6, p7] [p1, p2, p3, p4, p5, p6, p7]).drop 2)) ((addL (addL [p0, p1, p2, p3, p4, p5, p6, p7] [p1, p2, p3, p4, p5, p6, p7]) ((addL [p0, p1, p2, p3, p4, p5, p6, p7] [p1, p2, p3, p4, p5, p6, p7]).drop 2)).drop 4) = (p0 + p1 + (p2 + p3) + (p4 + p5 + (p6 + p7))) :: t := by
 intros
 exact ⟨_, rfl⟩
theorem fold8 (x y4 y5 y6 : Nat) (h4 : y4 = (F 8 x + F 8 x / 256) % 18446744073709551616) (h5 : y5 = (y4 + y4 / 65536) % 18446744073709551616) (h6 : y6 = (y5 + y5 / 4294967296) % 18446744073709551616) :
  y6 % 128 = G 8 x := by
 rw [F_V] at h4
 obtain ⟨a1, a2, a3⟩ := stepV 1 8 (bytes x) rfl (bytes_le x) (by decide)
 rw [Nat.pow_one] at a1
 rw [a1] at h4
 obtain ⟨b1, b2, b3⟩ := stepV 2 16 _ a2 a3 (by decide)
 rw [h4, show (65536 : Nat) = 256 ^ 2 from rfl, b1] at h5
 obtain ⟨c1, c2, c3⟩ := stepV 4 32 _ b2 b3 (by decide)
 rw [h5, show (4294967296 : Nat) = 256 ^ 4 from rfl, c1] at h6
 obtain ⟨t, ht⟩ := head_sum (pc (x % 256)) (pc (x / 256 % 256)) (pc (x / 256 / 256 % 256)) (pc (x / 256 / 256 / 256 % 256)) (pc (x / 256 / 256 / 256 / 256 % 256)) (pc (x / 256 / 256 / 256 / 256 / 256 % 256))
  (pc (x / 256 / 256 / 256 / 256 / 256 / 256 % 256)) (pc (x / 256 / 256 / 256 / 256 / 256 / 256 / 256 % 256))
 have hb := bytes_le x
 simp only [bytes, List.mem_cons, List.not_mem_nil, or_false, forall_eq_or_imp, forall_eq] at hb
 have h7 : y6 = V ((pc (x % 256) + pc (x / 256 % 256) + (pc (x / 256 / 256 % 256) + pc (x / 256 / 256 / 256 % 256)) + (pc (x / 256 / 256 / 256 / 256 % 256) + pc (x / 256 / 256 / 256 / 256 / 256 % 256) +
  (pc (x / 256 / 256 / 256 / 256 / 256 / 256 % 256) + pc (x / 256 / 256 / 256 / 256 / 256 / 256 / 256 % 256)))) :: t) := by
  rw [h6, ← ht]
  rfl
 rw [h7]
 simp only [V, G]
 obtain ⟨g0, g1, g2, g3, g4, g5, g6, g7⟩ := hb
 generalize pc (x % 256) = p0 at *
 generalize pc (x / 256 % 256) = p1 at *
 generalize pc (x / 256 / 256 % 256) = p2 at *
 generalize pc (x / 256 / 256 / 256 % 256) = p3 at *
 generalize pc (x / 256 / 256 / 256 / 256 % 256) = p4 at *
 generalize pc (x / 256 / 256 / 256 / 256 / 256 % 256) = p5 at *
 generalize pc (x / 256 / 256 / 256 / 256 / 256 / 256 % 256) = p6 at *
 generalize pc (x / 256 / 256 / 256 / 256 / 256 / 256 / 256 % 256) = p7 at *
 clear a1 a2 a3 b1 b2 b3 c1 c2 c3 h4 h5 h6 h7 ht
 generalize V t = z
 omega
theorem range_split (n : Nat) (f : Nat → Bool) : (List.range (8 * (n + 1))).countP f = (List.range 8).countP f + (List.range (8 * n)).countP (fun i => f (i + 8)) := by
 rw [show 8 * (n + 1) = 8 + 8 * n by omega, List.range_add, List.countP_append, List.countP_map]
 congr 1
 refine List.countP_congr fun i _ => ?_
 simp [Function.comp, Nat.add_comm]
theorem count_G : ∀ (n x : Nat), (List.range (8 * n)).countP (fun i => x.testBit i) = G n x
 | 0, x => rfl
 | n + 1, x => by
  rw [range_split, G, ← count_G n (x / 256)]
  congr 1
  ·unfold pc
   refine List.countP_congr fun i hi => ?_
   have := List.mem_range.1 hi
   rw [show (256 : Nat) = 2 ^ 8 from rfl, Nat.testBit_mod_two_pow]
   simp [this]
  ·refine List.countP_congr fun i _ => ?_
   rw [show (256 : Nat) = 2 ^ 8 from rfl, Nat.testBit_div_two_pow]
end Go.Mono.Pop

namespace Go.Mono
open Go Go.Proofs Go.RowKit

def popw (x : BitVec 64) : Nat := (List.range 64).countP fun i => x.getLsbD i
theorem popw_le (x : BitVec 64) : popw x ≤ 64 := by
 have := List.countP_le_length (p := fun i => x.getLsbD i) (l := List.range 64)
 simpa [popw] using this
theorem popw_G (x : BitVec 64) : popw x = Pop.G 8 x.toNat := by
 rw [← Pop.count_G 8 x.toNat]
 rfl
theorem pop_calc (x x1 x2 x3 x4 x5 x6 : BitVec 64) (h1 : x1 = ((x >>> 1) &&& 6148914691236517205#64) + (x &&& 6148914691236517205#64)) (h2 : x2 = ((x1 >>> 2) &&& 3689348814741910323#64) + (x1 &&& 3689348814741910323#64))
  (h3 : x3 = ((x2 >>> 4) + x2) &&& 1085102592571150095#64) (h4 : x4 = x3 + (x3 >>> 8)) (h5 : x5 = x4 + (x4 >>> 16)) (h6 : x6 = x5 + (x5 >>> 32)) : (x6 &&& 127#64).toNat = popw x := by
 have e1 : x1.toNat = Pop.sA (Pop.mask 85 8) x.toNat := by
  rw [h1, Pop.masks.1, BitVec.toNat_add, BitVec.toNat_and, BitVec.toNat_and, BitVec.toNat_ushiftRight, Nat.shiftRight_eq_div_pow]
  show ((x.toNat / 2 &&& 6148914691236517205) + (x.toNat &&& 6148914691236517205)) % 2 ^ 64 = _
  have a1 := @Nat.and_le_right (x.toNat / 2) 6148914691236517205
  have a2 := @Nat.and_le_right x.toNat 6148914691236517205
  rw [Nat.mod_eq_of_lt (by omega)]
  rfl
 have e2 : x2.toNat = Pop.sB (Pop.mask 51 8) x1.toNat ∧ x2.toNat ≤ 7378697629483820646 := by
  rw [h2, Pop.masks.2.1, BitVec.toNat_add, BitVec.toNat_and, BitVec.toNat_and, BitVec.toNat_ushiftRight, Nat.shiftRight_eq_div_pow]
  show ((x1.toNat / 4 &&& 3689348814741910323) + (x1.toNat &&& 3689348814741910323)) % 2 ^ 64 = _ ∧ ((x1.toNat / 4 &&& 3689348814741910323) + (x1.toNat &&& 3689348814741910323)) % 2 ^ 64 ≤ _
  have a1 := @Nat.and_le_right (x1.toNat / 4) 3689348814741910323
  have a2 := @Nat.and_le_right x1.toNat 3689348814741910323
  rw [Nat.mod_eq_of_lt (by omega)]
  exact ⟨rfl, by omega⟩
 have e3 : x3.toNat = Pop.sC (Pop.mask 15 8) x2.toNat := by
  rw [h3, Pop.masks.2.2, BitVec.toNat_and, BitVec.toNat_add, BitVec.toNat_ushiftRight, Nat.shiftRight_eq_div_pow]
  show (x2.toNat / 16 + x2.toNat) % 2 ^ 64 &&& 1085102592571150095 = _
  rw [Nat.mod_eq_of_lt (by omega)]
  rfl
 have e3' : x3.toNat = Pop.F 8 x.toNat := by rw [e3, e2.1, e1, Pop.ABC]
 have e4 : x4.toNat = (Pop.F 8 x.toNat + Pop.F 8 x.toNat / 256) % 18446744073709551616 := by
  rw [h4, BitVec.toNat_add, BitVec.toNat_ushiftRight, Nat.shiftRight_eq_div_pow, e3']
 have e5 : x5.toNat = (x4.toNat + x4.toNat / 65536) % 18446744073709551616 := by
  rw [h5, BitVec.toNat_add, BitVec.toNat_ushiftRight, Nat.shiftRight_eq_div_pow]
 have e6 : x6.toNat = (x5.toNat + x5.toNat / 4294967296) % 18446744073709551616 := by
  rw [h6, BitVec.toNat_add, BitVec.toNat_ushiftRight, Nat.shiftRight_eq_div_pow]
 have := Pop.fold8 _ _ _ _ e4 e5 e6
 rw [popw_G, ← this, BitVec.toNat_and]
 exact Nat.and_two_pow_sub_one_eq_mod x6.toNat 7

theorem andI {P : Program} {w0 : World} {L : Env} {dst : Option Tmp} {ty : TypeId} {pos : String} {aft : Array Edge} {g : Option (Nat × Bool)} {x y : Operand} {t yt : TypeId} {a b : Int}
  (hx : opd L x = some (E (.int .i64 a))) (hy : opd L y = some (E (.int .i64 b))) :
  OpC P w0 L ⟨dst, .binOp .and t x y yt, ty, pos, aft, g⟩ (E (.int .i64 (IntKind.i64.wrap ((BitVec.ofInt 64 a &&& BitVec.ofInt 64 b).toNat : Int)))) :=
 binInt rfl hx hy
theorem ofInt_wrap (x : BitVec 64) : BitVec.ofInt 64 (IntKind.i64.wrap (x.toNat : Int)) = x := by
 apply BitVec.eq_of_toInt_eq
 rw [BitVec.toInt_ofInt]
 have := x.isLt
 rw [BitVec.toInt_eq_toNat_bmod]
 rw [IntKind.wrap_i64]
 simp only [Int.bmod]
 split <;> split <;> omega
theorem and127 {x : BitVec 64} {n : Nat} (h : (x &&& 127#64).toNat = n) (hn : n ≤ 64) : IntKind.i64.wrap ((BitVec.ofInt 64 (IntKind.i64.wrap (x.toNat : Int)) &&& BitVec.ofInt 64 127).toNat : Int) = n := by
 rw [ofInt_wrap]
 have e : BitVec.ofInt 64 127 = 127#64 := by decide
 rw [e, h]
 exact IntWalk.i64_in _ (by omega)

theorem ones_spec (x : BitVec 64) (W : World) : Calls Tryz.prog 53 #[Mono.W x] W (Post (E (I (popw x))) W) := by
 obtain ⟨x1, h1⟩ : ∃ x1, x1 = ((x >>> 1) &&& 6148914691236517205#64) + (x &&& 6148914691236517205#64) := ⟨_, rfl⟩
 obtain ⟨x2, h2⟩ : ∃ x2, x2 = ((x1 >>> 2) &&& 3689348814741910323#64) + (x1 &&& 3689348814741910323#64) := ⟨_, rfl⟩
 obtain ⟨x3, h3⟩ : ∃ x3, x3 = ((x2 >>> 4) + x2) &&& 1085102592571150095#64 := ⟨_, rfl⟩
 obtain ⟨x4, h4⟩ : ∃ x4, x4 = x3 + (x3 >>> 8) := ⟨_, rfl⟩
 obtain ⟨x5, h5⟩ : ∃ x5, x5 = x4 + (x4 >>> 16) := ⟨_, rfl⟩
 obtain ⟨x6, h6⟩ : ∃ x6, x6 = x5 + (x5 >>> 32) := ⟨_, rfl⟩
 have hc := and127 (pop_calc x x1 x2 x3 x4 x5 x6 h1 h2 h3 h4 h5 h6) (popw_le x)
 refine enter (args := [Mono.W x]) (As := [E (Mono.W x)]) Tryz.func53 rfl Tryz.ntmps53 (Nat.le_of_ble_eq_true rfl) ?_ (fun a hf => ?_) (Nat.le_of_ble_eq_true rfl)
 rotate_left
 dsimp only [params, Nat.reduceAdd] at hf
 rotate_right
 ·exact arg1 rfl
 have e := Ext.rfl' W
 repeat refine seq ?_
 refine regn0 ?_
 refine tl_as hf rfl (by decide) fun a hf => ?_
 refine tl_nil ?_
 replace hf := hf.kp [0]
 repeat refine seq ?_
 refine regn 6 hf (by decide +kernel) ?_
 refine st (mv rfl) ?_
 refine st (shrW rfl rfl (by omega)) ?_
 refine st (andW (v := 6148914691236517205#64) rfl rfl) ?_
 refine st (mv rfl) ?_
 refine st (andW (v := 6148914691236517205#64) rfl rfl) ?_
 refine st ((addW rfl rfl).eq (show Mono.W _ = Mono.W x1 from by rw [h1]; rfl)) ?_
 refine en fun a w e' hf => ?_
 replace e := e.tr e'
 refine tl_as hf rfl (by decide) fun a hf => ?_
 refine tl_nil ?_
 replace hf := hf.kp [0]
 repeat refine seq ?_
 refine regn 6 hf (by decide +kernel) ?_
 refine st (mv rfl) ?_
 refine st (shrW rfl rfl (by omega)) ?_
 refine st (andW (v := 3689348814741910323#64) rfl rfl) ?_
 refine st (mv rfl) ?_
 refine st (andW (v := 3689348814741910323#64) rfl rfl) ?_
 refine st ((addW rfl rfl).eq (show Mono.W _ = Mono.W x2 from by rw [h2]; rfl)) ?_
 refine en fun a w e' hf => ?_
 replace e := e.tr e'
 refine tl_as hf rfl (by decide) fun a hf => ?_
 refine tl_nil ?_
 replace hf := hf.kp [0]
 repeat refine seq ?_
 refine regn 5 hf (by decide +kernel) ?_
 refine st (mv rfl) ?_
 refine st (shrW rfl rfl (by omega)) ?_
 refine st (mv rfl) ?_
 refine st (addW rfl rfl) ?_
 refine st ((andW (v := 1085102592571150095#64) rfl rfl).eq (show Mono.W _ = Mono.W x3 from by rw [h3]; rfl)) ?_
 refine en fun a w e' hf => ?_
 replace e := e.tr e'
 refine tl_as hf rfl (by decide) fun a hf => ?_
 refine tl_nil ?_
 replace hf := hf.kp [0]
 repeat refine seq ?_
 refine regn 4 hf (by decide +kernel) ?_
 refine st (mv rfl) ?_
 refine st (mv rfl) ?_
 refine st (shrW rfl rfl (by omega)) ?_
 refine st ((addW rfl rfl).eq (show Mono.W _ = Mono.W x4 from by rw [h4]; rfl)) ?_
 refine en fun a w e' hf => ?_
 replace e := e.tr e'
 refine tl_as hf rfl (by decide) fun a hf => ?_
 refine tl_nil ?_
 replace hf := hf.kp [0]
 repeat refine seq ?_
 refine regn 4 hf (by decide +kernel) ?_
 refine st (mv rfl) ?_
 refine st (mv rfl) ?_
 refine st (shrW rfl rfl (by omega)) ?_
 refine st ((addW rfl rfl).eq (show Mono.W _ = Mono.W x5 from by rw [h5]; rfl)) ?_
 refine en fun a w e' hf => ?_
 replace e := e.tr e'
 refine tl_as hf rfl (by decide) fun a hf => ?_
 refine tl_nil ?_
 replace hf := hf.kp [0]
 repeat refine seq ?_
 refine regn 4 hf (by decide +kernel) ?_
 refine st (mv rfl) ?_
 refine st (mv rfl) ?_
 refine st (shrW rfl rfl (by omega)) ?_
 refine st ((addW rfl rfl).eq (show Mono.W _ = Mono.W x6 from by rw [h6]; rfl)) ?_
 refine en fun a w e' hf => ?_
 replace e := e.tr e'
 refine tl_as hf rfl (by decide) fun a hf => ?_
 refine tl_nil ?_
 replace hf := hf.kp [0]
 repeat refine seq ?_
 refine regn 3 hf (by decide +kernel) ?_
 refine st (mv rfl) ?_
 refine st (convI Tryz.underlying37 Tryz.underlying3 rfl) ?_
 refine st ((andI rfl rfl).eq (congrArg (Value.int .i64) hc)) ?_
 refine en fun a w e' hf => ?_
 replace e := e.tr e'
 refine tl_as hf rfl (by decide) fun a hf => ?_
 refine tl_nil ?_
 refine wret (ret1 rfl hf rfl ?_)
 rintro v rfl
 exact ⟨_, rfl, e, rfl⟩
def card (S : BS) : Nat := (List.range 1024).countP fun i => S.getLsbD i
def cardTo (S : BS) (k : Nat) : Nat := (List.range (64 * k)).countP fun i => S.getLsbD i
theorem cardTo_succ (S : BS) (k : Nat) : cardTo S (k + 1) = cardTo S k + popw (word S k) := by
 unfold cardTo popw
 rw [show 64 * (k + 1) = 64 * k + 64 by omega, List.range_add, List.countP_append, List.countP_map]
 refine congrArg (fun n => (List.range (64 * k)).countP (fun i => S.getLsbD i) + n) (List.countP_congr fun i hi => ?_)
 have := List.mem_range.1 hi
 simp [word_bit _ _ _ this]
theorem cardTo_16 (S : BS) : cardTo S 16 = card S := by simp only [cardTo, card, Nat.reduceMul]
theorem cardTo_le (S : BS) (k : Nat) : cardTo S k ≤ 64 * k := by
 have := List.countP_le_length (p := fun i => S.getLsbD i) (l := List.range (64 * k))
 simpa [cardTo] using this

theorem len_spec (S : BS) (W : World) : Calls Tryz.prog 27 #[setV S] W (Post (E (I (card S))) W) := by
 refine enter (args := [setV S]) (As := [E (setV S)]) Tryz.func27 rfl Tryz.ntmps27 (Nat.le_of_ble_eq_true rfl) ?_ (fun a hf => ?_) (Nat.le_of_ble_eq_true rfl)
 rotate_left
 dsimp only [params, Nat.reduceAdd] at hf
 rotate_right
 ·exact arg1 rfl
 have e := Ext.rfl' W
 repeat refine seq ?_
 refine regn0 ?_
 refine tl_box hf rfl (by decide) fun a b1 w v1 hv1 e' hb1 hs1 B1 hf => ?_
 have hle1 := Nat.le_trans e.size (Nat.le_of_eq hb1.symm)
 replace e := e.tr e'
 refine tl_as hf rfl (by decide) fun a hf => ?_
 refine tl_nil ?_
 subst hv1
 rw [setV_cells] at B1
 repeat refine seq ?_
 refine regn0 ?_
 refine tl_as hf rfl (by decide) fun a hf => ?_
 refine tl_nil ?_
 repeat refine seq ?_
 refine regn 2 hf (by decide +kernel) ?_
 refine st (ldW T39 rfl (by assumption) rfl) ?_
 refine st (mv rfl) ?_
 refine en fun a w e' hf => ?_
 replace e := e.tr e'
 replace B1 := B1.ext e'
 refine tl_nil ?_
 replace hf := hf.kp [3, 6, 7]
 repeat refine seq ?_
 refine blk (loopN (fun r a w => ∃ k : Nat, r = 16 - k ∧ k ≤ 16 ∧ Fr 16 a w [(3, E (I (cardTo S k))), (6, E (setV S)), (7, E (I k))] ∧ Ext W w) 16 ⟨0, rfl, by omega, hf, e⟩ ?_)
 clear hf e B1
 rintro r a w ⟨k, rfl, hk, hf, e⟩
 by_cases hlt : k < 16
 ·repeat refine seq ?_
  refine regn 1 hf (by decide +kernel) ?_
  refine st ((lss rfl rfl).eq (congrArg Value.bool (show decide ((k : Int) < 16) = true from decide_eq_true (by omega)))) ?_
  refine en fun a w e' hf => ?_
  replace e := e.tr e'
  refine tl_nil ?_
  repeat refine seq ?_
  refine ifc hf rfl (fun _ => wskip ?_) (fun h => by cases h)
  repeat refine seq ?_
  refine blk ?_
  repeat refine seq ?_
  refine regn 1 hf (by decide +kernel) ?_
  refine st (idxV Tryz.underlying39 T37 rfl rfl (by omega) (by simpa [setC] using wordsC_get (word S) k hlt)) ?_
  refine en fun a w e' hf => ?_
  replace e := e.tr e'
  refine tl_as hf rfl (by decide) fun a hf => ?_
  refine tl_nil ?_
  have hp := popw_le (word S k)
  have hq := cardTo_le S k
  repeat refine seq ?_
  refine regn 4 hf (by decide +kernel) ?_
  refine st (mv rfl) ?_
  refine st (mv rfl) ?_
  refine st (call1 En53 rfl (fun v w' e' h => by cases h; exact ones_spec _ w')) ?_
  refine st ((add rfl rfl (by omega)).eq (congrArg (Value.int .i64) (show ((cardTo S k : Nat) : Int) + (popw (word S k) : Nat) = (cardTo S (k + 1) : Nat) from by rw [cardTo_succ]; omega))) ?_
  refine en fun a w e' hf => ?_
  replace e := e.tr e'
  refine tl_as hf rfl (by decide) fun a hf => ?_
  refine tl_nil ?_
  repeat refine seq ?_
  refine regn 1 hf (by decide +kernel) ?_
  refine st (add rfl rfl (by omega)) ?_
  refine en fun a w e' hf => ?_
  replace e := e.tr e'
  clear e'
  refine tl_op hf (by decide) (mv rfl) fun a w e' hf => ?_
  replace e := e.tr e'
  refine tl_nil ?_
  replace hf := hf.kp [3, 6, 7]
  exact ⟨16 - (k + 1), by omega, k + 1, rfl, by omega, by simpa using hf, e⟩
 ·obtain rfl : k = 16 := by omega
  repeat refine seq ?_
  refine regn 1 hf (by decide +kernel) ?_
  refine st ((lss rfl rfl).eq (congrArg Value.bool (show decide (((16 : Nat) : Int) < 16) = false from rfl))) ?_
  refine en fun a w e' hf => ?_
  replace e := e.tr e'
  refine tl_nil ?_
  repeat refine seq ?_
  refine ifc hf rfl (fun h => by cases h) (fun _ => wexit ?_)
  simp only [Exit.then, Exit.inBlock, ↓reduceIte]
  repeat refine seq ?_
  refine regn 1 hf (by decide +kernel) ?_
  refine st (mv rfl) ?_
  refine en fun a w e' hf => ?_
  replace e := e.tr e'
  refine tl_as hf rfl (by decide) fun a hf => ?_
  refine tl_nil ?_
  refine wret (ret1 rfl hf rfl ?_)
  rintro v rfl
  exact ⟨_, rfl, e, by rw [cardTo_16]; rfl⟩
end Go.Mono

namespace Go.Mono
open Classical
structure Tr where
 n : Nat
 par : Nat → Option Nat
 dep : Nat → Nat
 lt : ∀ {i j}, i < n → par i = some j → j < n
 dp : ∀ {i j}, i < n → par i = some j → dep i = dep j + 1
 one : ∀ {i j}, i < n → j < n → par i = none → par j = none → i = j

namespace Tr
variable (T : Tr)

noncomputable def topF (A : Nat → Prop) : Nat → Nat → Nat
 | 0, x => x
 | f + 1, x => match T.par x with
  | some p => if A p then topF A f p else x
  | none => x
noncomputable def tp (A : Nat → Prop) (x : Nat) : Nat := T.topF A (T.dep x) x
variable {T} {A B C D : Nat → Prop} {x y z u c k m : Nat}
theorem tp_up (hx : x < T.n) {p : Nat} (h : T.par x = some p) (hp : A p) : T.tp A x = T.tp A p := by
 unfold tp
 rw [T.dp hx h, topF, h]
 simp [hp]
theorem tp_stop (h : ∀ p, T.par x = some p → ¬A p) : T.tp A x = x := by
 unfold tp
 cases T.dep x with
 | zero => rfl
 | succ d =>
  rw [topF]
  cases hp : T.par x with
  | none => rfl
  | some p => simp [h p hp]
theorem ind {p : Nat → Prop} (step : ∀ i, i < T.n → (∀ j, T.par i = some j → p j) → p i) : ∀ i, i < T.n → p i := by
 have : ∀ d i, i < T.n → T.dep i = d → p i := by
  intro d
  induction d using Nat.strongRecOn with
  | _ d ih =>
   intro i hi hd
   refine step i hi fun j hj => ?_
   have := T.dp hi hj
   exact ih (T.dep j) (by omega) j (T.lt hi hj) rfl
 exact fun i hi => this _ i hi rfl
theorem tp_cases (x : Nat) : (∃ p, T.par x = some p ∧ A p) ∨ ∀ p, T.par x = some p → ¬A p := by
 by_cases h : ∃ p, T.par x = some p ∧ A p
 ·exact .inl h
 ·exact .inr fun p hp ha => h ⟨p, hp, ha⟩
theorem tp_mem : ∀ x, x < T.n → A x → A (T.tp A x) ∧ T.tp A x < T.n ∧ T.dep (T.tp A x) ≤ T.dep x ∧ (∀ p, T.par (T.tp A x) = some p → ¬A p) ∧ (T.dep (T.tp A x) = T.dep x → T.tp A x = x) := by
 refine T.ind fun x hx ih ha => ?_
 rcases tp_cases (T := T) (A := A) x with ⟨p, h, hp⟩ | h
 ·rw [tp_up hx h hp]
  obtain ⟨h1, h2, h3, h4, h5⟩ := ih p h hp
  have := T.dp hx h
  exact ⟨h1, h2, by omega, h4, fun h => by omega⟩
 ·rw [tp_stop h]
  exact ⟨ha, hx, Nat.le_refl _, h, fun _ => rfl⟩
def adj (T : Tr) (a b : Nat) : Prop := T.par a = some b ∨ T.par b = some a
theorem adj.symm {a b : Nat} (h : T.adj a b) : T.adj b a := Or.symm h
theorem adj.ne {a b : Nat} (ha : a < T.n) (h : T.adj a b) : a ≠ b := fun e => by
 subst e
 rcases h with h | h <;> have := T.dp ha h <;> omega
def cn (T : Tr) (A : Nat → Prop) (x y : Nat) : Prop := x < T.n ∧ y < T.n ∧ A x ∧ A y ∧ T.tp A x = T.tp A y
theorem cn.refl (hx : x < T.n) (ha : A x) : T.cn A x x := ⟨hx, hx, ha, ha, rfl⟩
theorem cn.symm (h : T.cn A x y) : T.cn A y x := ⟨h.2.1, h.1, h.2.2.2.1, h.2.2.1, h.2.2.2.2.symm⟩
theorem cn.trans (h : T.cn A x y) (h' : T.cn A y z) : T.cn A x z := ⟨h.1, h'.2.1, h.2.2.1, h'.2.2.2.1, h.2.2.2.2.trans h'.2.2.2.2⟩
theorem cn.of_adj (hx : x < T.n) (hy : y < T.n) (ha : A x) (hb : A y) (h : T.adj x y) : T.cn A x y := by
 refine ⟨hx, hy, ha, hb, ?_⟩
 rcases h with h | h
 ·exact tp_up hx h hb
 ·exact (tp_up hy h ha).symm
theorem cn.ind {S : Nat → Prop} (h : T.cn A x y) (h0 : S x) (st : ∀ a b, a < T.n → b < T.n → A a → A b → S a → T.adj a b → S b) : S y := by
 have up : ∀ x, x < T.n → A x → S x → S (T.tp A x) := by
  refine T.ind fun x hx ih ha hs => ?_
  rcases tp_cases (T := T) (A := A) x with ⟨p, h, hp⟩ | h
  ·rw [tp_up hx h hp]
   exact ih p h hp (st x p hx (T.lt hx h) ha hp hs (.inl h))
  ·rw [tp_stop h]; exact hs
 have dn : ∀ y, y < T.n → A y → S (T.tp A y) → S y := by
  refine T.ind fun y hy ih ha hs => ?_
  rcases tp_cases (T := T) (A := A) y with ⟨p, h, hp⟩ | h
  ·rw [tp_up hy h hp] at hs
   exact st p y (T.lt hy h) hy hp ha (ih p h hp hs) (.inr h)
  ·rw [tp_stop h] at hs; exact hs
 obtain ⟨hx, hy, ha, hb, he⟩ := h
 have := up x hx ha h0
 rw [he] at this
 exact dn y hy hb this
theorem cn.mono (h : T.cn A x y) (hAB : ∀ i, i < T.n → A i → B i) : T.cn B x y :=
 h.ind (S := fun i => T.cn B x i) (cn.refl h.1 (hAB _ h.1 h.2.2.1)) fun a b ha hb _ hB hs hab => hs.trans (cn.of_adj ha hb (hAB _ ha ‹_›) (hAB _ hb hB) hab)
def conn (T : Tr) (C : Nat → Prop) : Prop := ∀ x y, x < T.n → y < T.n → C x → C y → T.cn C x y
theorem conn_comp : T.conn fun y => T.cn A x y := by
 have key : ∀ y, y < T.n → T.cn A x y → T.tp (fun y => T.cn A x y) y = T.tp A y := by
  refine T.ind fun y hy ih hc => ?_
  rcases tp_cases (T := T) (A := A) y with ⟨p, h, hp⟩ | h
  ·have hcp : T.cn A x p := hc.trans (cn.of_adj hy (T.lt hy h) hc.2.2.2.1 hp (.inl h))
   rw [tp_up hy h hp, tp_up hy h hcp, ih p h hcp]
  ·rw [tp_stop h, tp_stop fun p hp hh => h p hp hh.2.2.2.1]
 intro y z hy hz h1 h2
 exact ⟨hy, hz, h1, h2, by rw [key y hy h1, key z hz h2, ← h1.2.2.2.2, ← h2.2.2.2.2]⟩
theorem conn_all : T.conn fun i => i < T.n := by
 intro x y hx hy _ _
 refine ⟨hx, hy, hx, hy, ?_⟩
 obtain ⟨h1, h2, _, h3, _⟩ := tp_mem (T := T) (A := fun i => i < T.n) x hx hx
 obtain ⟨k1, k2, _, k3, _⟩ := tp_mem (T := T) (A := fun i => i < T.n) y hy hy
 refine T.one h1 k1 ?_ ?_
 ·cases h : T.par (T.tp (fun i => i < T.n) x) with
  | none => rfl
  | some p => exact absurd (T.lt h1 h) (h3 p h)
 ·cases h : T.par (T.tp (fun i => i < T.n) y) with
  | none => rfl
  | some p => exact absurd (T.lt k1 h) (k3 p h)
theorem conn.inter (hC : T.conn C) (hD : T.conn D) : T.conn fun i => C i ∧ D i := by
 intro x y hx hy h1 h2
 refine ⟨hx, hy, h1, h2, ?_⟩
 obtain ⟨a1, a2, _, a3, _⟩ := tp_mem (T := T) (A := fun i => C i ∧ D i) x hx h1
 obtain ⟨b1, b2, _, b3, _⟩ := tp_mem (T := T) (A := fun i => C i ∧ D i) y hy h2
 generalize T.tp (fun i => C i ∧ D i) x = a at *
 generalize T.tp (fun i => C i ∧ D i) y = b at *
 have stop : ∀ a, (∀ p, T.par a = some p → ¬(C p ∧ D p)) → T.tp C a = a ∨ T.tp D a = a := by
  intro a h
  rcases tp_cases (T := T) (A := C) a with ⟨p, hp, hc⟩ | h'
  ·refine .inr (tp_stop fun q hq hd => ?_)
   rw [hp] at hq; cases hq
   exact h p hp ⟨hc, hd⟩
  ·exact .inl (tp_stop h')
 have two : ∀ {C D : Nat → Prop}, T.conn C → T.conn D → ∀ a b, a < T.n → b < T.n → C a → C b → D a → D b → T.tp C a = a → T.tp D b = b → a = b := by
  intro C D hC hD a b ha hb c1 c2 d1 d2 e1 e2
  have h1 := (hC a b ha hb c1 c2).2.2.2.2
  have h2 := (hD a b ha hb d1 d2).2.2.2.2
  rw [e1] at h1
  rw [e2] at h2
  have m1 := (tp_mem b hb c2).2.2
  have m2 := (tp_mem a ha d1).2.2
  rw [← h1] at m1
  rw [h2] at m2
  exact m1.2.2 (by omega)
 rcases stop a a3 with e1 | e1 <;> rcases stop b b3 with e2 | e2
 ·exact two hC hC a b a2 b2 a1.1 b1.1 a1.1 b1.1 e1 e2
 ·exact two hC hD a b a2 b2 a1.1 b1.1 a1.2 b1.2 e1 e2
 ·exact two hD hC a b a2 b2 a1.2 b1.2 a1.1 b1.1 e1 e2
 ·exact two hD hD a b a2 b2 a1.2 b1.2 a1.2 b1.2 e1 e2
theorem conn.nb (hC : T.conn C) {b : Nat} (hb : b < T.n) (hbC : ¬C b) (hx : x < T.n) (hy : y < T.n) (cx : C x) (cy : C y) (ax : T.adj x b) (ay : T.adj y b) : x = y := by
 have key : ∀ x y, x < T.n → y < T.n → C x → C y → T.par x = some b → T.par b = some y → False := by
  intro x y hx hy cx cy h1 h2
  have e1 : T.tp C x = x := tp_stop fun p hp hc => hbC (by rw [h1] at hp; cases hp; exact hc)
  have e2 := (hC x y hx hy cx cy).2.2.2.2
  have e3 := (tp_mem y hy cy).2.2.1
  rw [← e2, e1] at e3
  have := T.dp hx h1
  have := T.dp hb h2
  omega
 rcases ax with ax | ax <;> rcases ay with ay | ay
 ·have e1 : T.tp C x = x := tp_stop fun p hp hc => hbC (by rw [ax] at hp; cases hp; exact hc)
  have e2 : T.tp C y = y := tp_stop fun p hp hc => hbC (by rw [ay] at hp; cases hp; exact hc)
  rw [← e1, ← e2]
  exact (hC x y hx hy cx cy).2.2.2.2
 ·exact (key x y hx hy cx cy ax ay).elim
 ·exact (key y x hy hx cy cx ay ax).elim
 ·rw [ax] at ay; cases ay; rfl
abbrev wo (A : Nat → Prop) (z : Nat) : Nat → Prop := fun i => A i ∧ i ≠ z
theorem hop (hC : T.conn C) (hz : z < T.n) (hx : x < T.n) (cz : C z) (cx : C x) (hne : x ≠ z) : ∃ k, T.adj k z ∧ T.cn (wo C z) k x := by
 have := (hC z x hz hx cz cx).ind (S := fun y => y = z ∨ ∃ k, T.adj k z ∧ T.cn (wo C z) k y) (.inl rfl) fun a b ha hb ca cb hs hab => by
  by_cases hbz : b = z
  ·exact .inl hbz
  ·right
   rcases hs with rfl | ⟨k, h1, h2⟩
   ·exact ⟨b, hab.symm, cn.refl hb ⟨cb, hbz⟩⟩
   ·exact ⟨k, h1, h2.trans (cn.of_adj ha hb h2.2.2.2.1 ⟨cb, hbz⟩ hab)⟩
 exact this.resolve_left hne
theorem hop_one {k' : Nat} (hz : z < T.n) (h1 : T.adj k z) (h2 : T.adj k' z) (h : T.cn (wo A z) k k') : k = k' :=
 (conn_comp (T := T) (A := wo A z) (x := k)).nb hz (fun hh => hh.2.2.2.1.2 rfl) h.1 h.2.1 (cn.refl h.1 h.2.2.1) h h1 h2
def P (T : Tr) (z x y : Nat) : Prop := ¬T.cn (wo (fun i => i < T.n) z) x y
theorem P.left : T.P x x y := fun h => h.2.2.1.2 rfl
theorem P.right : T.P y x y := fun h => h.2.2.2.1.2 rfl
theorem P.symm (h : T.P z x y) : T.P z y x := fun h' => h h'.symm
theorem P.lt (hx : x < T.n) (hy : y < T.n) (h : T.P z x y) : z < T.n := by
 apply Classical.byContradiction
 intro hz
 refine h ((conn_all x y hx hy hx hy).mono fun i hi _ => ⟨hi, fun e => hz (e ▸ hi)⟩)
theorem cn_wo (hC : T.conn C) (hx : x < T.n) (hy : y < T.n) (cx : C x) (cy : C y) : T.cn (wo C z) x y ↔ ¬T.P z x y := by
 unfold P
 rw [Classical.not_not]
 constructor
 ·exact fun h => h.mono fun i hi h => ⟨hi, h.2⟩
 ·intro h
  have hD := conn_comp (T := T) (A := wo (fun i => i < T.n) z) (x := x)
  exact ((hC.inter hD) x y hx hy ⟨cx, cn.refl hx h.2.2.1⟩ ⟨cy, h⟩).mono fun i _ hi => ⟨hi.1, hi.2.2.2.2.1.2⟩
theorem P.mem (hC : T.conn C) (hx : x < T.n) (hy : y < T.n) (cx : C x) (cy : C y) (h : T.P z x y) : C z := by
 apply Classical.byContradiction
 intro hz
 exact (cn_wo hC hx hy cx cy).1 ((hC x y hx hy cx cy).mono fun i _ hi => ⟨hi, fun e => hz (by rw [← e]; exact hi)⟩) h
theorem P.split (z : Nat) (h : T.P u x y) : T.P u x z ∨ T.P u z y := by
 by_cases h1 : T.P u x z
 ·exact .inl h1
 ·refine .inr fun h2 => h ((Classical.not_not.1 h1).trans h2)
theorem P.sub (h : T.P z x y) (h' : T.P u x z) : T.P u x y := fun hc =>
 h ((conn_comp (T := T) (A := wo (fun i => i < T.n) u) (x := x) x y hc.1 hc.2.1 (cn.refl hc.1 hc.2.2.1) hc).mono fun i hi hh => ⟨hi, fun e => h' (e ▸ hh)⟩)
theorem P.sub' (h : T.P z x y) (h' : T.P u z y) : T.P u x y := (h.symm.sub h'.symm).symm
theorem around (hz : z < T.n) (hx : x < T.n) (hne : u ≠ z) (h : T.P z u x) (hu : u < T.n) : ¬T.P u x z := by
 intro hh
 by_cases hxz : x = z
 ·subst hxz
  exact hh (cn.refl hx ⟨hx, Ne.symm hne⟩)
 ·obtain ⟨k, k1, k2⟩ := hop (conn_all (T := T)) hz hx hz hx hxz
  have h1 : T.cn (wo (fun i => i < T.n) u) x k := by
   refine (conn_comp (T := T) (A := wo (fun i => i < T.n) z) (x := x) x k hx k2.1 (cn.refl hx k2.2.2.2.1) k2.symm).mono fun i hi hc => ⟨hi, fun e => ?_⟩
   subst e
   exact h hc.symm
  exact hh (h1.trans (cn.of_adj k2.1 hz h1.2.2.2.1 ⟨hz, Ne.symm hne⟩ k1))
theorem P.meet (hx : x < T.n) (hy : y < T.n) (h : T.P z x y) (h1 : T.P u x z) (h2 : T.P u z y) : u = z := by
 apply Classical.byContradiction
 intro hne
 have hz := h.lt hx hy
 have hu := h1.lt hx hz
 rcases h.split u with h3 | h3
 ·exact around hz hx hne h3.symm hu h1
 ·exact around hz hy hne h3 hu h2.symm
theorem hop_P (hm : m < T.n) (hk : T.adj k m) (h : T.cn (wo (fun i => i < T.n) m) k x) : T.P k m x := by
 intro hc
 have hxm : x ≠ m := h.2.2.2.1.2
 obtain ⟨k', h1, h2⟩ := hop (conn_comp (T := T) (A := wo (fun i => i < T.n) k) (x := m)) hm h.2.1 (cn.refl hm hc.2.2.1) hc hxm
 have h3 : T.cn (wo (fun i => i < T.n) m) k' x := h2.mono fun i hi hh => ⟨hi, hh.2⟩
 have := hop_one hm hk h1 (h.trans h3.symm)
 subst this
 exact h2.2.2.1.1.2.2.2.1.2 rfl
noncomputable def dist (T : Tr) (x y : Nat) : Nat := (List.range T.n).countP fun z => decide (T.P z x y)
theorem dist_lt (hz : z < T.n) (h : ∀ u, u < T.n → T.P u x y → T.P u c m) (h1 : T.P z c m) (h2 : ¬T.P z x y) : T.dist x y < T.dist c m := by
 unfold dist
 have hle : ∀ l : List Nat, (∀ u ∈ l, u < T.n) → l.countP (fun z => decide (T.P z x y)) + (if z ∈ l then 1 else 0) ≤ l.countP fun z => decide (T.P z c m) := by
  intro l
  induction l with
  | nil => intro _; simp
  | cons a l ih =>
   intro hl
   have := ih fun u hu => hl u (by simp [hu])
   have ha := hl a (by simp)
   rw [List.countP_cons, List.countP_cons]
   by_cases haz : z = a
   ·subst haz
    simp only [h1, h2, decide_true, decide_false, List.mem_cons, true_or, if_true, Bool.false_eq_true, if_false]
    omega
   ·have e1 : (z ∈ a :: l) ↔ z ∈ l := by simp [haz]
    simp only [e1]
    by_cases hp : T.P a x y
    ·have := h a ha hp
     simp only [hp, this, decide_true, if_true]
     omega
    ·by_cases hq : T.P a c m
     ·simp only [hp, hq, decide_true, decide_false, if_true, Bool.false_eq_true, if_false]
      omega
     ·simp only [hp, hq, decide_false, Bool.false_eq_true, if_false]
      omega
 have := hle (List.range T.n) (by simp)
 simp only [List.mem_range, hz, if_true] at this
 omega
theorem median (hx : x < T.n) (hy : y < T.n) (hc : c < T.n) : ∃ m, T.P m x y ∧ T.P m x c ∧ T.P m y c := by
 have : ∀ d m, T.P m x y → T.dist m c = d → ∃ m, T.P m x y ∧ T.P m x c ∧ T.P m y c := by
  intro d
  induction d using Nat.strongRecOn with
  | _ d ih =>
   intro m hm hd
   have hml := hm.lt hx hy
   have step : ∀ x y, x < T.n → y < T.n → T.P m x y → ¬T.P m x c → ∃ k, T.P k x y ∧ T.dist k c < T.dist m c := by
    intro x y hx hy hm h
    have h' := Classical.not_not.1 h
    obtain ⟨k, k1, k2⟩ := hop (conn_all (T := T)) hml hc hml hc h'.2.2.2.1.2
    have k3 : T.cn (wo (fun i => i < T.n) m) k x := k2.trans h'.symm
    have p1 := hop_P hml k1 k3
    have p2 := hop_P hml k1 k2
    exact ⟨k, hm.sub p1.symm, dist_lt hml (fun u _ hu => p2.sub' hu) P.left fun h => h k2⟩
   by_cases h1 : T.P m x c
   ·by_cases h2 : T.P m y c
    ·exact ⟨m, hm, h1, h2⟩
    ·obtain ⟨k, k1, k2⟩ := step y x hy hx hm.symm h2
     exact ih _ (by omega) k k1.symm rfl
   ·obtain ⟨k, k1, k2⟩ := step x y hx hy hm h1
    exact ih _ (by omega) k k1 rfl
 exact this _ x P.left rfl
theorem near (hx : x < T.n) (hy : y < T.n) (hc : c < T.n) (hm : T.P m x y) (m1 : T.P m x c) (m2 : T.P m y c) {n : Nat} (hn : T.P n x y) : T.P m n c := by
 have hml := hm.lt hx hy
 rcases hn.split m with h | h
 ·-- n between x and m
  have h3 : T.P n x c := m1.sub h
  rcases m1.split n with h4 | h4
  ·have : m = n := by
    have := P.meet hx hml h h4 (P.right (T := T) (x := n) (y := m))
    exact this
   subst this
   exact P.left
  ·exact h4
 ·have h3 : T.P n y c := m2.sub h.symm
  rcases m2.split n with h4 | h4
  ·have : m = n := P.meet hy hml h.symm h4 (P.right (T := T) (x := n) (y := m))
   subst this
   exact P.left
  ·exact h4
end Tr
end Go.Mono

namespace Go.Mono

abbrev bits (S : BS) : Nat → Prop := fun i => S.getLsbD i = true
theorem bit_lt {S : BS} {i : Nat} (h : S.getLsbD i = true) : i < 1024 := Classical.byContradiction fun hn => by
 rw [BitVec.getLsbD_of_ge _ _ (by omega)] at h; cases h
theorem bit_diff (S T : BS) (i : Nat) : (S &&& ~~~T).getLsbD i = true ↔ S.getLsbD i = true ∧ ¬T.getLsbD i = true := by
 rw [BitVec.getLsbD_and, BitVec.getLsbD_not, Bool.and_eq_true, Bool.and_eq_true]
 constructor
 ·rintro ⟨h1, _, h2⟩; exact ⟨h1, by simpa using h2⟩
 ·rintro ⟨h1, h2⟩; exact ⟨h1, by simpa using bit_lt h1, by simpa using h2⟩
theorem bit_and (S T : BS) (i : Nat) : (S &&& T).getLsbD i = true ↔ S.getLsbD i = true ∧ T.getLsbD i = true := by
 rw [BitVec.getLsbD_and, Bool.and_eq_true]
theorem bit_or (S T : BS) (i : Nat) : (S ||| T).getLsbD i = true ↔ S.getLsbD i = true ∨ T.getLsbD i = true := by
 rw [BitVec.getLsbD_or, Bool.or_eq_true]
theorem bit_zero (i : Nat) : ¬(0 : BS).getLsbD i = true := by simp
theorem bit_ins (S : BS) {p i : Nat} (hp : p < 1024) : (ins S (p : Int)).getLsbD i = true ↔ S.getLsbD i = true ∨ i = p := by
 by_cases hi : i < 1024
 ·rw [ins_bit _ _ _ hi, Bool.or_eq_true, decide_eq_true_eq]
  constructor
  ·rintro (h | h)
   ·exact .inl h
   ·exact .inr (by omega)
  ·rintro (h | h)
   ·exact .inl h
   ·exact .inr (by omega)
 ·constructor
  ·intro h; exact absurd (bit_lt h) hi
  ·rintro (h | h)
   ·exact absurd (bit_lt h) hi
   ·omega
theorem bit_del (S : BS) {p i : Nat} (hp : p < 1024) : (del S (p : Int)).getLsbD i = true ↔ S.getLsbD i = true ∧ i ≠ p := by
 unfold del
 rw [if_pos (fitsB_iff.2 (by omega)), bit_diff, Int.toNat_natCast]
 constructor
 ·rintro ⟨h1, h2⟩
  refine ⟨h1, fun e => h2 ?_⟩
  rw [sgl_bit _ _ hp, e]; simp
 ·rintro ⟨h1, h2⟩
  refine ⟨h1, fun h => h2 ?_⟩
  rw [sgl_bit _ _ hp] at h
  exact of_decide_eq_true h
theorem set_ext' {S T : BS} (h : ∀ k, S.getLsbD k = true ↔ T.getLsbD k = true) : S = T := set_ext fun k _ => h k
theorem has_bit (S : BS) (p : Nat) : has S (p : Int) = true ↔ S.getLsbD p = true := by
 rw [has, Bool.and_eq_true, fitsB_iff, Int.toNat_natCast]
 exact ⟨fun h => h.2, fun h => ⟨by have := bit_lt h; omega, h⟩⟩

theorem countP_le' {α : Type} {p q : α → Bool} : ∀ {l : List α}, (∀ x ∈ l, p x = true → q x = true) → l.countP p ≤ l.countP q
 | [], _ => Nat.le_refl _
 | x :: l, h => by
  have ih := countP_le' (l := l) fun y hy => h y (by simp [hy])
  rw [List.countP_cons, List.countP_cons]
  by_cases hx : p x = true
  ·rw [if_pos hx, if_pos (h x (by simp) hx)]; omega
  ·rw [if_neg hx]; split <;> omega
theorem countP_lt' {α : Type} {p q : α → Bool} {z : α} : ∀ {l : List α}, (∀ x ∈ l, p x = true → q x = true) → z ∈ l → q z = true → ¬p z = true → l.countP p < l.countP q
 | [], _, hz, _, _ => by cases hz
 | x :: l, h, hz, h1, h2 => by
  have ih := countP_le' (p := p) (q := q) (l := l) fun y hy => h y (by simp [hy])
  rw [List.countP_cons, List.countP_cons]
  rcases List.mem_cons.1 hz with rfl | hz
  ·rw [if_neg h2, if_pos h1]; omega
  ·have ih := countP_lt' (l := l) (fun y hy => h y (by simp [hy])) hz h1 h2
   by_cases hx : p x = true
   ·rw [if_pos hx, if_pos (h x (by simp) hx)]; omega
   ·rw [if_neg hx]; split <;> omega
theorem countP_add' {α : Type} {p q r : α → Bool} : ∀ {l : List α}, (∀ x ∈ l, r x = true ↔ p x = true ∨ q x = true) → (∀ x ∈ l, ¬(p x = true ∧ q x = true)) → l.countP r = l.countP p + l.countP q
 | [], _, _ => rfl
 | x :: l, h, hd => by
  have ih := countP_add' (l := l) (p := p) (q := q) (r := r) (fun y hy => h y (by simp [hy])) fun y hy => hd y (by simp [hy])
  rw [List.countP_cons, List.countP_cons, List.countP_cons, ih]
  have h1 := h x (by simp)
  have h2 := hd x (by simp)
  by_cases hp : p x = true
  ·have hq : ¬q x = true := fun hq => h2 ⟨hp, hq⟩
   rw [if_pos hp, if_neg hq, if_pos (h1.2 (.inl hp))]; omega
  ·by_cases hq : q x = true
   ·rw [if_neg hp, if_pos hq, if_pos (h1.2 (.inr hq))]; omega
   ·rw [if_neg hp, if_neg hq, if_neg (fun hr => (h1.1 hr).elim hp hq)]; omega
theorem card_mono {S T : BS} (h : ∀ i, S.getLsbD i = true → T.getLsbD i = true) : card S ≤ card T := countP_le' fun i _ hi => h i hi
theorem card_lt {S T : BS} {z : Nat} (h : ∀ i, S.getLsbD i = true → T.getLsbD i = true) (h1 : T.getLsbD z = true) (h2 : ¬S.getLsbD z = true) : card S < card T :=
 countP_lt' (fun i _ hi => h i hi) (List.mem_range.2 (bit_lt h1)) h1 h2
theorem card_add {S T U : BS} (h : ∀ i, U.getLsbD i = true ↔ S.getLsbD i = true ∨ T.getLsbD i = true) (hd : ∀ i, ¬(S.getLsbD i = true ∧ T.getLsbD i = true)) : card U = card S + card T :=
 countP_add' (fun i _ => h i) fun i _ => hd i
theorem card_elems (S : BS) : (elems S).length = card S := by rw [elems, card, List.countP_eq_length_filter]
theorem card_zero : card 0 = 0 := by rw [← card_elems, elems_zero]; rfl
theorem countP_lt_range (n : Nat) : ∀ m, (List.range m).countP (fun i => decide (i < n)) ≤ n
 | 0 => by simp
 | m + 1 => by
  rw [List.range_succ, List.countP_append]
  have ih := countP_lt_range n m
  by_cases h : m < n
  ·have := List.countP_le_length (p := fun i => decide (i < n)) (l := List.range m)
   rw [List.length_range] at this
   simp [h]; omega
  ·simp [h]; omega
theorem card_le_n {S : BS} {n : Nat} (h : ∀ i, S.getLsbD i = true → i < n) : card S ≤ n :=
 Nat.le_trans (countP_le' fun i _ hi => decide_eq_true (h i hi)) (countP_lt_range n 1024)
theorem card_one {S : BS} {p : Nat} (h : ∀ i, S.getLsbD i = true ↔ i = p) : card S = 1 := by
 have hp : p < 1024 := bit_lt ((h p).2 rfl)
 have : ∀ m, (List.range m).countP (fun i => S.getLsbD i) = if p < m then 1 else 0 := by
  intro m
  induction m with
  | zero => simp
  | succ m ih =>
   rw [List.range_succ, List.countP_append, ih]
   by_cases hm : m = p
   ·subst hm
    simp [(h m).2 rfl]
   ·have : ¬S.getLsbD m = true := fun hh => hm ((h m).1 hh)
    rw [List.countP_singleton, if_neg this]
    split <;> split <;> omega
 rw [card, this, if_pos hp]
theorem card_pos {S : BS} {p : Nat} (h : S.getLsbD p = true) : 0 < card S := by
 rw [← card_elems]
 exact List.length_pos_of_mem (mem_elems.2 ⟨bit_lt h, h⟩)
theorem minOf_mem {S : BS} {k : Nat} (h : minOf S = some k) : S.getLsbD k = true := (minOf_some.1 h).2.1
theorem minOf_is {S : BS} {p : Nat} (h : S.getLsbD p = true) : ∃ k, minOf S = some k ∧ k ≤ p := by
 cases hm : minOf S with
 | none => rw [minOf_none.1 hm] at h; exact absurd h (bit_zero p)
 | some k =>
  refine ⟨k, rfl, Classical.byContradiction fun hn => ?_⟩
  have := (minOf_some.1 hm).2.2 p (by omega)
  rw [this] at h; cases h

structure Fo (fs : List BS) (T : Tr) : Prop where
 len : fs.length = T.n
 le : T.n ≤ 1000
 adj : ∀ {j i}, j < T.n → ((sg fs j).getLsbD i = true ↔ i < T.n ∧ T.adj j i)
theorem Fo.lt {fs : List BS} {T : Tr} (F : Fo fs T) {j : Nat} (hj : j < fs.length) : ∀ i, (sg fs j).getLsbD i = true → i < fs.length := fun i h => by
 rw [F.len] at hj ⊢
 exact ((F.adj hj).1 h).1

theorem compF_ok {fs : List BS} {T : Tr} (F : Fo fs T) {inn : BS} {p : Nat} (hin : ∀ i, inn.getLsbD i = true → i < T.n) : ∀ (f : Nat) (S : BS) (R : List Int), S.getLsbD p = true → (∀ i, S.getLsbD i = true → T.cn (bits inn) p i) →
  (∀ r ∈ R, ∃ q : Nat, r = (q : Int) ∧ S.getLsbD q = true) → (∀ i, S.getLsbD i = true → (i : Int) ∉ R → ∀ k, T.adj i k → inn.getLsbD k = true → S.getLsbD k = true) → R.length + T.n ≤ f + card S →
  ∃ Z, compF fs inn f S R = some Z ∧ ∀ i, Z.getLsbD i = true ↔ T.cn (bits inn) p i := by
 intro f
 induction f with
 | zero =>
  intro S R h1 h2 h3 h4 h5
  have hc := card_le_n fun i hi => (h2 i hi).2.1
  have : R = [] := List.eq_nil_of_length_eq_zero (by omega)
  subst this
  refine ⟨S, rfl, fun i => ⟨h2 i, fun h => h.ind (S := bits S) h1 fun a b ha hb pa pb hs hab => h4 a hs (by simp) b hab pb⟩⟩
 | succ f ih =>
  intro S R h1 h2 h3 h4 h5
  cases R with
  | nil => exact ⟨S, rfl, fun i => ⟨h2 i, fun h => h.ind (S := bits S) h1 fun a b ha hb pa pb hs hab => h4 a hs (by simp) b hab pb⟩⟩
  | cons r R =>
   obtain ⟨q, rfl, hq⟩ := h3 r (by simp)
   have hqn := (h2 q hq).2.1
   have hX : ∀ i, (((sg fs q &&& inn) &&& ~~~S)).getLsbD i = true ↔ (i < T.n ∧ T.adj q i) ∧ inn.getLsbD i = true ∧ ¬S.getLsbD i = true := fun i => by
    rw [bit_diff, bit_and, F.adj hqn, and_assoc]
   rw [compF, Int.toNat_natCast]
   generalize (sg fs q &&& inn) &&& ~~~S = X at hX
   have hU : ∀ i, (S ||| X).getLsbD i = true ↔ S.getLsbD i = true ∨ X.getLsbD i = true := bit_or S X
   have hel : ∀ i : Nat, (i : Int) ∈ elI X ↔ X.getLsbD i = true := fun i => by
    by_cases hi : i < 1024
    ·exact mem_elI hi
    ·constructor
     ·intro h
      rw [elI, List.mem_map] at h
      obtain ⟨j, hj, he⟩ := h
      have := (mem_elems.1 hj).1
      omega
     ·intro h; exact absurd (bit_lt h) hi
   refine ih (S ||| X) (R ++ elI X) ((hU p).2 (.inl h1)) (fun i hi => ?_) (fun x hx => ?_) (fun i hi hn k hk hik => ?_) ?_
   ·rcases (hU i).1 hi with h | h
    ·exact h2 i h
    ·have := (hX i).1 h
     exact (h2 q hq).trans (Tr.cn.of_adj hqn this.1.1 (h2 q hq).2.2.2.1 this.2.1 this.1.2)
   ·rcases List.mem_append.1 hx with h | h
    ·obtain ⟨q', e, h'⟩ := h3 x (by simp [h])
     exact ⟨q', e, (hU q').2 (.inl h')⟩
    ·rw [elI, List.mem_map] at h
     obtain ⟨j, hj, rfl⟩ := h
     exact ⟨j, rfl, (hU j).2 (.inr (mem_elems.1 hj).2)⟩
   ·have hiX : ¬X.getLsbD i = true := fun h => hn (List.mem_append.2 (.inr ((hel i).2 h)))
    have hiS := ((hU i).1 hi).resolve_right hiX
    by_cases hiq : i = q
    ·subst hiq
     by_cases hkS : S.getLsbD k = true
     ·exact (hU k).2 (.inl hkS)
     ·exact (hU k).2 (.inr ((hX k).2 ⟨⟨hin k hik, hk⟩, hik, hkS⟩))
    ·refine (hU k).2 (.inl (h4 i hiS (fun h => ?_) k hk hik))
     rcases List.mem_cons.1 h with h | h
     ·omega
     ·exact hn (List.mem_append.2 (.inl h))
   ·have hc := card_add hU (fun i h => ((hX i).1 h.2).2.2 h.1)
    have hl : (elI X).length = card X := by rw [elI, List.length_map, card_elems]
    rw [List.length_append, hl, hc]
    simp only [List.length_cons] at h5
    omega
def compB (fs : List BS) (inn : BS) (p : Nat) : BS := (compF fs inn (1 + fs.length) (ins 0 (p : Int)) [(p : Int)]).getD 0
theorem comp_some {fs : List BS} {T : Tr} (F : Fo fs T) {inn : BS} {p : Nat} (hin : ∀ i, inn.getLsbD i = true → i < T.n) (hp : inn.getLsbD p = true) :
  compF fs inn (1 + fs.length) (ins 0 (p : Int)) [(p : Int)] = some (compB fs inn p) ∧ ∀ i, (compB fs inn p).getLsbD i = true ↔ T.cn (bits inn) p i := by
 have hpn := hin p hp
 have hle := F.le
 have hb : ∀ i, (ins 0 (p : Int)).getLsbD i = true ↔ i = p := fun i => by
  rw [bit_ins 0 (by omega)]
  exact ⟨fun h => h.resolve_left (bit_zero i), .inr⟩
 obtain ⟨Z, h1, h2⟩ := compF_ok F hin (1 + fs.length) (ins 0 (p : Int)) [(p : Int)] ((hb p).2 rfl) (fun i hi => by rw [(hb i).1 hi]; exact Tr.cn.refl hpn hp)
  (fun r hr => ⟨p, by simpa using hr, (hb p).2 rfl⟩) (fun i hi hn => by rw [(hb i).1 hi] at hn; simp at hn) (by have := F.len; simp; omega)
 have : compB fs inn p = Z := by rw [compB, h1]; rfl
 rw [this]
 exact ⟨h1, h2⟩
theorem comp_sub {fs : List BS} {T : Tr} (F : Fo fs T) {inn : BS} {p : Nat} (hin : ∀ i, inn.getLsbD i = true → i < T.n) (hp : inn.getLsbD p = true) : ∀ i, (compB fs inn p).getLsbD i = true → inn.getLsbD i = true :=
 fun i hi => (((comp_some F hin hp).2 i).1 hi).2.2.2.1
theorem comp_self {fs : List BS} {T : Tr} (F : Fo fs T) {inn : BS} {p : Nat} (hin : ∀ i, inn.getLsbD i = true → i < T.n) (hp : inn.getLsbD p = true) : (compB fs inn p).getLsbD p = true :=
 ((comp_some F hin hp).2 p).2 (Tr.cn.refl (hin p hp) hp)
def oEl {α : Type} (o : Option Nat) (a : α) (g : Nat → α) : α := match o with
 | none => a
 | some k => g k
def splitF (fs : List BS) : Nat → BS → Option (List BS)
 | 0, left => oEl (minOf left) (some []) fun _ => none
 | f + 1, left => oEl (minOf left) (some []) fun k => (splitF fs f (left &&& ~~~compB fs left k)).map (compB fs left k :: ·)
theorem splitF_nil {fs : List BS} {left : BS} (h : minOf left = none) (f : Nat) : splitF fs f left = some [] := by
 cases f with
 | zero => rw [splitF, h]; rfl
 | succ f => rw [splitF, h]; rfl
theorem splitF_cons {fs : List BS} {left : BS} {k : Nat} (h : minOf left = some k) (f : Nat) : splitF fs (f + 1) left = (splitF fs f (left &&& ~~~compB fs left k)).map (compB fs left k :: ·) := by
 rw [splitF, h, oEl]
theorem cn_rest {fs : List BS} {T : Tr} (F : Fo fs T) {left : BS} {k x y : Nat} (hin : ∀ i, left.getLsbD i = true → i < T.n) (hk : left.getLsbD k = true) (hx : (left &&& ~~~compB fs left k).getLsbD x = true) :
  T.cn (bits (left &&& ~~~compB fs left k)) x y ↔ T.cn (bits left) x y := by
 have hC := (comp_some F hin hk).2
 constructor
 ·intro h; exact h.mono fun i _ hi => ((bit_diff _ _ i).1 hi).1
 ·intro h
  refine h.ind (S := fun i => T.cn (bits (left &&& ~~~compB fs left k)) x i) (Tr.cn.refl h.1 hx) fun a b ha hb pa pb hs hab => ?_
  have ha' := (bit_diff _ _ a).1 hs.2.2.2.1
  have hb' : (left &&& ~~~compB fs left k).getLsbD b = true := (bit_diff _ _ b).2 ⟨pb, fun hh => ha'.2 ((hC a).2 (((hC b).1 hh).trans (Tr.cn.of_adj hb ha pb pa hab.symm)))⟩
  exact hs.trans (Tr.cn.of_adj ha hb hs.2.2.2.1 hb' hab)
theorem splitF_ok {fs : List BS} {T : Tr} (F : Fo fs T) : ∀ (f : Nat) (left : BS), (∀ i, left.getLsbD i = true → i < T.n) → card left ≤ f →
  ∃ l, splitF fs f left = some l ∧ l.length ≤ card left ∧ (∀ C ∈ l, ∃ k, left.getLsbD k = true ∧ C = compB fs left k) ∧ ∀ k, left.getLsbD k = true → compB fs left k ∈ l := by
 intro f
 induction f with
 | zero =>
  intro left hin hc
  cases hm : minOf left with
  | none =>
   refine ⟨[], splitF_nil hm _, by simp, fun C hC => by (cases hC), fun k hk => ?_⟩
   rw [minOf_none.1 hm] at hk; exact absurd hk (bit_zero k)
  | some k => have := card_pos (minOf_mem hm); omega
 | succ f ih =>
  intro left hin hc
  cases hm : minOf left with
  | none =>
   refine ⟨[], splitF_nil hm _, by simp, fun C hC => by (cases hC), fun k hk => ?_⟩
   rw [minOf_none.1 hm] at hk; exact absurd hk (bit_zero k)
  | some k =>
   have hk := minOf_mem hm
   have hlt : card (left &&& ~~~compB fs left k) < card left := card_lt (fun i hi => ((bit_diff _ _ i).1 hi).1) hk fun h => ((bit_diff _ _ k).1 h).2 (comp_self F hin hk)
   have hin' : ∀ i, (left &&& ~~~compB fs left k).getLsbD i = true → i < T.n := fun i hi => hin i ((bit_diff _ _ i).1 hi).1
   have same : ∀ x, (left &&& ~~~compB fs left k).getLsbD x = true → compB fs (left &&& ~~~compB fs left k) x = compB fs left x := fun x hx => by
    have hxl := ((bit_diff _ _ x).1 hx).1
    refine set_ext' fun i => ?_
    rw [(comp_some F hin' hx).2 i, (comp_some F hin hxl).2 i]
    exact cn_rest F hin hk hx
   obtain ⟨l, h1, h2, h3, h4⟩ := ih _ hin' (by omega)
   refine ⟨compB fs left k :: l, by rw [splitF_cons hm, h1]; rfl, by simp; omega, fun C hC => ?_, fun x hx => ?_⟩
   ·rcases List.mem_cons.1 hC with rfl | hC
    ·exact ⟨k, hk, rfl⟩
    ·obtain ⟨x, hx, rfl⟩ := h3 C hC
     exact ⟨x, ((bit_diff _ _ x).1 hx).1, same x hx⟩
   ·by_cases hxC : (compB fs left k).getLsbD x = true
    ·have : compB fs left x = compB fs left k := by
      have hkx := ((comp_some F hin hk).2 x).1 hxC
      refine set_ext' fun i => ?_
      rw [(comp_some F hin hk).2 i, (comp_some F hin hx).2 i]
      exact ⟨fun h => hkx.trans h, fun h => hkx.symm.trans h⟩
     rw [this]; simp
    ·have hx' := (bit_diff _ _ x).2 ⟨hx, hxC⟩
     rw [← same x hx']
     exact List.mem_cons_of_mem _ (h4 x hx')
end Go.Mono

namespace Go.Mono
open Go Go.Proofs Go.RowKit

def oB (o : Option Nat) (a : BS) (g : Nat → BS) : BS := match o with
 | none => a
 | some k => g k
def reF (nb : Int → BS) (th : BS) : Nat → BS → BS → BS
 | 0, s, _ => s
 | f + 1, s, d => oB (minOf (s &&& th &&& ~~~d)) s fun k => reF nb th f (s ||| nb (k : Int)) (ins d (k : Int))
def reB (nb : Int → BS) (th : BS) (v : Int) : BS := del (reF nb th 1024 (nb v) 0 &&& ~~~th) v
theorem reF_none {nb : Int → BS} {th s d : BS} (h : minOf (s &&& th &&& ~~~d) = none) (f : Nat) : reF nb th f s d = s := by
 cases f with
 | zero => rfl
 | succ f =>
  show oB (minOf (s &&& th &&& ~~~d)) s _ = s
  rw [h]; rfl
theorem reF_some {nb : Int → BS} {th s d : BS} {k : Nat} (h : minOf (s &&& th &&& ~~~d) = some k) (f : Nat) : reF nb th (f + 1) s d = reF nb th f (s ||| nb (k : Int)) (ins d (k : Int)) := by
 show oB (minOf (s &&& th &&& ~~~d)) s _ = _
 rw [h]; rfl
end Go.Mono

namespace Go.Mono
open Go Go.Proofs Go.RowKit Go.Gr
def lkS (l : List (Int × BS)) (i : Int) : BS := ((l.find? fun p => decide (p.1 = i)).map (·.2)).getD 0
section
variable {w0 : World} {L : Env} {dst : Option Tmp} {ty : TypeId} {pos : String} {aft : Array Edge} {g : Option (Nat × Bool)} {x y : Operand} {t : TypeId} {G : Nat → Prop} {N : Nat} {l : List (Int × BS)}
theorem lkS_mem {n : Nat} {b : Nat} {w : World} (h : MpR sKV w b n l) {i : Int} {c : BS} (hc : (i, c) ∈ l) : lkS l i = c := by
 obtain ⟨_, _, _, _, hp⟩ := h
 cases hf : l.find? (fun p => decide (p.1 = i)) with
 | none => have := List.find?_eq_none.1 hf _ hc; simp at this
 | some p =>
  have h1 := List.find?_some hf
  have h2 := List.mem_of_find?_eq_some hf
  have h3 : p.1 = i := by simpa using h1
  have h4 : p = (i, p.2) := by rw [← h3]
  rw [h4] at h2
  rw [lkS, hf]
  exact nodup_val hp h2 hc
theorem lkS_no {i : Int} (h : ∀ c, (i, c) ∉ l) : lkS l i = 0 := by
 have : l.find? (fun p => decide (p.1 = i)) = none := by
  rw [List.find?_eq_none]
  intro p hp hh
  have h3 : p.1 = i := by simpa using hh
  exact h p.2 (by rw [← h3]; exact hp)
 rw [lkS, this]; rfl
theorem lkM {i : Int} (ht : Tryz.prog.underlying t = some (.map sKV.k sKV.e)) (hz : ∀ w, (zeroValue sKV.e).run Tryz.prog w = .ok (setV 0) w) (hx : Is L w0 x (Dv (mpE sKV N) G l)) (hy : opd L y = some (E (I i))) (hi : (Lit.int .i64 i).wf = true) :
  OpC Tryz.prog w0 L ⟨dst, .lookup t x y false, ty, pos, aft, g⟩ (E (setV (lkS l i))) :=
 opc_pure fun ρ w he' hv => by
  obtain ⟨cs, ⟨b, n, h1, _, _, h2⟩, h4⟩ := hx.v he' hv (by simp [Op.operands])
  subst h1
  have h5 : ρ x = .map (some b) := h4
  have h6 := opE hv (x := y) (by simp [Op.operands]) hy
  obtain ⟨D, m1, m2, m3, m4, _⟩ := h2.has (x := i) hi
  obtain ⟨v, ps, r1, r2⟩ := m1.lookup sKV.K ht (hz w) (sKV.val 0 trivial) (sKV.key i hi)
  obtain ⟨c, _, rfl, hy2⟩ := sKV.valInv _ _ r2
  have hcc : c = lkS l i := by
   have h8 := congrArg Prod.fst hy2
   simp only at h8
   by_cases hex : ∃ c', (i, c') ∈ l
   ·obtain ⟨c', hc'⟩ := hex
    rw [m3 c' hc'] at h8
    rw [lkS_mem h2 hc']
    exact (sKV.dvInj _ _ h8).symm
   ·have hno : ∀ c', (i, c') ∉ l := fun c' h => hex ⟨c', h⟩
    rw [m4 hno] at h8
    rw [lkS_no hno]
    exact (sKV.dvInj _ _ h8).symm
  rw [hcc] at r1
  have r1 : (Instr.lookup t (.map (some b)) (I i) false).run Tryz.prog w = .ok (setV (lkS l i)) w := r1
  exact ⟨_, by simp only [execOp, h5, h6, Sem.run_bind, r1, Result.andThen_ok, Sem.run_pure], rfl⟩
end
theorem zero_set (w : World) : (zeroValue 39).run Tryz.prog w = .ok (setV 0) w := by
 rw [← z16_eq]; exact zero_of I39 w
theorem bS_0 : Tryz.prog.built 39 [] = some (setC 0) := by rw [← zeroC]; kernel_rfl
theorem reach_spec {G : Nat → Prop} {N : Nat} (l : List (Int × BS)) (th : BS) (x : Int) (v : Value) (W : World) (hT : Tab W) (h : (Dv (mpE sKV N) G l).p v W) (hx : (Lit.int .i64 x).wf = true) :
  Calls Tryz.prog 26 #[v, setV th, I x] W (Post (E (setV (reB (lkS l) th x))) W) := by
 have hT0 := hT.lt
 refine enter (args := [v, setV th, I x]) (As := [Dv (mpE sKV N) (GB W Go.Mono.G0) l, E (setV th), E (I x)]) Tryz.func26 rfl Tryz.ntmps26 (Nat.le_of_ble_eq_true rfl) ?_ (fun a hf => ?_) (Nat.le_of_ble_eq_true rfl)
 rotate_left
 dsimp only [params, Nat.reduceAdd] at hf
 rotate_right
 ·exact arg3 (Dv.toB (Dv.weak h fun b _ hb => hb.elim)) rfl rfl
 have e := Ext.rfl' W
 repeat refine seq ?_
 refine regn0 ?_
 refine tl_box hf rfl (by decide) fun a b4 w v4 hv4 e' hb4 hs4 B4 hf => ?_
 have hle4 := Nat.le_trans e.size (Nat.le_of_eq hb4.symm)
 replace hT := hT.ext e'
 replace e := e.tr e'
 clear e'
 refine tl_alloc I39 hf (by decide) fun a b6 w e' hb6 hs6 B6 hf => ?_
 have hle6 := Nat.le_trans e.size (Nat.le_of_eq hb6.symm)
 have lt6_B4 := B4.lt
 replace hT := hT.ext e'
 replace e := e.tr e'
 replace B4 := B4.ext e'
 refine tl_nil ?_
 cases hv4
 replace B4 : Blk w b4 (setC th) 39 := B4
 simp only [Value.cells, zeroC] at B6
 replace hf := hf.kp [0, 2, 4, 6]
 repeat refine seq ?_
 refine regn 4 hf (by decide +kernel) ?_
 refine st (mv rfl) ?_
 refine st (mv rfl) ?_
 refine st (lkM (l := l) (i := x) Tryz.underlying66 zero_set (isR rfl) rfl hx) ?_
 refine st (bldV [] rfl bS_0) ?_
 refine en fun a w e' hf => ?_
 replace hT := hT.ext e'
 replace e := e.tr e'
 replace B4 := B4.ext e'
 replace B6 := B6.ext e'
 clear e'
 refine tl_alloc I39 hf (by decide) fun a b7 w e' hb7 hs7 B7 hf => ?_
 have hle7 := Nat.le_trans e.size (Nat.le_of_eq hb7.symm)
 have lt7_B4 := B4.lt
 have lt7_B6 := B6.lt
 replace hT := hT.ext e'
 replace e := e.tr e'
 replace B4 := B4.ext e'
 replace B6 := B6.ext e'
 clear e'
 refine tl_alloc I39 hf (by decide) fun a b8 w e' hb8 hs8 B8 hf => ?_
 have hle8 := Nat.le_trans e.size (Nat.le_of_eq hb8.symm)
 have lt8_B4 := B4.lt
 have lt8_B6 := B6.lt
 have lt8_B7 := B7.lt
 replace hT := hT.ext e'
 replace e := e.tr e'
 replace B4 := B4.ext e'
 replace B6 := B6.ext e'
 replace B7 := B7.ext e'
 clear e'
 haveI i6 : ∀ G0, InR (GB W G0) (some b6) := fun G0 => InR.gb (by omega)
 haveI i7 : ∀ G0, InR (GB W G0) (some b7) := fun G0 => InR.gb (by omega)
 haveI i8 : ∀ G0, InR (GB W G0) (some b8) := fun G0 => InR.gb (by omega)
 refine tl_stW T39 hf rfl rfl (wordsC_one _) B7 rfl (setC_size _) fun w hg hsz B7 hf => ?_
 replace e := e.gr hg (by omega); replace hT := hT.gr hg (by omega); replace B4 := B4.gr hg (by omega); replace B6 := B6.gr hg (by omega); replace B8 := B8.gr hg (by omega); clear hg
 refine tl_stW T39 hf rfl rfl (wordsC_one _) B8 rfl (setC_size _) fun w hg hsz B8 hf => ?_
 replace e := e.gr hg (by omega); replace hT := hT.gr hg (by omega); replace B4 := B4.gr hg (by omega); replace B6 := B6.gr hg (by omega); replace B7 := B7.gr hg (by omega); clear hg
 refine tl_nil ?_
 replace hf := hf.kp [0, 2, 4, 6, 7, 8]
 have n4 : b4 ≠ b6 ∧ b4 ≠ b7 ∧ b4 ≠ b8 ∧ b6 ≠ b7 ∧ b6 ≠ b8 ∧ b7 ≠ b8 := by omega
 have h78 : W.heap.size ≤ b7 ∧ W.heap.size ≤ b8 ∧ W.heap.size ≤ b6 := by omega
 have hc0 : card (0 : BS) = 0 := card_zero
 obtain ⟨K, hK⟩ : ∃ K : Nat, K = 1024 := ⟨_, rfl⟩
 have hre : reB (lkS l) th x = del (reF (lkS l) th K (lkS l x) 0 &&& ~~~th) x := by rw [hK, reB]
 repeat refine seq ?_
 refine blk (loopN (fun r0 a w => ∃ (s d : BS), K ≤ r0 + card d ∧ reF (lkS l) th r0 s d = reF (lkS l) th K (lkS l x) 0 ∧ Fr 39 a w [(0, Dv (mpE sKV N) (GB W Go.Mono.G0) l), (2, E (I x)), (4, E (.pointer (some ⟨b4, 0, none⟩))), (6, E (.pointer (some ⟨b6, 0, none⟩))), (7, E (.pointer (some ⟨b7, 0, none⟩))), (8, E (.pointer (some ⟨b8, 0, none⟩)))] ∧ Ext W w ∧ Tab w ∧ Blk w b4 (setC th) 39 ∧ Blk w b6 (setC 0) 39 ∧ Blk w b7 (setC s) 39 ∧ Blk w b8 (setC d) 39) K ⟨lkS l x, 0, Nat.le_add_right _ _, rfl, hf, e, hT, B4, B6, B7, B8⟩ ?_)
 clear hf e hT B4 B6 B7 B8
 rintro r0 a w ⟨s, d, hr0, hR, hf, e, hT, B4, B6, B7, B8⟩
 repeat refine seq ?_
 refine blk ?_
 have e0 := e
 replace hf := hf.kp [0, 2, 4, 6, 7, 8]
 cases hq : minOf (s &&& th &&& ~~~d) with
 | none =>
  repeat refine seq ?_
  refine reg 11 Mix.mix hf (by decide +kernel) ?_
  refine st ((ldW T39 rfl B7 rfl).eq ((rfl : _ = setV s))) ?_
  refine st ((ldW T39 rfl B4 rfl).eq ((rfl : _ = setV th))) ?_
  refine st (call2 (A := E (setV (s &&& th))) En51 rfl rfl (fun v u w he h h' => by cases h; cases h'; exact inter_spec s th w)) ?_
  refine st ((ldW T39 rfl B8 rfl).eq ((rfl : _ = setV d))) ?_
  refine st (call2 (A := E (setV (s &&& th &&& ~~~d))) En24 rfl rfl (fun v u w he h h' => by cases h; cases h'; exact minus_spec (s &&& th) d w)) ?_
  refine st (call1 (A := minP (s &&& th &&& ~~~d)) En50 rfl (fun v w he h => by cases h; exact min_spec _ w (hT.ext he))) ?_
  refine st (mv rfl) ?_
  refine st (ext_ rfl rfl) ?_
  refine st (ext_ rfl rfl) ?_
  refine st (asg rfl) ?_
  refine st (asg rfl) ?_
  refine en fun a w e' hf => ?_
  replace hT := hT.ext e'
  replace e := e.tr e'
  replace B4 := B4.ext e'
  replace B6 := B6.ext e'
  replace B7 := B7.ext e'
  replace B8 := B8.ext e'
  refine tl_nil ?_
  rw [hq] at hf
  replace hf := hf.kp [0, 2, 4, 6, 7, 8, 9, 10]
  repeat refine seq ?_
  refine regn 2 hf (by decide +kernel) ?_
  refine st (mv rfl) ?_
  refine st ((notp rfl).eq (congrArg Value.bool (show (!(none : Option Nat).isSome) = true from rfl))) ?_
  refine en fun a w e' hf => ?_
  replace hT := hT.ext e'
  replace e := e.tr e'
  replace B4 := B4.ext e'
  replace B6 := B6.ext e'
  replace B7 := B7.ext e'
  replace B8 := B8.ext e'
  refine tl_nil ?_
  repeat refine seq ?_
  refine ifc hf rfl (fun _ => ?_) (fun h => by cases h)
  repeat refine seq ?_
  refine regn 5 hf (by decide +kernel) ?_
  refine st ((ldW T39 rfl B7 rfl).eq ((rfl : _ = setV s))) ?_
  refine st ((ldW T39 rfl B4 rfl).eq ((rfl : _ = setV th))) ?_
  refine st (call2 (A := E (setV (s &&& ~~~th))) En24 rfl rfl (fun v u w he h h' => by cases h; cases h'; exact minus_spec s th w)) ?_
  refine st (mv rfl) ?_
  refine st (call2 (A := E (setV (del (s &&& ~~~th) x))) En37 rfl rfl (fun v u w he h h' => by cases h; cases h'; exact without_spec (s &&& ~~~th) x w)) ?_
  refine en fun a w e' hf => ?_
  replace hT := hT.ext e'
  replace e := e.tr e'
  replace B4 := B4.ext e'
  replace B6 := B6.ext e'
  replace B7 := B7.ext e'
  replace B8 := B8.ext e'
  clear e'
  refine tl_stW T39 hf rfl rfl (wordsC_one _) B6 rfl (setC_size _) fun w hg hsz B6 hf => ?_
  replace e := e.gr hg (by omega); clear hg
  refine tl_nil ?_
  refine wret ?_
  try simp only [Exit.then, Exit.inBlock]
  refine retc rfl T39 hf rfl B6 (setC_size _) ?_
  exact ⟨_, rfl, e, by rw [hre, ← hR, reF_none hq]; rfl⟩
 | some k =>
  have hkb := minOf_mem hq
  have hk : k < 1024 := bit_lt hkb
  have hkd : ¬ d.getLsbD k = true := fun h => by
   rw [BitVec.getLsbD_and, BitVec.getLsbD_not, h] at hkb
   simp at hkb
  have hlt : card d < card (ins d (k : Int)) := card_lt (z := k) (fun i hi => (bit_ins d hk).2 (.inl hi)) ((bit_ins d hk).2 (.inr rfl)) hkd
  have hle : card (ins d (k : Int)) ≤ K := by rw [hK]; exact card_le_n fun i hi => bit_lt hi
  obtain ⟨f, rfl⟩ : ∃ f, r0 = f + 1 := ⟨r0 - 1, by omega⟩
  have hst := reF_some (nb := lkS l) hq f
  rw [hst] at hR
  have hwk : (Lit.int .i64 (k : Int)).wf = true := wf64 (by omega) (by omega)
  repeat refine seq ?_
  refine reg 11 Mix.mix hf (by decide +kernel) ?_
  refine st ((ldW T39 rfl B7 rfl).eq ((rfl : _ = setV s))) ?_
  refine st ((ldW T39 rfl B4 rfl).eq ((rfl : _ = setV th))) ?_
  refine st (call2 (A := E (setV (s &&& th))) En51 rfl rfl (fun v u w he h h' => by cases h; cases h'; exact inter_spec s th w)) ?_
  refine st ((ldW T39 rfl B8 rfl).eq ((rfl : _ = setV d))) ?_
  refine st (call2 (A := E (setV (s &&& th &&& ~~~d))) En24 rfl rfl (fun v u w he h h' => by cases h; cases h'; exact minus_spec (s &&& th) d w)) ?_
  refine st (call1 (A := minP (s &&& th &&& ~~~d)) En50 rfl (fun v w he h => by cases h; exact min_spec _ w (hT.ext he))) ?_
  refine st (mv rfl) ?_
  refine st (ext_ rfl rfl) ?_
  refine st (ext_ rfl rfl) ?_
  refine st (asg rfl) ?_
  refine st (asg rfl) ?_
  refine en fun a w e' hf => ?_
  replace hT := hT.ext e'
  replace e := e.tr e'
  replace B4 := B4.ext e'
  replace B6 := B6.ext e'
  replace B7 := B7.ext e'
  replace B8 := B8.ext e'
  refine tl_nil ?_
  rw [hq] at hf
  replace hf := hf.upd 9 rfl (B := E (I (k : Int))) (fun v h => h)
  replace hf := hf.kp [0, 2, 4, 6, 7, 8, 9, 10]
  repeat refine seq ?_
  refine regn 2 hf (by decide +kernel) ?_
  refine st (mv rfl) ?_
  refine st ((notp rfl).eq (congrArg Value.bool (show (!(some k).isSome) = false from rfl))) ?_
  refine en fun a w e' hf => ?_
  replace hT := hT.ext e'
  replace e := e.tr e'
  replace B4 := B4.ext e'
  replace B6 := B6.ext e'
  replace B7 := B7.ext e'
  replace B8 := B8.ext e'
  refine tl_nil ?_
  repeat refine seq ?_
  refine ifc hf rfl (fun h => by cases h) (fun _ => ?_)
  refine wskip ?_
  try simp only [Exit.then, Exit.inBlock, ↓reduceIte]
  replace hf := hf.kp [0, 2, 4, 6, 7, 8, 9]
  repeat refine seq ?_
  refine regn 3 hf (by decide +kernel) ?_
  refine st ((ldW T39 rfl B8 rfl).eq ((rfl : _ = setV d))) ?_
  refine st (mv rfl) ?_
  refine st (call2 (A := E (setV (ins d (k : Int)))) En28 rfl rfl (fun v u w he h h' => by cases h; cases h'; exact with_spec d (k : Int) w)) ?_
  refine en fun a w e' hf => ?_
  replace hT := hT.ext e'
  replace e := e.tr e'
  replace B4 := B4.ext e'
  replace B6 := B6.ext e'
  replace B7 := B7.ext e'
  replace B8 := B8.ext e'
  clear e'
  refine tl_stW T39 hf rfl rfl (wordsC_one _) B8 rfl (setC_size _) fun w hg hsz B8 hf => ?_
  replace e := e.gr hg (by omega); replace hT := hT.gr hg (by omega); replace B4 := B4.gr hg (by omega); replace B6 := B6.gr hg (by omega); replace B7 := B7.gr hg (by omega); clear hg
  refine tl_nil ?_
  replace hf := hf.kp [0, 2, 4, 6, 7, 8, 9]
  repeat refine seq ?_
  refine regn 5 hf (by decide +kernel) ?_
  refine st ((ldW T39 rfl B7 rfl).eq ((rfl : _ = setV s))) ?_
  refine st (mv rfl) ?_
  refine st (mv rfl) ?_
  refine st (lkM (l := l) (i := (k : Int)) Tryz.underlying66 zero_set (isR rfl) rfl hwk) ?_
  refine st (call2 (A := E (setV (s ||| lkS l (k : Int)))) En52 rfl rfl (fun v u w he h h' => by cases h; cases h'; exact union_spec s _ w)) ?_
  refine en fun a w e' hf => ?_
  replace hT := hT.ext e'
  replace e := e.tr e'
  replace B4 := B4.ext e'
  replace B6 := B6.ext e'
  replace B7 := B7.ext e'
  replace B8 := B8.ext e'
  clear e'
  refine tl_stW T39 hf rfl rfl (wordsC_one _) B7 rfl (setC_size _) fun w hg hsz B7 hf => ?_
  replace e := e.gr hg (by omega); replace hT := hT.gr hg (by omega); replace B4 := B4.gr hg (by omega); replace B6 := B6.gr hg (by omega); replace B8 := B8.gr hg (by omega); clear hg
  refine tl_nil ?_
  replace hf := hf.kp [0, 2, 4, 6, 7, 8]
  try simp only [Exit.then, Exit.inBlock, ↓reduceIte]
  exact ⟨f, by omega, s ||| lkS l (k : Int), ins d (k : Int), by omega, hR, hf, e, hT, B4, B6, B7, B8⟩
end Go.Mono

namespace Go.Mono
open Go Go.Proofs Go.RowKit
inductive Via (nb : Int → BS) (th : BS) (v : Nat) : Nat → Prop
 | one {u : Nat} : (nb (v : Int)).getLsbD u = true → Via nb th v u
 | step {t u : Nat} : Via nb th v t → th.getLsbD t = true → (nb (t : Int)).getLsbD u = true → Via nb th v u
section
variable {nb : Int → BS} {S T th : BS} {a b t u v x : Nat}
theorem reF_via : ∀ (f : Nat) (s d : BS), 1024 ≤ f + card d → (∀ u, s.getLsbD u = true → Via nb th v u) → (∀ u, (nb (v : Int)).getLsbD u = true → s.getLsbD u = true) →
  (∀ t, d.getLsbD t = true → ∀ u, (nb (t : Int)).getLsbD u = true → s.getLsbD u = true) → ∀ u, (reF nb th f s d).getLsbD u = true ↔ Via nb th v u := by
 intro f
 induction f with
 | zero =>
  intro s d hc h1 h2 h3 u
  have hall : ∀ t, t < 1024 → d.getLsbD t = true := fun t ht => Classical.byContradiction fun hn => by
   have h4 := card_lt (S := d) (T := ins d (t : Int)) (z := t) (fun i hi => (bit_ins d ht).2 (.inl hi)) ((bit_ins d ht).2 (.inr rfl)) hn
   have h5 : card (ins d (t : Int)) ≤ 1024 := card_le_n fun i hi => bit_lt hi
   omega
  refine ⟨h1 u, fun h => ?_⟩
  induction h with
  | one h => exact h2 _ h
  | step _ ht hu ih => exact h3 _ (hall _ (bit_lt ht)) _ hu
 | succ f ih =>
  intro s d hc h1 h2 h3 u
  cases hq : minOf (s &&& th &&& ~~~d) with
  | none =>
   rw [reF_none hq]
   refine ⟨h1 u, fun h => ?_⟩
   induction h with
   | one h => exact h2 _ h
   | @step t u _ ht hu ih =>
    have hz := minOf_none.1 hq
    have hd : d.getLsbD t = true := Classical.byContradiction fun hn => by
     have h5 : (s &&& th &&& ~~~d).getLsbD t = true := (bit_diff _ _ _).2 ⟨(bit_and _ _ _).2 ⟨ih, ht⟩, hn⟩
     rw [hz] at h5; exact bit_zero _ h5
    exact h3 _ hd _ hu
  | some k =>
   have hkb := (bit_diff _ _ _).1 (minOf_mem hq)
   have hst := (bit_and _ _ _).1 hkb.1
   have hk := bit_lt hst.1
   rw [reF_some hq]
   refine ih _ _ ?_ ?_ ?_ ?_ u
   ·have := card_lt (S := d) (T := ins d (k : Int)) (z := k) (fun i hi => (bit_ins d hk).2 (.inl hi)) ((bit_ins d hk).2 (.inr rfl)) hkb.2
    omega
   ·intro u hu
    rcases (bit_or _ _ _).1 hu with h | h
    ·exact h1 u h
    ·exact .step (h1 k hst.1) hst.2 h
   ·exact fun u hu => (bit_or _ _ _).2 (.inl (h2 u hu))
   ·intro t ht u hu
    rcases (bit_ins d hk).1 ht with h | rfl
    ·exact (bit_or _ _ _).2 (.inl (h3 t h u hu))
    ·exact (bit_or _ _ _).2 (.inr hu)
theorem reB_bit (hv : v < 1024) : (reB nb th (v : Int)).getLsbD u = true ↔ Via nb th v u ∧ ¬th.getLsbD u = true ∧ u ≠ v := by
 rw [reB, bit_del _ hv, bit_diff, reF_via 1024 (nb v) 0 (Nat.le_add_right _ _) (fun u h => .one h) (fun u h => h) (fun t h => absurd h (bit_zero t))]
 exact and_assoc
theorem Via.mono (h : Via nb S a b) (hs : ∀ i, S.getLsbD i = true → T.getLsbD i = true) : Via nb T a b := by
 induction h with
 | one h => exact .one h
 | step _ ht hu ih => exact .step ih (hs _ ht) hu
theorem Via.cat (h : Via nb S a t) (ht : S.getLsbD t = true) (k : Via nb S t b) : Via nb S a b := by
 induction k with
 | one k => exact .step h ht k
 | step _ h1 h2 ih => exact .step ih h1 h2
theorem Via.symm (hs : ∀ i j : Nat, (nb (i : Int)).getLsbD j = true → (nb (j : Int)).getLsbD i = true) (h : Via nb S a b) : Via nb S b a := by
 induction h with
 | one h => exact .one (hs _ _ h)
 | step _ ht hu ih => exact Via.cat (.one (hs _ _ hu)) ht ih
theorem Via.ins (hx : x < 1024) : Via nb (Mono.ins S (x : Int)) a b ↔ Via nb S a b ∨ (Via nb S a x ∧ Via nb S x b) := by
 constructor
 ·intro h
  induction h with
  | one h => exact .inl (.one h)
  | @step t u _ ht hu ih =>
   rcases (bit_ins S hx).1 ht with hS | rfl
   ·rcases ih with h | ⟨h1, h2⟩
    ·exact .inl (.step h hS hu)
    ·exact .inr ⟨h1, .step h2 hS hu⟩
   ·rcases ih with h | ⟨h1, _⟩
    ·exact .inr ⟨h, .one hu⟩
    ·exact .inr ⟨h1, .one hu⟩
 ·have hm : ∀ i, S.getLsbD i = true → (Mono.ins S (x : Int)).getLsbD i = true := fun i hi => (bit_ins S hx).2 (.inl hi)
  rintro (h | ⟨h1, h2⟩)
  ·exact h.mono hm
  ·exact (h1.mono hm).cat ((bit_ins S hx).2 (.inr rfl)) (h2.mono hm)
theorem Via.inn {V : BS} (hV : ∀ i j : Nat, (nb (i : Int)).getLsbD j = true → V.getLsbD j = true) (h : Via nb S a b) : V.getLsbD b = true := by
 cases h with
 | one h => exact hV _ _ h
 | step _ _ hu => exact hV _ _ hu
end
def rn (nb : Int → BS) (S : BS) (v : Nat) : Int := (card (reB nb S (v : Int)) : Nat)
def widL (nb : Int → BS) : BS → List Nat → Int
 | _, [] => -1
 | S, v :: r => max (rn nb S v) (widL nb (ins S (v : Int)) r)
def rsS (nb : Int → BS) (R : BS → Int) (S : BS) (best : Int) (v : Nat) : Int := if rn nb S v < best then min best (max (rn nb S v) (R (ins S (v : Int)))) else best
def rsF (nb : Int → BS) (all : BS) : Nat → BS → Int
 | 0, _ => -1
 | f + 1, S => (elems (all &&& ~~~S)).foldl (rsS nb (rsF nb all f) S) 12
def rsR (nb : Int → BS) (all S : BS) : Int := rsF nb all (card (all &&& ~~~S)) S
section
variable {nb : Int → BS} {all S : BS} {v : Nat}
theorem diff_ins (hv : v < 1024) (i : Nat) : (all &&& ~~~(ins S (v : Int))).getLsbD i = true ↔ (all &&& ~~~S).getLsbD i = true ∧ i ≠ v := by
 rw [bit_diff, bit_diff, bit_ins S hv]
 exact ⟨fun ⟨h1, h2⟩ => ⟨⟨h1, fun h => h2 (.inl h)⟩, fun h => h2 (.inr h)⟩, fun ⟨⟨h1, h2⟩, h3⟩ => ⟨h1, fun h => h.elim h2 h3⟩⟩
theorem card_diff (hv : (all &&& ~~~S).getLsbD v = true) : card (all &&& ~~~S) = card (all &&& ~~~(ins S (v : Int))) + 1 := by
 have hv' := bit_lt hv
 have h1 : card (ins (0 : BS) (v : Int)) = 1 := card_one (p := v) fun i => by
  rw [bit_ins 0 hv']; exact ⟨fun h => h.elim (fun h => absurd h (bit_zero i)) id, .inr⟩
 rw [card_add (S := all &&& ~~~(ins S (v : Int))) (T := ins 0 (v : Int)) (U := all &&& ~~~S), h1]
 ·intro i
  rw [diff_ins hv', bit_ins 0 hv']
  constructor
  ·intro h
   by_cases hi : i = v
   ·exact .inr (.inr hi)
   ·exact .inl ⟨h, hi⟩
  ·rintro (h | h | rfl)
   ·exact h.1
   ·exact absurd h (bit_zero i)
   ·exact hv
 ·rintro i ⟨h1, h2⟩
  rw [diff_ins hv'] at h1
  rw [bit_ins 0 hv'] at h2
  rcases h2 with h | h
  ·exact bit_zero i h
  ·exact h1.2 h
theorem foldl_cong {α β : Type} {f g : β → α → β} : ∀ {l : List α} {z : β}, (∀ a ∈ l, ∀ b, f b a = g b a) → l.foldl f z = l.foldl g z
 | [], _, _ => rfl
 | a :: l, z, h => by rw [List.foldl_cons, List.foldl_cons, h a (by simp), foldl_cong fun a ha => h a (by simp [ha])]
theorem rsR_step (hv : (all &&& ~~~S).getLsbD v = true) : rsR nb all S = (elems (all &&& ~~~S)).foldl (rsS nb (rsR nb all) S) 12 := by
 unfold rsR
 rw [card_diff hv, rsF]
 refine foldl_cong fun a ha b => ?_
 have ha := (mem_elems.1 ha).2
 have h1 := card_diff hv
 have h2 := card_diff ha
 unfold rsS
 rw [show card (all &&& ~~~(ins S (v : Int))) = card (all &&& ~~~(ins S (a : Int))) by omega]
theorem rsR_all (h : ∀ i, ¬(all &&& ~~~S).getLsbD i = true) : rsR nb all S = -1 := by
 have : card (all &&& ~~~S) = 0 := Classical.byContradiction fun hn => by
  have := card_zero
  have h0 : (all &&& ~~~S) = 0 := set_ext' fun k => ⟨fun hk => absurd hk (h k), fun hk => absurd hk (bit_zero k)⟩
  rw [h0] at hn; exact hn this
 rw [rsR, this]; rfl
theorem rsS_le {R : BS → Int} {b : Int} : rsS nb R S b v ≤ b ∧ rsS nb R S b v ≤ max (rn nb S v) (R (ins S (v : Int))) := by
 unfold rsS; split <;> omega
theorem rsS_is {R : BS → Int} {b : Int} : rsS nb R S b v = b ∨ rsS nb R S b v = max (rn nb S v) (R (ins S (v : Int))) := by
 unfold rsS; split <;> omega
theorem foldS_le {R : BS → Int} : ∀ (l : List Nat) (b : Int), l.foldl (rsS nb R S) b ≤ b ∧ ∀ v ∈ l, l.foldl (rsS nb R S) b ≤ max (rn nb S v) (R (ins S (v : Int)))
 | [], b => ⟨Int.le_refl _, fun v hv => by cases hv⟩
 | x :: l, b => by
  obtain ⟨h1, h2⟩ := foldS_le (R := R) l (rsS nb R S b x)
  have h3 := rsS_le (nb := nb) (S := S) (v := x) (R := R) (b := b)
  rw [List.foldl_cons]
  refine ⟨by omega, fun v hv => ?_⟩
  rcases List.mem_cons.1 hv with rfl | hv
  ·omega
  ·exact h2 v hv
theorem foldS_is {R : BS → Int} : ∀ (l : List Nat) (b : Int), l.foldl (rsS nb R S) b = b ∨ ∃ v ∈ l, l.foldl (rsS nb R S) b = max (rn nb S v) (R (ins S (v : Int)))
 | [], b => .inl rfl
 | x :: l, b => by
  rw [List.foldl_cons]
  rcases foldS_is (R := R) l (rsS nb R S b x) with h | ⟨v, hv, h⟩
  ·rw [h]
   rcases rsS_is (nb := nb) (S := S) (v := x) (R := R) (b := b) with h' | h'
   ·exact .inl h'
   ·exact .inr ⟨x, by simp, h'⟩
  ·exact .inr ⟨v, by simp [hv], h⟩
theorem rsR_le (hv : (all &&& ~~~S).getLsbD v = true) : rsR nb all S ≤ max (rn nb S v) (rsR nb all (ins S (v : Int))) := by
 rw [rsR_step hv]
 exact (foldS_le _ _).2 v (mem_elems.2 ⟨bit_lt hv, hv⟩)
theorem rsR_bd (S : BS) : -1 ≤ rsR nb all S ∧ rsR nb all S ≤ 12 := by
 by_cases hex : ∃ v, (all &&& ~~~S).getLsbD v = true
 ·obtain ⟨v, hv⟩ := hex
  rw [rsR_step hv]
  have h1 := (foldS_le (nb := nb) (S := S) (R := rsR nb all) (elems (all &&& ~~~S)) 12).1
  rcases foldS_is (nb := nb) (S := S) (R := rsR nb all) (elems (all &&& ~~~S)) 12 with h | ⟨u, _, h⟩
  ·omega
  ·have : 0 ≤ rn nb S u := by unfold rn; omega
   omega
 ·rw [rsR_all fun i hi => hex ⟨i, hi⟩]; omega
def Sml (nb : Int → BS) (all : BS) : Prop := ∀ (S : BS) (v : Nat), all.getLsbD v = true → rn nb S v < 12
theorem sml_of {V : BS} (hV : ∀ i j : Nat, (nb (i : Int)).getLsbD j = true → V.getLsbD j = true) (hc : card V ≤ 12) (ha : ∀ i, all.getLsbD i = true → V.getLsbD i = true) : Sml nb all := fun S v hv => by
 have hv' := bit_lt hv
 have h1 : card (reB nb S (v : Int)) < card V := card_lt (z := v) (fun i hi => ((reB_bit hv').1 hi).1.inn hV) (ha v hv) fun h => ((reB_bit hv').1 h).2.2 rfl
 unfold rn; omega
theorem rsR_ex (hs : Sml nb all) : ∀ (n : Nat) (S : BS), card (all &&& ~~~S) = n → rsR nb all S < 12 ∧ -1 ≤ rsR nb all S ∧ ∀ v, (all &&& ~~~S).getLsbD v = true → ∃ v, (all &&& ~~~S).getLsbD v = true ∧ rsR nb all S = max (rn nb S v) (rsR nb all (ins S (v : Int))) := by
 intro n
 induction n with
 | zero =>
  intro S hc
  have hno : ∀ i, ¬(all &&& ~~~S).getLsbD i = true := fun i hi => by have := card_pos hi; omega
  rw [rsR_all hno]
  exact ⟨by omega, by omega, fun v hv => absurd hv (hno v)⟩
 | succ n ih =>
  intro S hc
  have hex : ∃ v, (all &&& ~~~S).getLsbD v = true := Classical.byContradiction fun hn => by
   have h0 : (all &&& ~~~S) = 0 := set_ext' fun k => ⟨fun hk => absurd ⟨k, hk⟩ hn, fun hk => absurd hk (bit_zero k)⟩
   rw [h0, card_zero] at hc; cases hc
  obtain ⟨v, hv⟩ := hex
  have lt : ∀ v, (all &&& ~~~S).getLsbD v = true → max (rn nb S v) (rsR nb all (ins S (v : Int))) < 12 := fun v hv => by
   have h1 := hs S v ((bit_diff _ _ _).1 hv).1
   have h2 := (ih (ins S (v : Int)) (by have := card_diff hv; omega)).1
   omega
  have hm : rsR nb all S < 12 := by have := rsR_le (nb := nb) hv; have := lt v hv; omega
  have hw : ∃ v, (all &&& ~~~S).getLsbD v = true ∧ rsR nb all S = max (rn nb S v) (rsR nb all (ins S (v : Int))) := by
   rcases foldS_is (nb := nb) (S := S) (R := rsR nb all) (elems (all &&& ~~~S)) 12 with h | ⟨u, hu, h⟩
   ·rw [← rsR_step hv] at h; omega
   ·rw [← rsR_step hv] at h; exact ⟨u, (mem_elems.1 hu).2, h⟩
  refine ⟨hm, ?_, fun _ _ => hw⟩
  obtain ⟨u, _, h⟩ := hw
  have : 0 ≤ rn nb S u := by unfold rn; omega
  omega
theorem rsR_low : ∀ (l : List Nat) (S : BS), l.Nodup → (∀ i, i ∈ l ↔ (all &&& ~~~S).getLsbD i = true) → rsR nb all S ≤ widL nb S l
 | [], S, _, h => by rw [rsR_all fun i hi => by have := (h i).2 hi; cases this]; exact Int.le_refl _
 | v :: r, S, hn, h => by
  have hv := (h v).1 (by simp)
  have hv' := bit_lt hv
  obtain ⟨h1, h2⟩ := List.nodup_cons.1 hn
  have h3 := rsR_low r (ins S (v : Int)) h2 fun i => by
   rw [diff_ins hv', ← h i, List.mem_cons]
   constructor
   ·intro hi; exact ⟨.inr hi, fun e => h1 (e ▸ hi)⟩
   ·rintro ⟨rfl | hi, hne⟩
    ·exact absurd rfl hne
    ·exact hi
  have h4 := rsR_le (nb := nb) hv
  rw [widL]; omega
def nxt (nb : Int → BS) (all : BS) (W : Int) (S : BS) : Option Nat := (elems (all &&& ~~~S)).find? fun v => decide (max (rn nb S v) (rsR nb all (ins S (v : Int))) ≤ W)
def oL (o : Option Nat) (g : Nat → List Nat) : List Nat := match o with
 | none => []
 | some k => g k
def grF (nb : Int → BS) (all : BS) (W : Int) : Nat → BS → List Nat
 | 0, _ => []
 | f + 1, S => oL (nxt nb all W S) fun v => v :: grF nb all W f (ins S (v : Int))
theorem grF_none {W : Int} {f : Nat} (h : nxt nb all W S = none) : grF nb all W (f + 1) S = [] := by
 show oL (nxt nb all W S) _ = _
 rw [h]; rfl
theorem grF_some {W : Int} {f v : Nat} (h : nxt nb all W S = some v) : grF nb all W (f + 1) S = v :: grF nb all W f (ins S (v : Int)) := by
 show oL (nxt nb all W S) _ = _
 rw [h]; rfl
theorem nxt_some {W : Int} {v : Nat} (h : nxt nb all W S = some v) : (all &&& ~~~S).getLsbD v = true ∧ rn nb S v ≤ W ∧ rsR nb all (ins S (v : Int)) ≤ W := by
 have h1 := List.find?_some h
 have h2 := List.mem_of_find?_eq_some h
 simp only [decide_eq_true_eq] at h1
 exact ⟨(mem_elems.1 h2).2, by omega, by omega⟩
theorem nxt_is {W : Int} (hs : Sml nb all) (hW : rsR nb all S ≤ W) {u : Nat} (hu : (all &&& ~~~S).getLsbD u = true) : ∃ v, nxt nb all W S = some v := by
 obtain ⟨v, hv, h⟩ := (rsR_ex hs _ S rfl).2.2 u hu
 cases hq : nxt nb all W S with
 | some v => exact ⟨v, rfl⟩
 | none =>
  have := List.find?_eq_none.1 hq v (mem_elems.2 ⟨bit_lt hv, hv⟩)
  simp only [decide_eq_true_eq] at this
  omega
theorem grF_ok {W : Int} (hs : Sml nb all) (hW0 : -1 ≤ W) : ∀ (f : Nat) (S : BS), card (all &&& ~~~S) = f → rsR nb all S ≤ W →
  (grF nb all W f S).Nodup ∧ (∀ i, i ∈ grF nb all W f S ↔ (all &&& ~~~S).getLsbD i = true) ∧ widL nb S (grF nb all W f S) ≤ W := by
 intro f
 induction f with
 | zero =>
  intro S hc hW
  have hno : ∀ i, ¬(all &&& ~~~S).getLsbD i = true := fun i hi => by have := card_pos hi; omega
  exact ⟨List.nodup_nil, fun i => ⟨fun h => (nomatch h), fun h => absurd h (hno i)⟩, hW0⟩
 | succ f ih =>
  intro S hc hW
  have hex : ∃ v, (all &&& ~~~S).getLsbD v = true := Classical.byContradiction fun hn => by
   have h0 : (all &&& ~~~S) = 0 := set_ext' fun k => ⟨fun hk => absurd ⟨k, hk⟩ hn, fun hk => absurd hk (bit_zero k)⟩
   rw [h0, card_zero] at hc; cases hc
  obtain ⟨u, hu⟩ := hex
  obtain ⟨v, hv⟩ := nxt_is hs hW hu
  obtain ⟨h1, h2, h3⟩ := nxt_some hv
  have hv' := bit_lt h1
  have hcd := card_diff h1
  obtain ⟨k1, k2, k3⟩ := ih (ins S (v : Int)) (by omega) h3
  rw [grF_some hv]
  refine ⟨List.nodup_cons.2 ⟨fun h => ((diff_ins hv' v).1 ((k2 v).1 h)).2 rfl, k1⟩, fun i => ?_, ?_⟩
  ·rw [List.mem_cons, k2 i, diff_ins hv']
   constructor
   ·rintro (rfl | h)
    ·exact h1
    ·exact h.1
   ·intro h
    by_cases hi : i = v
    ·exact .inl hi
    ·exact .inr ⟨h, hi⟩
  ·rw [widL]; omega
end
end Go.Mono

namespace Go.Mono
open Go Go.Proofs Go.RowKit Go.ChangeShapes Go.WideShapes

theorem cellsInt : Tryz.prog.cellsOf 3 = 1 := by kernel_rfl
def ofW (f : Nat → BitVec 64) : Nat → BS
 | 0 => 0
 | n + 1 => ofW f n ||| ((f n).setWidth 1024 <<< (64 * n))
theorem word_shl (x : BitVec 64) (n i : Nat) (hi : i < 16) (hn : n < 16) : word (x.setWidth 1024 <<< (64 * n)) i = if i = n then x else 0 := by
 refine BitVec.eq_of_getLsbD_eq fun j hj => ?_
 rw [word_bit _ _ _ hj]
 have e : (x.setWidth 1024 <<< (64 * n)).getLsbD (64 * i + j) = (decide (64 * i + j < 1024) && !decide (64 * i + j < 64 * n) && (x.setWidth 1024).getLsbD (64 * i + j - 64 * n)) := BitVec.getLsbD_shiftLeft _ _
 rw [e, BitVec.getLsbD_setWidth]
 by_cases h : i = n
 ·subst h
  have h1 : 64 * i + j - 64 * i = j := by omega
  have h2 : 64 * i + j < 1024 := by omega
  have h3 : ¬ 64 * i + j < 64 * i := by omega
  have h4 : j < 1024 := by omega
  simp only [h1, h2, h3, h4, decide_true, decide_false, Bool.not_false, Bool.true_and, if_true]
 ·rw [if_neg h]
  by_cases h3 : i < n
  ·have : 64 * i + j < 64 * n := by omega
   simp [this]
  ·have h5 : 64 ≤ 64 * i + j - 64 * n := by omega
   have : x.getLsbD (64 * i + j - 64 * n) = false := BitVec.getLsbD_of_ge _ _ h5
   simp [this]
theorem ofW_word (f : Nat → BitVec 64) : ∀ n, n ≤ 16 → ∀ i, i < 16 → word (ofW f n) i = if i < n then f i else 0
 | 0, _, i, hi => by rw [ofW, word_zero]; simp
 | n + 1, hn, i, hi => by
  rw [ofW, word_or, ofW_word f n (by omega) i hi, word_shl _ _ _ hi (by omega)]
  by_cases h1 : i = n
  ·subst h1; simp
  ·by_cases h2 : i < n
   ·rw [if_pos h2, if_neg h1, if_pos (by omega)]; simp
   ·rw [if_neg h2, if_neg h1, if_neg (by omega)]; simp
theorem wordsC_ofW (f : Nat → BitVec 64) : setC (ofW f 16) = wordsC f := wordsC_congr fun i hi => by rw [ofW_word f 16 (Nat.le_refl _) i hi, if_pos hi]

section
variable {H : Type} {enc : TypeId × Value → H} {w : World} {base : Nat} {spare : Nat → Bool} {held : Bool}
end
end Go.Mono

namespace Go.Mono
open Go Go.RowKit
structure RelS (S : World → World → Prop) (J : World → Prop) : Prop where
 rel : RelJ S
 st : ∀ {w w'}, Ext w w' → J w → J w'
def GOpS (P : Program) (ops : Array Oper) (w0 : World) (S : World → World → Prop) (J : World → Prop) (L : Env) (o : Oper) (A : VA) : Prop :=
 ∀ (a : Act) w, S w0 w → J w → (∀ x ∈ o.op.operands, ∀ B, opd L x = some B → B.p (a.eval x) w) → (∀ d B, gdst ops o = some d → look L d = some B → B.p (a.eval (.tmp d)) w) →
  if Region.wanted o (yielded ops a.tmps) then OpR P o a.eval w (fun v w' => S w w' ∧ J w' ∧ A.p v w') else A.p undef w
structure XOpS (P : Program) (w0 : World) (S : World → World → Prop) (J : World → Prop) (L : Env) (o : Oper) (A : VA) : Prop where
 out : ∀ ρ w, S w0 w → J w → (∀ x ∈ o.op.operands, ∀ B, opd L x = some B → B.p (ρ x) w) → OpR P o ρ w (fun v w' => S w w' ∧ J w' ∧ A.p v w')
def RegS (P : Program) (ops : Array Oper) (w0 : World) (S : World → World → Prop) (J : World → Prop) : List Oper → (Env → Prop) → Env → Prop
 | [], K, L => K L
 | o :: rest, K, L => ∃ A, GOpS P ops w0 S J L o A ∧ StJ S A ∧ RegS P ops w0 S J rest K (push o.dst A L)
section
variable {P : Program} {ops : Array Oper} {Q : Exit → Act → World → Prop} {w0 : World} {n : Nat} {ds : List Deferred} {r : Option Nat}
theorem RegS_As {S : World → World → Prop} {J : World → Prop} {K : Env → Prop} : ∀ (M : List Oper) (k : Nat) (L : Env), (∀ j, j < M.length → ops[k + j]? = M[j]?) → RegS P ops w0 S J M K L →
  ∃ As : Nat → VA, (∀ j o, j < M.length → ops[k + j]? = some o → GOpS P ops w0 S J (envF ops L As k j) o (As j) ∧ StJ S (As j)) ∧ K (envF ops L As k M.length)
 | [], k, L, _, h => ⟨fun _ => Any, fun j o hj => by simp at hj, h⟩
 | o :: M, k, L, hM, ⟨A, hA, hst, hr⟩ => by
  have h0 : ops[k]? = some o := by simpa using hM 0 (by simp)
  have hd : dstOf ops k = o.dst := by simp [dstOf, h0]
  obtain ⟨As, h1, h2⟩ := RegS_As M (k + 1) (push o.dst A L) (fun j hj => by
   have := hM (j + 1) (by simpa using hj)
   rw [show k + 1 + j = k + (j + 1) by omega]
   simpa using this) hr
  refine ⟨consFY A As, ?_, ?_⟩
  ·intro j o' hj ho'
   cases j with
   | zero =>
    rw [Nat.add_zero, h0] at ho'
    obtain rfl := Option.some.inj ho'
    exact ⟨hA, hst⟩
   | succ j =>
    rw [envFY_cons, hd]
    exact h1 j o' (by simpa using hj) (by rw [show k + 1 + j = k + (j + 1) by omega]; exact ho')
  ·rw [List.length_cons, envFY_cons, hd]
   exact h2
structure InvS (ops : Array Oper) (m n : Nat) (ds : List Deferred) (S : World → World → Prop) (J : World → Prop) (w0 : World) (L : Env) (As : Nat → VA) (listed : Array Bool) (a : Act) (w : World) : Prop where
 ext : S w0 w
 jw : J w
 size : a.tmps.size = n
 defers : a.defers = ds
 hL : ∀ t A, look L t = some A → (∀ j, j < m → dstOf ops j ≠ some t) → A.p (a.eval (.tmp t)) w
 hA : ∀ i, i < m → listed.getD i false = true → ∀ d, dstOf ops i = some d → (As i).p (a.eval (.tmp d)) w

theorem wpAny_mainS {S : World → World → Prop} {J : World → Prop} (hR : RelS S J) {m : Nat} {L : Env} {As : Nat → VA} (hm : m ≤ ops.size) (hchk : ∀ i, i < m → chkOp ops m n i = true) (hchk2 : ∀ i, m ≤ i → i < ops.size → chkTail ops i = true)
  (hops : ∀ j o, j < m → ops[j]? = some o → GOpS P ops w0 S J (envF ops L As 0 j) o (As j) ∧ StJ S (As j)) (hLav : StJL S L)
  (hend : ∀ a w, S w0 w → J w → FrD n ds a w (envF ops L As 0 m) → wpListIn (FW r) 0 P ops Q (ops.toList.drop m) a w) :
  ∀ (c : Nat) (listed : Array Bool) (a : Act) (w : World), (List.range m).countP (fun i => !listed.getD i true) = c → listed.size = ops.size →
   (∀ j, m ≤ j → j < ops.size → listed.getD j true = false) → LD ops listed → InvS ops m n ds S J w0 L As listed a w → wpAnyIn (FW r) 0 P .any ops Q (c + (ops.size - m)) listed a w
 | 0, listed, a, w, hc, hsz, hun, hld, hi => by
  have hall : ∀ j, j < m → listed.getD j false = true := by
   intro j hj
   have := (List.countP_eq_zero.1 hc) j (List.mem_range.2 hj)
   have hjl : j < listed.size := by omega
   simpa [hjl] using this
  rw [Nat.zero_add]
  refine wpAny_tail m hchk2 (ops.size - m) m (by omega) (Nat.le_refl _) listed a w hall hun hsz hld (hend a w hi.ext hi.jw ⟨hi.size, hi.defers, fun t A ht => ?_⟩)
  rcases look_envF L As t A m ht with ⟨j, hj, hd, rfl⟩ | ⟨hn, hl⟩
  ·exact hi.hA j hj (hall j hj) t hd
  ·exact hi.hL t A hl hn
 | c + 1, listed, a, w, hc, hsz, hun, hld, hi => by
  have facts : ∀ i o, i < m → ops[i]? = some o → (∀ e ∈ o.after, Region.binds .any e = true → e.on < i) ∧ (∀ d, o.dst = some d → d < n) ∧
    (∀ t, t ∈ tmpsOf o ∨ gdst ops o = some t → ∀ j, j < m → dstOf ops j = some t → bnd ops i j = true) ∧ (∀ j, j < m → j ≠ i → ∀ d, o.dst = some d → dstOf ops j ≠ some d) := by
   intro i o hlt ho
   have := hchk i hlt
   simp only [chkOp, ho, Bool.and_eq_true, Array.all_eq_true_iff_forall_mem, Bool.or_eq_true, Bool.not_eq_true', List.all_eq_true, List.mem_range, List.mem_append, Option.mem_toList] at this
   obtain ⟨⟨⟨h1, h2⟩, h3⟩, h4⟩ := this
   refine ⟨fun e he hb => ?_, fun d hd => ?_, fun t ht j hj hd => ?_, fun j hj hne d hd hd' => ?_⟩
   ·rcases h1 e he with h | h
    ·rw [hb] at h; cases h
    ·simpa [Nat.blt_eq] using h
   ·simpa [hd, Nat.blt_eq] using h2
   ·have := h3 t ht j hj
    rcases this with h | h
    ·rw [hd] at h; simp at h
    ·exact h
   ·have := h4 j hj
    rcases this with h | h
    ·exact hne (Nat.eq_of_beq_eq_true h)
    ·rw [hd, hd'] at h; simp at h
  have prog : ∃ i, i < m ∧ listed.getD i true = false ∧ ∀ j, j < i → listed.getD j true = true := by
   have hex : ∃ i, i < m ∧ listed.getD i true = false := by
    have hpos : 0 < (List.range m).countP (fun i => !listed.getD i true) := by omega
    obtain ⟨i, hi, hb⟩ := List.countP_pos_iff.1 hpos
    exact ⟨i, List.mem_range.1 hi, by simpa using hb⟩
   obtain ⟨i, hlt, hb⟩ := hex
   induction i using Nat.strongRecOn with
   | _ i ih =>
    by_cases h : ∃ j, j < i ∧ listed.getD j true = false
    ·obtain ⟨j, hj, hjb⟩ := h
     exact ih j hj (by omega) hjb
    ·refine ⟨i, hlt, hb, fun j hj => ?_⟩
     cases hjb : listed.getD j true with
     | true => rfl
     | false => exact absurd ⟨j, hj, hjb⟩ h
  obtain ⟨i0, hi0, hu0, hbelow⟩ := prog
  have hready : i0 ∈ Region.ready .any ops listed := by
   have ho : ops[i0]? = some (ops[i0]'(by omega)) := by simp
   refine mem_ready.2 ⟨hu0, _, ho, fun e he hb => ?_⟩
   have hlt := (facts i0 _ hi0 ho).1 e he hb
   have := hbelow _ hlt
   have hjl : e.on < listed.size := by omega
   simpa [hjl] using this
  rw [show c + 1 + (ops.size - m) = (c + (ops.size - m)) + 1 by omega]
  refine ⟨fun h0 => (by rw [h0] at hready; cases hready), fun i hir => ?_⟩
  obtain ⟨hu, o, ho, hall⟩ := mem_ready.1 hir
  have hilt : i < ops.size := (Array.getElem?_eq_some_iff.1 ho).1
  have listed_of_bnd : ∀ j, bnd ops i j = true → listed.getD j false = true := by
   intro j hb
   simp only [bnd, ho] at hb
   obtain ⟨e, he, hb⟩ := Array.any_eq_true'.1 hb
   simp only [Bool.and_eq_true] at hb
   have := hall e he hb.1
   rwa [Nat.eq_of_beq_eq_true hb.2] at this
  have him : i < m := by
   rcases Nat.lt_or_ge i m with h | h
   ·exact h
   ·have hc := hchk2 i h hilt
    simp only [chkTail, ho, Bool.and_eq_true, List.all_eq_true, List.mem_range] at hc
    have := cov hld 12 i i0 (hc.2 i0 (by omega)) (fun o' ho' e he hb => by
     rw [ho] at ho'
     obtain rfl := Option.some.inj ho'
     exact hall e he hb)
    rw [not_listed hu0] at this
    cases this
  obtain ⟨f1, f2, f3, f4⟩ := facts i o him ho
  have byLook : ∀ t, (t ∈ tmpsOf o ∨ gdst ops o = some t) → ∀ B, look (envF ops L As 0 i) t = some B → B.p (a.eval (.tmp t)) w := by
   intro t ht B hB
   rcases look_envF L As t B i hB with ⟨j, hj, hd, rfl⟩ | ⟨hn, hl⟩
   ·exact hi.hA j (by omega) (listed_of_bnd j (f3 t ht j (by omega) hd)) t hd
   ·refine hi.hL t B hl fun j hj hd => ?_
    have hb := f3 t ht j hj hd
    simp only [bnd, ho] at hb
    obtain ⟨e, he, hb⟩ := Array.any_eq_true'.1 hb
    simp only [Bool.and_eq_true] at hb
    have hlt := f1 e he hb.1
    rw [Nat.eq_of_beq_eq_true hb.2] at hlt
    exact hn j hlt hd
  have hg := (hops i o him ho).1 a w hi.ext hi.jw (fun x hx B hB => by
   cases x with
   | tmp t => exact byLook t (.inl (List.mem_filterMap.2 ⟨.tmp t, by simpa using hx, rfl⟩)) B hB
   | const v => simp [opd] at hB; subst hB; rfl
   | global g => simp [opd] at hB; subst hB; rfl
   | func f => simp [opd] at hB; subst hB; rfl) (fun d B hd hB => byLook d (.inr hd) B hB)
  have hdst : dstOf ops i = o.dst := by simp [dstOf, ho]
  have step : ∀ v w', S w w' → J w' → (As i).p v w' → wpAnyIn (FW r) 0 P .any ops Q (c + (ops.size - m)) (listed.setIfInBounds i true) (a.put o.dst v) w' := by
   intro v w' hx hj' hv
   refine wpAny_mainS hR hm hchk hchk2 hops hLav hend c _ _ _ ?_ (by simpa using hsz) ?_ ?_ ?_
   ·have := countP_upd m (fun j => !listed.getD j true) (fun j => !(listed.setIfInBounds i true).getD j true) i him (by simp only [hu, Bool.not_false])
     (by
       have hjl : i < listed.size := by omega
       simp [hjl]) (fun j hj => by simp only [getD_set_ne true (Ne.symm hj)])
    omega
   ·intro j hj hj'
    rw [getD_set_ne true (by omega)]
    exact hun j hj hj'
   ·exact hld.set fun o' ho' e he hb => by
     rw [ho] at ho'
     obtain rfl := Option.some.inj ho'
     exact hall e he hb
   ·refine ⟨hR.rel.tr hi.ext hx, hj', by simp [hi.size], by simp [hi.defers], fun t A ht hn => ?_, fun j hj hl d hd => ?_⟩
    ·have h0 := hLav.av t A ht _ _ _ hx (hi.hL t A ht hn)
     cases hod : o.dst with
     | none => exact h0
     | some d =>
      have : d ≠ t := fun e => hn i him (by rw [hdst, hod, e])
      rw [eval_put_ne this]
      exact h0
    ·by_cases hji : j = i
     ·subst hji
      rw [hdst] at hd
      rw [hd, eval_put_same (by rw [hi.size]; exact f2 d hd)]
      exact hv
     ·have hl' : listed.getD j false = true := by rwa [getD_set_ne false (Ne.symm hji)] at hl
      have h0 := (hops j (ops[j]'(by omega)) hj (by simp)).2.av _ _ _ hx (hi.hA j hj hl' d hd)
      cases hod : o.dst with
      | none => exact h0
      | some d' =>
       have : d' ≠ d := fun e => f4 j hj hji d' hod (by rw [hd, e])
       rw [eval_put_ne this]
       exact h0
  unfold wpOpIn
  simp only [ho]
  split
  ·rename_i hw
   rw [if_pos hw] at hg
   exact (hg.wp fun v w' hv => step v w' hv.1 hv.2.1 hv.2.2)
  ·rename_i hw
   rw [if_neg hw] at hg
   exact ⟨fun _ _ => trivial, step undef w (hR.rel.ext (Ext.rfl' _)) hi.jw hg⟩
theorem regS {id : Nat} {ops : Array Oper} {L : Env} {a : Act} {w : World} (m : Nat) (S : World → World → Prop) (J : World → Prop) (hR : RelS S J) (hJ : J w) (hmix : P.follows .mixedOrders = true) (hf : FrD n ds a w L) [hL : StJL S L] (hchk : chk ops m n = true)
  (h : RegS P ops w S J (ops.toList.take m) (fun L' => ∀ a' w', S w w' → J w' → FrD n ds a' w' L' → wpListIn (FW r) 0 P ops Q (ops.toList.drop m) a' w') L) : (Code.region id ops true).wpIn (FW r) 0 P Q a w := by
 simp only [chk, Bool.and_eq_true, List.all_eq_true, List.mem_range, Bool.or_eq_true, Nat.ble_eq] at hchk
 obtain ⟨⟨hm, h1⟩, h2⟩ := hchk
 refine wpIn_region_any hmix ?_
 have hlen : (ops.toList.take m).length = m := by simp; omega
 obtain ⟨As, hAs, hK⟩ := RegS_As (ops := ops) (ops.toList.take m) 0 L (fun j hj => by
  rw [hlen] at hj
  rw [Nat.zero_add, List.getElem?_take, if_pos hj]; simp) h
 rw [hlen] at hK hAs
 have hext : Ext w { w with drawn := w.drawn + 1 } := Ext.drew w
 have := wpAny_mainS (P := P) (ops := ops) (Q := Q) (w0 := w) (n := n) (ds := ds) (m := m) (S := S) (J := J) (r := r) (L := L) (As := As) hR hm h1 (fun i hi hi' => by
   rcases h2 i hi' with h | h
   ·simp only [Nat.blt_eq] at h; omega
   ·exact h) (fun j o hj ho => hAs j o hj (by simpa using ho)) hL (fun a w hx hF hf => hK a w hx hF hf) m
  (Array.replicate ops.size false) a { w with drawn := w.drawn + 1 } ?_ (by simp) ?_ ?_ ⟨hR.rel.ext hext, hR.st hext hJ, hf.size, hf.defers, fun t A ht _ => A.st _ _ _ hext (hf.val t A ht), fun i hi hl => ?_⟩
 ·rwa [show m + (ops.size - m) = ops.size by omega] at this
 ·have : (List.range m).countP (fun i => !(Array.replicate ops.size false).getD i true) = (List.range m).length := by
   refine List.countP_eq_length.2 fun i hi => ?_
   have := List.mem_range.1 hi
   have hlt : i < ops.size := by omega
   simp [hlt]
  simpa using this
 ·intro j _ hj
  simp [hj]
 ·intro i o hl
  have : (Array.replicate ops.size false).getD i false = false := by
   by_cases hlt : i < ops.size <;> simp [hlt]
  rw [this] at hl; cases hl
 ·have : (Array.replicate ops.size false).getD i false = false := by
   by_cases hlt : i < ops.size <;> simp [hlt]
  rw [this] at hl; cases hl
end
section
variable {P : Program} {w0 : World} {L : Env} {ty : TypeId} {pos : String} {aft : Array Edge}
variable {ops : Array Oper} {rest : List Oper} {K : Env → Prop} {A : VA} {op : Op} {dd : Nat} {S : World → World → Prop} {J : World → Prop}
theorem uf (hR : RelS S J) (h : ∀ w1, S w0 w1 → J w1 → OpC P w1 L ⟨some dd, op, ty, pos, aft, none⟩ A) [hA : StJ S A] (k : RegS P ops w0 S J rest K ((dd, A) :: L)) : RegS P ops w0 S J (⟨some dd, op, ty, pos, aft, none⟩ :: rest) K L :=
 ⟨A, fun a w h1 h2 hv _ => by
  simp only [Region.wanted, if_true]
  exact ((h w h1 h2).out _ w (Ext.rfl' w) hv).mono fun v w' ⟨e, k⟩ => ⟨hR.rel.ext e, hR.st e h2, k⟩, hA, k⟩
theorem ux {d : Option Nat} (h : XOpS P w0 S J L ⟨d, op, ty, pos, aft, none⟩ A) [hA : StJ S A] (k : RegS P ops w0 S J rest K (push d A L)) : RegS P ops w0 S J (⟨d, op, ty, pos, aft, none⟩ :: rest) K L :=
 ⟨A, fun a w h1 h2 hv _ => by
  simp only [Region.wanted, if_true]
  exact h.out _ w h1 h2 hv, hA, k⟩
theorem ue (h : K L) : RegS P ops w0 S J [] K L := h
theorem xcallS {dst : Option Tmp} {fo x : Operand} {id : FuncId} {caps al : Array Value} {u : Value} {tys : Array TypeId} {A : VA} (hf : Proofs.Enters P id) (hfo : opd L fo = some (E (.func (.func id) #[] caps))) (hx : opd L x = some (E u)) (ha : #[u] ++ caps = al)
  (h : ∀ w, S w0 w → J w → Calls P id al w (fun e w' => ∃ v, e = .returned v ∧ S w w' ∧ J w' ∧ A.p v w')) :
  XOpS P w0 S J L ⟨dst, .call ⟨.value fo, #[x], tys⟩, ty, pos, aft, none⟩ A := by
 subst ha
 refine ⟨fun ρ w h1 h2 hv => ?_⟩
 have hfv : ρ fo = .func (.func id) #[] caps := hv fo (by simp [Op.operands, Call.operands]) _ hfo
 have hxv : ρ x = u := hv x (by simp [Op.operands, Call.operands]) _ hx
 have hrun : (execOp ρ ⟨dst, .call ⟨.value fo, #[x], tys⟩, ty, pos, aft, none⟩).run P w = .ok (.enter id (#[u] ++ caps)) w := by
  have h9 := hf (#[u] ++ caps) w
  simp [execOp, resolve, hfv, Deferred.ofValue, invoke, hxv, h9]
 simp only [OpR, hrun]
 exact (h w h1 h2).mono fun e w' ⟨r, k1, k2, k3, k4⟩ => ⟨r, k1, k2, k3, k4⟩
end
section tail
variable {P : Program} {L : Env} {ty : TypeId} {pos : String} {aft : Array Edge} {r : Option Nat} {ds : List Deferred}
variable {ops : Array Oper} {rest : List Oper} {Q : Exit → Act → World → Prop} {n : Nat} {a : Act} {w : World} {x y z : Operand} {α β : Type} [DecidableEq α]
theorem tl_insV {V : KV P α β} {t : TypeId} {bm nn : Nat} {l : List (α × β)} {i : α} {c : β} (ht : P.underlying t = some (.map V.k V.e)) (hf : FrD n ds a w L) [hL : AvL bm L] (hx : opd L x = some (E (.map (some bm))))
  (hy : opd L y = some (E (V.kv i))) (hz : opd L z = some (E (V.mv c))) (hM : MpR V w bm nn l) (hn : nn < maxLen) (hi : V.ok i) (hc : V.okv c)
  (kk : ∀ w', w.grownBy w' (some bm) → MpR V w' bm (nn + 1) (putP l i c) → FrD n ds a w' L → wpListIn (FW r) 0 P ops Q rest a w') :
  wpListIn (FW r) 0 P ops Q (⟨none, .insert t x y z, ty, pos, aft, none⟩ :: rest) a w :=
 wpListIn_plain rfl fun K hK => by
  have hxv : a.eval x = .map (some bm) := hf.opd x _ hx
  have hyv : a.eval y = V.kv i := hf.opd y _ hy
  have hzv : a.eval z = V.mv c := hf.opd z _ hz
  obtain ⟨w', h1, h2, h3⟩ := hM.put hi hc ht hn
  refine OpR.wp (R := fun _ w1 => w1 = w') ?_ ?_
  ·simp only [OpR, execOp, hxv, hyv, hzv, Sem.run_bind, h1, Result.andThen_ok, Sem.run_pure]
  ·rintro _ w1 rfl
   exact hK _ _ (kk _ h3 h2 (hf.gr h3))
end tail
end Go.Mono

namespace Go.Mono
open Go Go.Proofs Go.RowKit
theorem mapM_some {α β : Type} {f : α → Option β} : ∀ {l : List α}, (∀ x ∈ l, ∃ y, f x = some y) → ∃ ys, l.mapM f = some ys
 | [], _ => ⟨[], rfl⟩
 | x :: l, h => by
  obtain ⟨y, hy⟩ := h x (by simp)
  obtain ⟨ys, hys⟩ := mapM_some (l := l) fun z hz => h z (by simp [hz])
  exact ⟨y :: ys, by simp [List.mapM_cons, hy, hys]⟩
theorem mapM_each {α β : Type} {f : α → Option β} : ∀ {l : List α} {ys : List β}, l.mapM f = some ys → ∀ x ∈ l, ∃ y, f x = some y
 | [], _, _, x, hx => by cases hx
 | a :: l, ys, h, x, hx => by
  rw [List.mapM_cons] at h
  cases hfa : f a with
  | none => rw [hfa] at h; cases h
  | some y =>
   rw [hfa] at h
   cases hl : l.mapM f with
   | none => rw [hl] at h; cases h
   | some zs =>
    rcases List.mem_cons.1 hx with rfl | hx
    ·exact ⟨y, hfa⟩
    ·exact mapM_each hl x hx
theorem set_keyT : Tryz.prog.keyType 39 = true := by kernel_rfl
theorem set_cells : Tryz.prog.cellsOf 39 = 16 := by kernel_rfl
theorem u64_cells : Tryz.prog.cellsOf 37 = 1 := by kernel_rfl
theorem set_row : (39 : TypeId) < Tryz.prog.types.size := of_decide_eq_true (by kernel_rfl)
theorem set_at : Tryz.prog.keyTypeAt 2 39 = true := by kernel_rfl
theorem set_law : WideMaps.KeyLaw Tryz.prog 39 := by
 have h1 : 2 + 1 ≤ 10000 := by omega
 refine deep_law_laid laidOut (m := 2) h1 set_row set_at ?_
 rw [Tryz.underlying39]
theorem wf_word (x : BitVec 64) : (Lit.int .u64 (x.toNat : Int)).wf = true := by
 have h1 : IntKind.u64.min = 0 := by decide
 have h2 : IntKind.u64.max = 18446744073709551615 := by decide
 have := x.isLt
 simp only [Lit.wf, h1, h2, Bool.and_eq_true, decide_eq_true_eq]
 omega
theorem word_of {z : Int} (h : (Lit.int .u64 z).wf = true) : Value.int .u64 z = Mono.W (BitVec.ofNat 64 z.toNat) := by
 have h1 : IntKind.u64.min = 0 := by decide
 have h2 : IntKind.u64.max = 18446744073709551615 := by decide
 simp only [Lit.wf, h1, h2, Bool.and_eq_true, decide_eq_true_eq] at h
 rw [Mono.W, BitVec.toNat_ofNat, Nat.mod_eq_of_lt (by omega), Int.toNat_of_nonneg h.1]
theorem set_lits (S : BS) : ∃ L, Tryz.prog.keyLits (Tryz.prog.types.size + 1) 39 (setC S).toList = some L := by
 have hl : (setC S).toList.length = 16 := by rw [Array.length_toList, setC_size]
 have hm : ∃ ys, (List.range 16).mapM (fun i => Tryz.prog.keyLits Tryz.prog.types.size 37 (((setC S).toList.drop (i * Tryz.prog.cellsOf 37)).take (Tryz.prog.cellsOf 37))) = some ys := by
  refine mapM_some fun i hi => ?_
  have hi := List.mem_range.1 hi
  have hc : ((setC S).toList.drop (i * Tryz.prog.cellsOf 37)).take (Tryz.prog.cellsOf 37) = [W (word S i)] := by
   rw [u64_cells, Nat.mul_one]
   refine List.ext_getElem? fun j => ?_
   rw [List.getElem?_take]
   cases j with
   | zero =>
    rw [if_pos (by omega), List.getElem?_drop, Array.getElem?_toList]
    exact wordsC_get _ i hi
   | succ j => rw [if_neg (by omega)]; rfl
  rw [hc, ty_size']
  refine ⟨[.int .u64 ((word S i).toNat : Int)], ?_⟩
  unfold Program.keyLits
  simp only [Tryz.underlying37, W]
  rw [if_pos ⟨trivial, wf_word _⟩]
 obtain ⟨ys, hy⟩ := hm
 unfold Program.keyLits
 simp only [Tryz.underlying39]
 rw [if_pos (by rw [hl, set_cells]), hy]
 exact ⟨_, rfl⟩
theorem set_key (S : BS) : ∃ l, keyOf Tryz.prog 39 (setV S) = some l := by
 obtain ⟨L, hL⟩ := set_lits S
 refine ⟨.string (keyBytes L), ?_⟩
 have hf : (setV S).formed Tryz.prog 39 = true := by
  simp only [setV, Value.formed, Tryz.underlying39, set_cells, setC_size]; rfl
 unfold keyOf
 simp only [Tryz.underlying39]
 rw [set_keyT, hf]
 have hc : (setV S).cells = setC S := rfl
 rw [hc, hL]
 rfl
theorem set_inv {v : Value} {l : Lit} (h : keyOf Tryz.prog 39 v = some l) : ∃ S, v = setV S := by
 obtain ⟨xs, L, rfl, hL, _⟩ := keyOf_top (by simp [Tryz.underlying39]) h
 unfold Program.keyLits at hL
 simp only [Tryz.underlying39] at hL
 split at hL
 ·rename_i hlen
  rw [set_cells, Array.length_toList] at hlen
  cases hq : (List.range 16).mapM (fun i => Tryz.prog.keyLits Tryz.prog.types.size 37 ((xs.toList.drop (i * Tryz.prog.cellsOf 37)).take (Tryz.prog.cellsOf 37))) with
  | none => rw [hq] at hL; cases hL
  | some ys =>
   have hw : ∀ i, i < 16 → ∃ y : BitVec 64, xs[i]? = some (W y) := by
    intro i hi
    obtain ⟨y, hy⟩ := mapM_each hq i (List.mem_range.2 hi)
    obtain ⟨x, hx⟩ : ∃ x, xs[i]? = some x := ⟨_, Array.getElem?_eq_getElem (by omega)⟩
    have hc : (xs.toList.drop (i * Tryz.prog.cellsOf 37)).take (Tryz.prog.cellsOf 37) = [x] := by
     rw [u64_cells, Nat.mul_one]
     refine List.ext_getElem? fun j => ?_
     rw [List.getElem?_take]
     cases j with
     | zero =>
      rw [if_pos (by omega), List.getElem?_drop, Array.getElem?_toList]
      exact hx
     | succ j => rw [if_neg (by omega)]; rfl
    rw [hc, ty_size'] at hy
    unfold Program.keyLits at hy
    simp only [Tryz.underlying37] at hy
    cases x with
    | int q z =>
     simp only at hy
     split at hy
     ·rename_i hwf
      obtain ⟨rfl, h2⟩ := hwf
      exact ⟨_, by rw [hx, word_of h2]⟩
     ·cases hy
    | _ => cases hy
   obtain ⟨f, hf⟩ : ∃ f : Nat → BitVec 64, ∀ i, i < 16 → xs[i]? = some (W (f i)) := ⟨fun i => if h : i < 16 then Classical.choose (hw i h) else 0, fun i hi => by
    simp only
    rw [dif_pos hi]; exact Classical.choose_spec (hw i hi)⟩
   refine ⟨ofW f 16, ?_⟩
   rw [setV, wordsC_ofW]
   refine congrArg Value.agg (Array.ext_getElem? fun i => ?_)
   by_cases hi : i < 16
   ·rw [hf i hi, wordsC_get _ _ hi]
   ·rw [Array.getElem?_eq_none (by omega), Array.getElem?_eq_none (by rw [wordsC_size]; omega)]
 ·cases hL
noncomputable def kKV : KV Tryz.prog BS Int where
 k := 39
 e := 3
 kv := setV
 kl := fun S => Classical.choose (set_key S)
 ok := fun _ => True
 mv := fun c => .int .i64 c
 dv := fun c => .lit (.int .i64 c)
 okv := fun c => (Lit.int .i64 c).wf = true
 R := plainElem Tryz.prog 3
 K := Maps.Keyed.of_law set_law
 key := fun S _ => Classical.choose_spec (set_key S)
 keyInv := fun v l h => by
  obtain ⟨S, rfl⟩ := set_inv h
  exact ⟨S, trivial, rfl, Option.some.inj (h.symm.trans (Classical.choose_spec (set_key S)))⟩
 kvInj := fun x y h => setC_inj (by injection h)
 val := fun c hc => plainElem_int Tryz.underlying3 hc
 valInv := fun v y h => by
  obtain ⟨c, h1, h2, h3⟩ := plainElem_int_inv Tryz.underlying3 h
  exact ⟨c, h3, h1, h2⟩
 dvInj := fun c c' h => by cases h; rfl
end Go.Mono

namespace Go.Mono
open Go Go.Proofs Go.RowKit

theorem MpR.tight {P : Program} {α β : Type} {V : KV P α β} {w : World} {b n : Nat} {l : List (α × β)} (h : MpR V w b n l) : MpR V w b l.length l := by
 obtain ⟨es, ⟨es', clock, h1, h2, h3, h4⟩, hp, h5, h6⟩ := h
 refine ⟨es, ⟨es', clock, h1, h2, ?_, h4⟩, hp, h5, h6⟩
 have hf : ∀ m : List (Lit × DataW Unit), (m.foldr DataW.insert []).length = m.length := by
  intro m
  induction m with
  | nil => rfl
  | cons x m ih => rw [List.foldr_cons, (insert_perm x _).length_eq, List.length_cons, List.length_cons, ih]
 injection h4 with h4
 have h7 := congrArg List.length h4
 rw [hf, List.length_map] at h7
 have h8 : es'.toList.length = es'.size := Array.length_toList
 have h9 := hp.length_eq
 rw [List.length_map] at h9
 omega
theorem subsets_le : ∀ (k : Nat) (T : BS) (l : List BS), card T = k → l.Nodup → (∀ S ∈ l, ∀ i, S.getLsbD i = true → T.getLsbD i = true) → l.length ≤ 2 ^ k := by
 intro k
 induction k with
 | zero =>
  intro T l hc hn hs
  have hz : ∀ S ∈ l, S = 0 := fun S hS => set_ext' fun i => ⟨fun h => by have := card_pos (hs S hS i h); omega, fun h => absurd h (bit_zero i)⟩
  match l with
  | [] => simp
  | [_] => simp
  | a :: b :: r =>
   have h1 := hz a (by simp)
   have h2 := hz b (by simp)
   rw [h1, h2] at hn
   simp at hn
 | succ k ih =>
  intro T l hc hn hs
  have hex : ∃ v, T.getLsbD v = true := Classical.byContradiction fun hn => by
   have h0 : T = 0 := set_ext' fun k => ⟨fun hk => absurd ⟨k, hk⟩ hn, fun hk => absurd hk (bit_zero k)⟩
   rw [h0, card_zero] at hc; cases hc
  obtain ⟨v, hv⟩ := hex
  have hv' := bit_lt hv
  have e0 : T = T &&& ~~~(0 : BS) := set_ext' fun i => ⟨fun h => (bit_diff _ _ _).2 ⟨h, bit_zero i⟩, fun h => ((bit_diff _ _ _).1 h).1⟩
  have hT' : card (del T (v : Int)) = k := by
   have h1 := card_diff (all := T) (S := 0) (v := v) (by rw [← e0]; exact hv)
   have h2 : (T &&& ~~~(ins 0 (v : Int))) = del T (v : Int) := set_ext' fun i => by
    rw [diff_ins hv', ← e0, bit_del _ hv']
   rw [← e0, h2] at h1
   omega
  have hlen : l.length = (l.filter fun S => S.getLsbD v).length + (l.filter fun S => !S.getLsbD v).length := by
   clear hn hs
   induction l with
   | nil => rfl
   | cons a l ih2 => cases h : a.getLsbD v <;> simp [h, ih2] <;> omega
  have h1 : (l.filter fun S => !S.getLsbD v).length ≤ 2 ^ k := by
   refine ih (del T (v : Int)) _ hT' (hn.sublist List.filter_sublist) fun S hS i hi => ?_
   obtain ⟨q1, q2⟩ := List.mem_filter.1 hS
   refine (bit_del _ hv').2 ⟨hs S q1 i hi, fun e => ?_⟩
   rw [e] at hi
   rw [hi] at q2; cases q2
  have h2 : ((l.filter fun S => S.getLsbD v).map fun S => del S (v : Int)).length ≤ 2 ^ k := by
   refine ih (del T (v : Int)) _ hT' ?_ fun S hS i hi => ?_
   ·have hn2 := hn.sublist (List.filter_sublist (p := fun S => S.getLsbD v))
    have hm : ∀ S ∈ l.filter fun S => S.getLsbD v, S.getLsbD v = true := fun S hS => (List.mem_filter.1 hS).2
    generalize (l.filter fun S => S.getLsbD v) = m at hn2 hm
    clear hlen h1 hs hn
    induction m with
    | nil => exact List.nodup_nil
    | cons a m ihm =>
     rw [List.map_cons, List.nodup_cons]
     obtain ⟨p1, p2⟩ := List.nodup_cons.1 hn2
     refine ⟨fun h => ?_, ihm p2 fun S hS => hm S (by simp [hS])⟩
     obtain ⟨b, hb, hab⟩ := List.mem_map.1 h
     have hba : b = a := set_ext' fun i => by
      by_cases hi : i = v
      ·rw [hi]; simp [hm a (by simp), hm b (by simp [hb])]
      ·have h5 := congrArg (fun S : BS => S.getLsbD i = true) hab
       simp only [bit_del _ hv', eq_iff_iff] at h5
       exact ⟨fun h => (h5.1 ⟨h, hi⟩).1, fun h => (h5.2 ⟨h, hi⟩).1⟩
     rw [hba] at hb
     exact p1 hb
   ·obtain ⟨S', q1, rfl⟩ := List.mem_map.1 hS
    obtain ⟨q3, q4⟩ := (bit_del _ hv').1 hi
    exact (bit_del _ hv').2 ⟨hs S' (List.mem_filter.1 q1).1 i q3, q4⟩
  rw [List.length_map] at h2
  rw [Nat.pow_succ]; omega
def Mm (nb : Int → BS) (all : BS) (bm : Nat) (w : World) : Prop :=
 ∃ l, MpR kKV w bm l.length l ∧ (all, (-1 : Int)) ∈ l ∧ ∀ p ∈ l, p.2 = rsR nb all p.1 ∧ ∀ i, p.1.getLsbD i = true → all.getLsbD i = true
section
variable {nb : Int → BS} {all : BS} {bm : Nat} {w w' : World}
theorem Mm.lt (h : Mm nb all bm w) : bm < w.heap.size := by obtain ⟨l, h1, _⟩ := h; exact h1.lt
theorem Mm.pres (h : Mm nb all bm w) (hb : w'.heap[bm]? = w.heap[bm]?) : Mm nb all bm w' := by obtain ⟨l, h1, h2⟩ := h; exact ⟨l, h1.pres hb, h2⟩
theorem Mm.ext (h : Mm nb all bm w) (e : Ext w w') : Mm nb all bm w' := h.pres (e.block bm h.lt)
theorem Mm.gr {b : Nat} (h : Mm nb all bm w) (hg : w.grownBy w' (some b)) (hb : bm ≠ b) : Mm nb all bm w' := h.pres (hg.block bm h.lt (fun e => hb (by cases e; rfl)))
theorem Mm.kp {B : Nat} (h : Mm nb all bm w) (k : Kp B w w') (hb : bm < B) : Mm nb all bm w' := h.pres (k.same bm h.lt fun hh => by have := hh.1; omega)
end
abbrev ptr (b : Nat) : Value := .pointer (some ⟨b, 0, none⟩)
def restV (b1 b2 b3 b4 : Nat) : Value := .func (.func 48) #[] #[ptr b1, ptr b2, ptr b3, ptr b4]
structure RC (G : Nat → Prop) (l0 : List (Int × BS)) (all : BS) (b1 b2 b3 b4 bm : Nat) (nv : Value) (w : World) : Prop where
 t : Tab w
 k : Blk w b1 #[.map (some bm)] 109
 a : Blk w b2 (setC all) 39
 n : Blk w b3 #[nv] 66
 o : Blk w b4 #[restV b1 b2 b3 b4] 69
 nd : (Dv (mpE sKV 1024) G l0).p nv w
 g : G bm
 ne : 0 < bm ∧ b1 ≠ bm ∧ b2 ≠ bm ∧ b3 ≠ bm ∧ b4 ≠ bm
section
variable {G G' : Nat → Prop} {l0 : List (Int × BS)} {all : BS} {b1 b2 b3 b4 bm : Nat} {nv : Value} {w w' : World}
theorem RC.ch (h : RC G l0 all b1 b2 b3 b4 bm nv w) (c : Chg (fun b => b = bm) w w') : RC G l0 all b1 b2 b3 b4 bm nv w' := by
 obtain ⟨n0, n1, n2, n3, n4⟩ := h.ne
 exact ⟨h.t.ch c (by omega), h.k.ch c n1, h.a.ch c n2, h.n.ch c n3, h.o.ch c n4, Dv.ch h.nd c (fun b hb => by rw [hb]; exact h.g), h.g, h.ne⟩
theorem RC.ext (h : RC G l0 all b1 b2 b3 b4 bm nv w) (e : Ext w w') : RC G l0 all b1 b2 b3 b4 bm nv w' := h.ch (e.chg _)
theorem RC.gr (h : RC G l0 all b1 b2 b3 b4 bm nv w) {b : Nat} (hg : w.grownBy w' (some b)) (hG : G b) (hb : b ≠ b1 ∧ b ≠ b2 ∧ b ≠ b3 ∧ b ≠ b4) (h0 : 0 < b) : RC G l0 all b1 b2 b3 b4 bm nv w' :=
 ⟨h.t.gr hg h0, h.k.gr hg (fun e => by cases e; omega), h.a.gr hg (fun e => by cases e; omega), h.n.gr hg (fun e => by cases e; omega), h.o.gr hg (fun e => by cases e; omega), Dv.grN h.nd hg (fun c hc => by cases hc; exact hG), h.g, h.ne⟩
theorem RC.kp {B : Nat} (h : RC G l0 all b1 b2 b3 b4 bm nv w) (k : Kp B w w') (hG : ∀ b, Hole B b → G b) (hb : b1 < B ∧ b2 < B ∧ b3 < B ∧ b4 < B) : RC G l0 all b1 b2 b3 b4 bm nv w' :=
 ⟨h.t.kp k (by omega), h.k.kp k (fun hh => by have := hh.1; omega), h.a.kp k (fun hh => by have := hh.1; omega), h.n.kp k (fun hh => by have := hh.1; omega), h.o.kp k (fun hh => by have := hh.1; omega), Dv.ch h.nd k.chg hG, h.g, h.ne⟩
theorem RC.weak (h : RC G l0 all b1 b2 b3 b4 bm nv w) (hG : ∀ b, b < w.heap.size → G' b → G b) (hg : G' bm) : RC G' l0 all b1 b2 b3 b4 bm nv w :=
 ⟨h.t, h.k, h.a, h.n, h.o, Dv.weak h.nd hG, hg, h.ne⟩
theorem RC.lt (h : RC G l0 all b1 b2 b3 b4 bm nv w) : b1 < w.heap.size ∧ b2 < w.heap.size ∧ b3 < w.heap.size ∧ b4 < w.heap.size := ⟨h.k.lt, h.a.lt, h.n.lt, h.o.lt⟩
end
theorem Chg.kp {S : Nat → Prop} {B : Nat} {W w w' : World} (c : Chg S W w) (k : Kp B w w') (h : W.heap.size ≤ B) : Chg S W w' := c.tr2 k.chg fun b hb => .inr (by have := hb.1; omega)
theorem Kh.chg {B : Nat} {S : Nat → Prop} {w w' : World} (c : Chg S w w') (h : ∀ b, S b → ¬Hole B b) : Kh B w w' := ⟨c.size, fun b hb hh => c.block b hb fun hs => h b hs hh⟩
theorem Mm.put {nb : Int → BS} {all S : BS} {bm n : Nat} {l : List (BS × Int)} {w : World} (h : MpR kKV w bm n (putP l S (rsR nb all S))) (hal : (all, (-1 : Int)) ∈ l) (hl : ∀ p ∈ l, p.2 = rsR nb all p.1 ∧ ∀ i, p.1.getLsbD i = true → all.getLsbD i = true) (hne : S ≠ all) (hS : ∀ i, S.getLsbD i = true → all.getLsbD i = true) : Mm nb all bm w := by
 refine ⟨_, h.tight, ?_, ?_⟩
 ·rw [putP]
  exact List.mem_cons_of_mem _ (List.mem_filter.2 ⟨hal, by rw [decide_eq_false (show ¬(all, (-1 : Int)).1 = S from fun e => hne e.symm)]; rfl⟩)
 ·intro p hp
  rw [putP] at hp
  rcases List.mem_cons.1 hp with rfl | hp
  ·exact ⟨by dsimp only, hS⟩
  ·exact hl p (List.mem_filter.1 hp).1
theorem Mm.few {nb : Int → BS} {all : BS} {bm n : Nat} {l : List (BS × Int)} {w : World} (h : MpR kKV w bm n l) (hl : ∀ p ∈ l, p.2 = rsR nb all p.1 ∧ ∀ i, p.1.getLsbD i = true → all.getLsbD i = true) (hc : card all ≤ 12) : l.length ≤ 4096 := by
 obtain ⟨_, _, _, _, hp⟩ := h
 have h1 : (l.map (·.1)).Nodup := List.pairwise_map.2 (hp.imp fun h => h)
 have h2 := subsets_le (card all) all (l.map (·.1)) rfl h1 fun S hS i hi => by
  obtain ⟨p, hp, rfl⟩ := List.mem_map.1 hS
  exact (hl p hp).2 i hi
 rw [List.length_map] at h2
 exact Nat.le_trans h2 (Nat.le_trans (Nat.pow_le_pow_right (by omega) hc) (by decide))
end Go.Mono

namespace Go.Mono
open Go Go.Proofs Go.RowKit

structure RsJ (W : World) (l0 : List (Int × BS)) (all S : BS) (b1 b2 b3 b4 bm b5 b9 : Nat) (nv : Value) (s : List Nat) (w : World) : Prop where
 c : Chg (fun b => b = bm) W w
 r : RC (GB W fun b => b = bm) l0 all b1 b2 b3 b4 bm nv w
 m : Mm (lkS l0) all bm w
 p5 : Blk w b5 (setC S) 39
 p9 : Blk w b9 #[I (s.foldl (rsS (lkS l0) (rsR (lkS l0) all) S) 12)] 3
theorem RsJ.kp {W : World} {l0 : List (Int × BS)} {all S : BS} {b1 b2 b3 b4 bm b5 b9 : Nat} {nv : Value} {s : List Nat} {B : Nat} {w w' : World} (h : RsJ W l0 all S b1 b2 b3 b4 bm b5 b9 nv s w) (k : Kp B w w') (hW : W.heap.size ≤ B) (l4 : b1 < B ∧ b2 < B ∧ b3 < B ∧ b4 < B) (lm : bm < B) (l5 : b5 < B) (l9 : b9 < B) : RsJ W l0 all S b1 b2 b3 b4 bm b5 b9 nv s w' :=
 ⟨h.c.kp k hW, h.r.kp k (fun b hb => .inr (by have := hb.1; omega)) l4, h.m.kp k lm, h.p5.kp k (fun hh => by have := hh.1; omega), h.p9.kp k (fun hh => by have := hh.1; omega)⟩
theorem relMm (nb : Int → BS) (all : BS) (bm : Nat) : RelS (Chg fun b => b = bm) (Mm nb all bm) := ⟨RelJ.one bm, fun e h => h.ext e⟩
theorem restC_spec (l0 : List (Int × BS)) (all : BS) (b1 b2 b3 b4 bm : Nat) (nv : Value) (hc12 : card all ≤ 12) : ∀ (f : Nat) (S : BS) (W : World), card (all &&& ~~~S) = f → (∀ i, S.getLsbD i = true → all.getLsbD i = true) →
  RC (fun b => b = bm) l0 all b1 b2 b3 b4 bm nv W → Mm (lkS l0) all bm W →
  Calls Tryz.prog 48 #[setV S, ptr b1, ptr b2, ptr b3, ptr b4] W (fun e w' => ∃ v, e = .returned v ∧ Chg (fun b => b = bm) W w' ∧ Mm (lkS l0) all bm w' ∧ (E (I (rsR (lkS l0) all S))).p v w') := by
 intro f
 induction f using Nat.strongRecOn with
 | _ f ih =>
  intro S W hcf hSa R M
  have hT0 := R.t.lt
  obtain ⟨n0, n1, n2, n3, n4⟩ := R.ne
  obtain ⟨r1, r2, r3, r4⟩ := R.lt
  have rm := M.lt
  replace R := R.weak (G' := GB W fun b => b = bm) (fun b hb h => h.elim id fun h => absurd hb (Nat.not_lt.2 h)) (.inl rfl)
  refine enterM (args := [setV S, ptr b1, ptr b2, ptr b3, ptr b4]) (As := [E (setV S), E (ptr b1), E (ptr b2), E (ptr b3), E (ptr b4)]) Tryz.func48 rfl Tryz.ntmps48 (Nat.le_of_ble_eq_true rfl) ?_ (fun a hf => ?_) (Nat.le_of_ble_eq_true rfl)
  ·exact argC rfl (argC rfl (argC rfl (argC rfl (argC rfl argZ))))
  dsimp only [params, Nat.reduceAdd] at hf
  have e := Ext.rfl' W
  repeat refine seq ?_
  refine regn0 ?_
  refine tl_box hf rfl (by decide) fun a b5 w v5 hv5 e' hb5 hs5 B5 hf => ?_
  have hle5 := Nat.le_trans e.size (Nat.le_of_eq hb5.symm)
  replace R := R.ext e'
  replace M := M.ext e'
  replace e := e.tr e'
  refine tl_as hf rfl (by decide) fun a hf => ?_
  refine tl_nil ?_
  cases hv5
  replace B5 : Blk w b5 (setC S) 39 := B5
  replace hf := hf.kp [1, 2, 3, 4, 5]
  obtain ⟨l, hM, hal, hl⟩ := id M
  repeat refine seq ?_
  refine regn 6 hf (by decide +kernel) ?_
  refine st (ld1 (v := .map (some bm)) T109 rfl R.k rfl) ?_
  refine st ((ldW T39 rfl B5 rfl).eq ((rfl : _ = setV S))) ?_
  refine st (hasM (V := kKV) (l := l) (N := l.length) (G := Go.Mono.G0) (i := S) (z := 0) Tryz.underlying109 (zero_of I3) (show (Lit.int .i64 0).wf = true by decide) (isE rfl ⟨[.map (some bm)], ⟨bm, l.length, rfl, fun h => h.elim, Nat.le_refl _, hM⟩, rfl⟩) rfl trivial) ?_
  refine st (mv rfl) ?_
  refine st (ext_ rfl rfl) ?_
  refine st (ext_ rfl rfl) ?_
  refine en fun a w e' hf => ?_
  replace R := R.ext e'
  replace M := M.ext e'
  replace e := e.tr e'
  replace B5 := B5.ext e'
  refine tl_as hf rfl (by decide) fun a hf => ?_
  refine tl_as hf rfl (by decide) fun a hf => ?_
  refine tl_nil ?_
  clear hM
  cases hk : l.any (fun p => decide (p.1 = S)) with
  | true =>
   rw [hk] at hf
   obtain ⟨v7, ⟨c0, rfl, q1, q2⟩, hf⟩ := hf.opn 7 rfl
   have hc0 : c0 = rsR (lkS l0) all S := by
    rw [List.any_eq_true] at hk
    obtain ⟨p, hp, hp2⟩ := hk
    have hp3 : p.1 = S := by simpa using hp2
    exact (hl _ (q1 ⟨p.2, by rw [← hp3]; exact hp⟩)).1
   repeat refine seq ?_
   refine regn 1 hf (by decide +kernel) ?_
   refine st (mv rfl) ?_
   refine en fun a w e' hf => ?_
   replace R := R.ext e'
   replace M := M.ext e'
   replace e := e.tr e'
   replace B5 := B5.ext e'
   refine tl_nil ?_
   repeat refine seq ?_
   refine ifc hf rfl (fun _ => ?_) (fun h => by cases h)
   repeat refine seq ?_
   refine regn 1 hf (by decide +kernel) ?_
   refine st (mv rfl) ?_
   refine en fun a w e' hf => ?_
   replace R := R.ext e'
   replace M := M.ext e'
   replace e := e.tr e'
   replace B5 := B5.ext e'
   refine tl_as hf rfl (by decide) fun a hf => ?_
   refine tl_nil ?_
   refine wret ?_
   try simp only [Exit.then, Exit.inBlock]
   refine ret1M (D := []) rfl hf rfl (Ds.nil _) ⟨_, rfl, e.chg _, M, by rw [← hc0]; rfl⟩
  | false =>
   rw [hk] at hf
   have hno : ∀ c, (S, c) ∉ l := fun c hc => by
    have := List.any_eq_false.1 hk _ hc
    simp at this
   have hne : S ≠ all := fun h => hno (-1) (by rw [h]; exact hal)
   clear hk hal hl
   repeat refine seq ?_
   refine regn 1 hf (by decide +kernel) ?_
   refine st (mv rfl) ?_
   refine en fun a w e' hf => ?_
   replace R := R.ext e'
   replace M := M.ext e'
   replace e := e.tr e'
   replace B5 := B5.ext e'
   refine tl_nil ?_
   repeat refine seq ?_
   refine ifc hf rfl (fun h => by cases h) (fun _ => ?_)
   refine wskip ?_
   try simp only [Exit.then, Exit.inBlock, ↓reduceIte]
   replace hf := hf.kp [1, 2, 3, 4, 5]
   repeat refine seq ?_
   refine regn0 ?_
   refine tl_alloc I3 hf (by decide) fun a b9 w e' hb9 hs9 B9 hf => ?_
   have hle9 := Nat.le_trans e.size (Nat.le_of_eq hb9.symm)
   have lt9_B5 := B5.lt
   replace R := R.ext e'
   replace M := M.ext e'
   replace e := e.tr e'
   replace B5 := B5.ext e'
   clear e'
   haveI hinr : ∀ G0, InR (GB W G0) (some b9) := fun G0 => InR.gb (by omega)
   refine tl_st1 T3 hf rfl rfl rfl B9 (by decide) fun w hg hsz B9 hf => ?_
   replace R := R.gr hg (.inr (by omega)) (by omega) (by omega)
   replace M := M.gr hg (by omega)
   replace e := e.gr hg (by omega)
   replace B5 := B5.gr hg (by omega)
   clear hg
   refine tl_nil ?_
   replace B9 : Blk w b9 #[I 12] 3 := B9
   replace hf := hf.kp [1, 2, 3, 4, 5, 9]
   obtain ⟨D, hD⟩ : ∃ D, D = all &&& ~~~S := ⟨_, rfl⟩
   repeat refine seq ?_
   refine regn 4 hf (by decide +kernel) ?_
   refine st ((ldW T39 rfl R.a rfl).eq ((rfl : _ = setV all))) ?_
   refine st ((ldW T39 rfl B5 rfl).eq ((rfl : _ = setV S))) ?_
   refine st (call2 (A := E (setV D)) En24 rfl rfl (fun v u w he h h' => by cases h; cases h'; rw [hD]; exact minus_spec all S w)) ?_
   refine st (call1 (A := SeqA 0 D) En25 rfl (fun v w' he h => by cases h; exact Calls.mono (all_spec _ w') (fun en w2 ⟨u, h1, h2, b', h3, h4, h5⟩ => ⟨u, h1, h2, b', Nat.zero_le _, h4, h5⟩))) ?_
   refine en fun a w e' hf => ?_
   replace R := R.ext e'
   replace M := M.ext e'
   replace e := e.tr e'
   replace B5 := B5.ext e'
   replace B9 := B9.ext e'
   refine tl_nil ?_
   obtain ⟨v23, ⟨b23, h23, rfl, BS⟩, hf⟩ := hf.fix 23 rfl
   replace hf := hf.kp [1, 2, 3, 4, 5, 9, 23]
   have hBW : W.heap.size ≤ w.heap.size := e.size
   have l5 := B5.lt
   have l9 := B9.lt
   have lm := M.lt
   have l4 := R.lt
   have n5 : b5 ≠ bm ∧ b9 ≠ bm ∧ b9 ≠ b5 ∧ W.heap.size ≤ b5 ∧ W.heap.size ≤ b9 := by omega
   repeat refine seq ?_
   refine blk ?_
   refine range_all3 (S := D) hf rfl BS (by decide) (fun s w1 => RsJ W l0 all S b1 b2 b3 b4 bm b5 b9 nv s w1) (fun _ _ => False) (fun s w1 h => h.r.t)
    ⟨e.chg _, R, M, B5, B9⟩ (fun s w1 w2 h hs k => h.kp k hBW l4 lm l5 l9) (fun _ _ _ h => h.elim) ?_ ?_ (fun _ _ _ _ _ _ h => h.elim)
   ·intro lp s x rest a1 w1 hs hJ hlw hf
    have hxD := (mem_elems.1 (show x ∈ elems D by rw [hs]; simp)).2
    rw [hD] at hxD
    have hx1024 := bit_lt hxD
    have hwx : (Lit.int .i64 (x : Int)).wf = true := wf64 (by omega) (by omega)
    have hcd := card_diff hxD
    have hSx : ∀ i, (ins S (x : Int)).getLsbD i = true → all.getLsbD i = true := fun i hi => ((bit_ins S hx1024).1 hi).elim (hSa i) fun h => by rw [h]; exact ((bit_diff _ _ _).1 hxD).1
    have hstep : (s ++ [x]).foldl (rsS (lkS l0) (rsR (lkS l0) all) S) 12 = rsS (lkS l0) (rsR (lkS l0) all) S (s.foldl (rsS (lkS l0) (rsR (lkS l0) all) S) 12) x := by rw [List.foldl_append]; rfl
    generalize hBz : w.heap.size = Bz at *
    refine regn0 ?_
    refine tl_as hf rfl (by decide) fun a hf => ?_
    refine tl_nil ?_
    simp only [Exit.then]
    refine ⟨Kh.rfl' _ _, fun w3 k3 hsz3 => ?_⟩
    have hJ3 := hJ.kp k3 hBW l4 lm l5 l9
    clear e R M B5 B9 BS
    replace hf := hf.pure w3
    obtain ⟨c, R, M, B5, B9⟩ := hJ3
    obtain ⟨best, hbest⟩ : ∃ best, best = s.foldl (rsS (lkS l0) (rsR (lkS l0) all) S) 12 := ⟨_, rfl⟩
    rw [← hbest] at B9 hstep
    have kh := Kh.rfl' Bz w3
    replace hf := hf.kp [1, 2, 3, 4, 5, 9, 10]
    repeat refine seq ?_
    refine blk ?_
    repeat refine seq ?_
    refine regn 5 hf (by decide +kernel) ?_
    refine st (ld1 (v := nv) T66 rfl R.n rfl) ?_
    refine st ((ldW T39 rfl B5 rfl).eq ((rfl : _ = setV S))) ?_
    refine st (mv rfl) ?_
    refine st (call3 (A := E (setV (reB (lkS l0) S (x : Int)))) En26 rfl rfl rfl (fun v u s w he h h' h'' => by cases h; cases h'; cases h''; exact reach_spec l0 S (x : Int) nv w (R.t.ext he) (VA.st _ _ _ _ he R.nd) hwx)) ?_
    refine st (call1 (A := E (I (rn (lkS l0) S x))) En27 rfl (fun v w he h => by cases h; exact len_spec _ w)) ?_
    refine en fun a w e' hf => ?_
    replace R := R.ext e'
    replace M := M.ext e'
    replace c := c.ext e'
    replace kh := kh.tr (Kh.ext e')
    replace B5 := B5.ext e'
    replace B9 := B9.ext e'
    refine tl_as hf rfl (by decide) fun a hf => ?_
    refine tl_nil ?_
    replace hf := hf.kp [1, 2, 3, 4, 5, 9, 10, 11]
    repeat refine seq ?_
    refine regn 3 hf (by decide +kernel) ?_
    refine st (mv rfl) ?_
    refine st (ld1 T3 rfl (by assumption) rfl) ?_
    refine st (lss rfl rfl) ?_
    refine en fun a w e' hf => ?_
    replace R := R.ext e'
    replace M := M.ext e'
    replace c := c.ext e'
    replace kh := kh.tr (Kh.ext e')
    replace B5 := B5.ext e'
    replace B9 := B9.ext e'
    refine tl_nil ?_
    repeat refine seq ?_
    refine ifc hf rfl (fun hb => ?_) (fun hb => ?_)
    ·have hlt : rn (lkS l0) S x < best := of_decide_eq_true hb
     clear hb
     obtain ⟨q0, q1, q2, q3, q4⟩ := R.ne
     replace hf := hf.kp [1, 2, 3, 4, 5, 9, 10, 11]
     repeat refine seq ?_
     refine regS 9 (Chg fun b => b = bm) (Mm (lkS l0) all bm) (relMm (lkS l0) all bm) M Mix.mix hf (by decide +kernel) ?_
     refine uf (relMm (lkS l0) all bm) (fun w1 h1 HJ1 => ld1 T3 rfl (B9.ch h1 n5.2.1) rfl) ?_
     refine uf (relMm (lkS l0) all bm) (fun w1 h1 HJ1 => mv rfl) ?_
     refine uf (relMm (lkS l0) all bm) (fun w1 h1 HJ1 => ld1 (v := restV b1 b2 b3 b4) T69 rfl (R.ch h1).o rfl) ?_
     refine uf (relMm (lkS l0) all bm) (fun w1 h1 HJ1 => (ldW T39 rfl (B5.ch h1 n5.1) (setC_size _)).eq ((rfl : _ = setV S))) ?_
     refine uf (relMm (lkS l0) all bm) (fun w1 h1 HJ1 => mv rfl) ?_
     refine uf (relMm (lkS l0) all bm) (fun w1 h1 HJ1 => call2 (A := E (setV (ins S (x : Int)))) En28 rfl rfl (fun v u w he h h' => by cases h; cases h'; exact with_spec S (x : Int) w)) ?_
     refine ux (xcallS (A := E (I (rsR (lkS l0) all (ins S (x : Int))))) En48 rfl rfl (by simp) (fun w h1 HJ1 => (ih (card (all &&& ~~~(ins S (x : Int)))) (by omega) (ins S (x : Int)) w rfl hSx ((R.ch h1).weak (fun b hb h => .inl h) rfl) HJ1))) ?_
     refine uf (relMm (lkS l0) all bm) (fun w1 h1 HJ1 => max2 rfl rfl) ?_
     refine uf (relMm (lkS l0) all bm) (fun w1 h1 HJ1 => (min2 rfl rfl).eq (congrArg I (show min best (max (rn (lkS l0) S x) (rsR (lkS l0) all (ins S (x : Int)))) = rsS (lkS l0) (rsR (lkS l0) all) S best x by rw [rsS, if_pos hlt]))) ?_
     refine ue ?_
     refine fun a w hc HF hf => ?_
     try dsimp only [push] at hf
     replace R := R.ch hc
     replace c := c.tr hc
     replace B5 := B5.ch hc n5.1
     replace B9 := B9.ch hc n5.2.1
     replace kh := kh.tr (Kh.chg hc fun b hb hh => by have := hh.1; omega)
     replace M := HF
     clear hc HF
     haveI hinr : ∀ G0, InR (GB W G0) (some b9) := fun G0 => InR.gb (by omega)
     refine tl_st1 T3 hf rfl rfl rfl B9 (by simp) fun w hg hsz B9 hf => ?_
     replace R := R.gr hg (.inr (by omega)) (by omega) (by omega)
     replace M := M.gr hg (by omega)
     replace c := c.gr hg (.inr (by omega))
     replace kh := kh.tr (Kh.gr hg (fun hh => by have := hh.1; omega))
     replace B5 := B5.gr hg (by omega)
     clear hg
     refine tl_nil ?_
     simp only [Exit.inBlock]
     exact ⟨⟨c, R, M, B5, by rw [hstep]; exact B9⟩, kh⟩
    ·have hlt : ¬ rn (lkS l0) S x < best := of_decide_eq_false hb
     refine wskip ?_
     simp only [Exit.inBlock]
     exact ⟨⟨c, R, M, B5, by rw [hstep, rsS, if_neg hlt]; exact B9⟩, kh⟩
   ·intro a' w' hf' hJ hsz hDn
    simp only [Exit.inBlock, ↓reduceIte, Exit.then]
    have hDs : Ds [w.heap.size] w' := (Ds.nil w').cons hDn (by simp)
    have hf : FrD 46 (marks [w.heap.size]) a' w' [(1, E (ptr b1)), (5, E (ptr b5)), (9, E (ptr b9))] := hf'.keep [1, 5, 9]
    have hDW : ∀ d ∈ [w.heap.size], W.heap.size ≤ d := fun d hd => by rw [List.mem_singleton] at hd; omega
    clear hf' e R M B5 B9 BS hDn
    obtain ⟨c, R, M, B5, B9⟩ := hJ
    have hbD : ¬ bm ∈ [w.heap.size] := fun h => by rw [List.mem_singleton] at h; omega
    generalize [w.heap.size] = D2 at *
    generalize w' = w at *
    have hex : ∃ v, (all &&& ~~~S).getLsbD v = true := Classical.byContradiction fun hn => hne (set_ext' fun i => ⟨hSa i, fun h => Classical.byContradiction fun hi => hn ⟨i, (bit_diff _ _ _).2 ⟨h, hi⟩⟩⟩)
    obtain ⟨u, hu⟩ := hex
    rw [hD, ← rsR_step hu] at B9
    obtain ⟨l, hM, hal, hl⟩ := M
    have hlen := Mm.few hM hl hc12
    repeat refine seq ?_
    refine regn 3 hf (by decide +kernel) ?_
    refine st (ld1 (v := .map (some bm)) T109 rfl R.k rfl) ?_
    refine st ((ldW T39 rfl B5 rfl).eq ((rfl : _ = setV S))) ?_
    refine st (ld1 T3 rfl B9 rfl) ?_
    refine en fun a w e' hf => ?_
    replace R := R.ext e'
    replace hM := hM.ext e'
    replace c := c.ext e'
    replace B5 := B5.ext e'
    replace B9 := B9.ext e'
    replace hDs := hDs.ext e'
    clear e'
    refine tl_mputV (V := kKV) (i := S) (c := rsR (lkS l0) all S) Tryz.underlying109 hf rfl rfl rfl hM (by simp only [maxLen]; omega) trivial ?_ fun w hg HM hf => ?_
    ·have := rsR_bd (nb := lkS l0) (all := all) S
     exact wf64 (by omega) (by omega)
    replace c := c.gr hg (.inl rfl); replace B9 := B9.gr hg (by omega); replace hDs := hDs.gr hg hbD
    clear hM R B5 hg
    have M := Mm.put HM hal hl hne hSa
    refine tl_nil ?_
    replace hf := hf.kp [9]
    repeat refine seq ?_
    refine regn 1 hf (by decide +kernel) ?_
    refine st (ld1 T3 rfl B9 rfl) ?_
    refine en fun a w e' hf => ?_
    replace c := c.ext e'
    replace M := M.ext e'
    replace B9 := B9.ext e'
    replace hDs := hDs.ext e'
    refine tl_as hf rfl (by decide) fun a hf => ?_
    refine tl_nil ?_
    refine wret ?_
    try simp only [Exit.then, Exit.inBlock]
    exact ret1M rfl hf rfl hDs ⟨_, rfl, c.tr2 (chg_shut D2 w) (fun b hb => .inr (hDW b hb)), M.pres (shut_heap D2 w bm hbD), rfl⟩
end Go.Mono

namespace Go.Mono
open Go Go.Proofs Go.RowKit
def RstA (N : Nat) (l0 : List (Int × BS)) (all : BS) : VA := ⟨fun v w => ∃ b1 b2 b3 b4 bm nv, v = restV b1 b2 b3 b4 ∧ N ≤ bm ∧ RC (fun b => b = bm) l0 all b1 b2 b3 b4 bm nv w ∧ Mm (lkS l0) all bm w,
 fun v w w' e ⟨b1, b2, b3, b4, bm, nv, h1, h2, h3, h4⟩ => ⟨b1, b2, b3, b4, bm, nv, h1, h2, h3.ext e, h4.ext e⟩⟩
theorem rest_spec {G : Nat → Prop} (l0 : List (Int × BS)) (all : BS) (v : Value) (W : World) (hT : Tab W) (h : (Dv (mpE sKV 1024) G l0).p v W) :
  Calls Tryz.prog 23 #[v, setV all] W (Post (RstA W.heap.size l0 all) W) := by
 have hv0 : (Dv (mpE sKV 1024) (GB W Go.Mono.G0) l0).p v W := Dv.toB (Dv.weak h fun b _ hb => hb.elim)
 have h1c : v.cells = #[v] := by
  obtain ⟨cs, ⟨b, n, h1, _⟩, h2⟩ := h
  subst h1
  have : v = .map (some b) := h2
  rw [this]; rfl
 have hT0 := hT.lt
 refine enter (args := [v, setV all]) (As := [E v, E (setV all)]) Tryz.func23 rfl Tryz.ntmps23 (Nat.le_of_ble_eq_true rfl) ?_ (fun a hf => ?_) (Nat.le_of_ble_eq_true rfl)
 rotate_left
 dsimp only [params, Nat.reduceAdd] at hf
 rotate_right
 ·exact arg2 rfl rfl
 have e := Ext.rfl' W
 repeat refine seq ?_
 refine regn0 ?_
 refine tl_box hf rfl (by decide) fun a b2 w v2 hv2 e' hb2 hs2 B2 hf => ?_
 have hle2 := Nat.le_trans e.size (Nat.le_of_eq hb2.symm)
 replace hT := hT.ext e'
 replace e := e.tr e'
 clear e'
 refine tl_box hf rfl (by decide) fun a b3 w v3 hv3 e' hb3 hs3 B3 hf => ?_
 have hle3 := Nat.le_trans e.size (Nat.le_of_eq hb3.symm)
 have lt3_B2 := B2.lt
 replace hT := hT.ext e'
 replace e := e.tr e'
 replace B2 := B2.ext e'
 refine tl_as hf rfl (by decide) fun a hf => ?_
 refine tl_nil ?_
 cases hv2
 cases hv3
 rw [h1c] at B2
 replace B3 : Blk w b3 (setC all) 39 := B3
 replace hf := hf.kp [2, 3]
 repeat refine seq ?_
 refine regn0 ?_
 refine tl_mkV kKV hf (by decide) fun a bm w e' hbm hsm HM hf => ?_
 replace e := e.tr e'
 replace hT := hT.ext e'
 replace B2 := B2.ext e'
 replace B3 := B3.ext e'
 clear e'
 have lm := HM.lt
 have hWm : W.heap.size ≤ bm := by have := e.size; omega
 have hNm : bm + 1 ≤ w.heap.size := lm
 refine tl_op hf (by decide) ((ldW T39 rfl B3 (setC_size _)).eq ((rfl : _ = setV all))) fun a w e' hf => ?_
 replace hT := hT.ext e'
 replace HM := HM.ext e'
 replace hNm := Nat.le_trans hNm e'.size
 replace e := e.tr e'
 replace B2 := B2.ext e'
 replace B3 := B3.ext e'
 clear e'
 refine tl_insV (V := kKV) (i := all) (c := -1) Tryz.underlying109 hf rfl rfl rfl HM (by decide) trivial (show (Lit.int .i64 (-1)).wf = true by decide) fun w hg HM hf => ?_
 replace e := e.gr hg (by omega); replace hT := hT.gr hg (by omega); replace B2 := B2.gr hg (by omega); replace B3 := B3.gr hg (by omega); replace hNm := Nat.le_trans hNm hg.size; clear hg
 refine tl_op hf (by decide) (mv rfl) fun a w e' hf => ?_
 replace hT := hT.ext e'
 replace HM := HM.ext e'
 replace hNm := Nat.le_trans hNm e'.size
 replace e := e.tr e'
 replace B2 := B2.ext e'
 replace B3 := B3.ext e'
 clear e'
 refine tl_alloc I109 hf (by decide) fun a b5 w e' hb5 hs5 B5 hf => ?_
 have hle5 := Nat.le_trans e.size (Nat.le_of_eq hb5.symm)
 have lo5_hNm := Nat.le_trans hNm (Nat.le_of_eq hb5.symm)
 have lt5_B2 := B2.lt
 have lt5_B3 := B3.lt
 replace hT := hT.ext e'
 replace HM := HM.ext e'
 replace hNm := Nat.le_trans hNm e'.size
 replace e := e.tr e'
 replace B2 := B2.ext e'
 replace B3 := B3.ext e'
 clear e'
 haveI hinr : ∀ G0, InR (GB W G0) (some b5) := fun G0 => InR.gb (by omega)
 refine tl_st1 T109 hf rfl rfl rfl B5 (by decide) fun w hg hsz B5 hf => ?_
 replace hT := hT.gr hg (by omega)
 replace HM := HM.gr hg (fun h => by cases h; omega)
 replace hNm := Nat.le_trans hNm hg.size
 replace e := e.gr hg (by omega)
 replace B2 := B2.gr hg (by omega)
 replace B3 := B3.gr hg (by omega)
 clear hg
 refine tl_nil ?_
 replace B5 : Blk w b5 #[.map (some bm)] 109 := B5
 replace hf := hf.kp [2, 3, 5]
 repeat refine seq ?_
 refine regn0 ?_
 refine tl_alloc I69 hf (by decide) fun a b6 w e' hb6 hs6 B6 hf => ?_
 have hle6 := Nat.le_trans e.size (Nat.le_of_eq hb6.symm)
 have lo6_hNm := Nat.le_trans hNm (Nat.le_of_eq hb6.symm)
 have lt6_B2 := B2.lt
 have lt6_B3 := B3.lt
 have lt6_B5 := B5.lt
 replace hT := hT.ext e'
 replace HM := HM.ext e'
 replace hNm := Nat.le_trans hNm e'.size
 replace e := e.tr e'
 replace B2 := B2.ext e'
 replace B3 := B3.ext e'
 replace B5 := B5.ext e'
 refine tl_nil ?_
 replace hf := hf.kp [2, 3, 5, 6]
 have nm : bm ≠ b2 ∧ bm ≠ b3 ∧ bm ≠ b5 ∧ bm ≠ b6 := by omega
 have hvv := fun (w : World) (e : Ext W w) => VA.st _ _ _ _ e hv0
 repeat refine seq ?_
 refine regn 1 hf (by decide +kernel) ?_
 refine st (makeF4 rfl rfl rfl rfl) ?_
 refine en fun a w e' hf => ?_
 replace hT := hT.ext e'
 replace HM := HM.ext e'
 replace hNm := Nat.le_trans hNm e'.size
 replace e := e.tr e'
 replace B2 := B2.ext e'
 replace B3 := B3.ext e'
 replace B5 := B5.ext e'
 replace B6 := B6.ext e'
 clear e'
 haveI hinr : ∀ G0, InR (GB W G0) (some b6) := fun G0 => InR.gb (by omega)
 refine tl_st1 T69 hf rfl rfl rfl B6 (by decide) fun w hg hsz B6 hf => ?_
 replace hT := hT.gr hg (by omega)
 replace HM := HM.gr hg (fun h => by cases h; omega)
 replace hNm := Nat.le_trans hNm hg.size
 replace e := e.gr hg (by omega)
 replace B2 := B2.gr hg (by omega)
 replace B3 := B3.gr hg (by omega)
 replace B5 := B5.gr hg (by omega)
 clear hg
 refine tl_nil ?_
 replace B6 : Blk w b6 #[restV b5 b3 b2 b6] 69 := B6
 replace hf := hf.kp [2, 3, 5, 6]
 repeat refine seq ?_
 refine regn 1 hf (by decide +kernel) ?_
 refine st (ld1 (v := restV b5 b3 b2 b6) T69 rfl B6 rfl) ?_
 refine en fun a w e' hf => ?_
 replace hT := hT.ext e'
 replace HM := HM.ext e'
 replace hNm := Nat.le_trans hNm e'.size
 replace e := e.tr e'
 replace B2 := B2.ext e'
 replace B3 := B3.ext e'
 replace B5 := B5.ext e'
 replace B6 := B6.ext e'
 refine tl_as hf rfl (by decide) fun a hf => ?_
 refine tl_nil ?_
 refine wret (ret1 rfl hf rfl ?_)
 rintro _ rfl
 refine ⟨_, rfl, e, b5, b3, b2, b6, bm, v, rfl, hWm, ⟨hT, B5, B3, B2, B6, Dv.weak (hvv w e) fun b hb hh => .inr (by rw [hh]; exact hWm), rfl, by omega⟩, ?_⟩
 have hp : putP ([] : List (BS × Int)) all (-1) = [(all, -1)] := rfl
 rw [hp] at HM
 refine ⟨_, HM.tight, List.mem_singleton.2 rfl, fun p hp => ?_⟩
 rw [List.mem_singleton.1 hp]
 refine ⟨?_, fun i h => h⟩
 exact (rsR_all fun i hi => ((bit_diff _ _ _).1 hi).2 ((bit_diff _ _ _).1 hi).1).symm
end Go.Mono

namespace Go.MonoD
open Go Go.RowKit
def FW (r : Option Nat) : Fence := { fn := fun _ => True, depth := none, alive := false, round := r }
theorem callsW {P : Program} {f : FuncId} {args : Array Value} {w : World} {R : Ending → World → Prop} (r : Option Nat) (h : Calls P f args w R) : CallsIn (FW r) 0 P f args w R := (callsIn_wide (n := 0)).2 h
theorem roundW {P : Program} {l : Nat} {f : FuncId} {tmps : Array Value} {assign body : Code} {w : World} {R : Ending → World → Prop} (r : Option Nat) (h : RoundIn Fence.wide 0 P l f tmps assign body w R) : RoundIn (FW r) 0 P l f tmps assign body w R := h
structure Ext (w w' : World) : Prop extends Below w.heap.size w w' where
 drawn : w.drawn ≤ w'.drawn
theorem Ext.rfl' (w : World) : Ext w w := ⟨Below.refl _ _, Nat.le_refl _⟩
theorem Ext.tr {a b c : World} (h : Ext a b) (k : Ext b c) : Ext a c := ⟨Below.trans h.toBelow (Below.mono k.toBelow h.size), Nat.le_trans h.drawn k.drawn⟩
theorem Ext.drew (w : World) : Ext w w.drew := ⟨(Below.refl _ _).drew, Nat.le_succ _⟩
structure VA where
 p : Value → World → Prop
 st : ∀ v w w', Ext w w' → p v w → p v w'

def E (x : Value) : VA := ⟨fun v _ => v = x, fun _ _ _ _ h => h⟩
def Any : VA := ⟨fun _ _ => True, fun _ _ _ _ h => h⟩
abbrev Env := List (Nat × VA)
def look : Env → Nat → Option VA
 | [], _ => none
 | (k, A) :: L, t => match Nat.beq k t with
  | true => some A
  | false => look L t

theorem look_cons_same (k : Nat) (A : VA) (L : Env) : look ((k, A) :: L) k = some A := by
 simp [look]
theorem look_cons_ne {k t : Nat} (A : VA) (L : Env) (h : k ≠ t) : look ((k, A) :: L) t = look L t := by
 have : Nat.beq k t = false := by
  cases hb : Nat.beq k t with
  | false => rfl
  | true => exact absurd (Nat.eq_of_beq_eq_true hb) h
 simp [look, this]
def opd (L : Env) : Operand → Option VA
 | .tmp t => look L t
 | .const v => some (E v)
 | .global g => some (E (.pointer (some ⟨g, 0, none⟩)))
 | .func f => some (E (.func (.func f) #[] #[]))

structure FrD (n : Nat) (ds : List Deferred) (a : Act) (w : World) (L : Env) : Prop where
 size : a.tmps.size = n
 defers : a.defers = ds
 val : ∀ t A, look L t = some A → A.p (a.eval (.tmp t)) w
abbrev Fr (n : Nat) := FrD n []

theorem FrD.opd {n : Nat} {ds : List Deferred} {a : Act} {w : World} {L : Env} (h : FrD n ds a w L) : ∀ x A, opd L x = some A → A.p (a.eval x) w := by
 intro x A hx
 cases x with
 | tmp t => exact h.val t A hx
 | const v => simp [MonoD.opd] at hx; subst hx; rfl
 | global g => simp [MonoD.opd] at hx; subst hx; rfl
 | func f => simp [MonoD.opd] at hx; subst hx; rfl

theorem FrD.ext {n : Nat} {ds : List Deferred} {a : Act} {w w' : World} {L : Env} (h : FrD n ds a w L) (e : Ext w w') : FrD n ds a w' L :=
 ⟨h.size, h.defers, fun t A ht => A.st _ _ _ e (h.val t A ht)⟩

theorem eval_put_same {a : Act} {d : Nat} {v : Value} (h : d < a.tmps.size) : (a.put (some d) v).eval (.tmp d) = v := by
 simp [Act.put, Act.eval, h]
theorem eval_put_ne {a : Act} {d t : Nat} {v : Value} (h : d ≠ t) : (a.put (some d) v).eval (.tmp t) = a.eval (.tmp t) := by
 simp [Act.put, Act.eval, Array.getElem?_setIfInBounds_ne h]
@[simp] theorem put_size {a : Act} {d : Option Nat} {v : Value} : (a.put d v).tmps.size = a.tmps.size := by
 cases d <;> simp [Act.put]
@[simp] theorem put_defers {a : Act} {d : Option Nat} {v : Value} : (a.put d v).defers = a.defers := by
 cases d <;> simp [Act.put]

def push (d : Option Nat) (A : VA) (L : Env) : Env :=
 match d with
 | some d => (d, A) :: L
 | none => L

theorem FrD.put {n : Nat} {ds : List Deferred} {a : Act} {w w' : World} {L : Env} {d : Option Nat} {v : Value} {A : VA} (h : FrD n ds a w L) (e : Ext w w') (hd : ∀ k, d = some k → k < n) (hA : A.p v w') :
  FrD n ds (a.put d v) w' (push d A L) := by
 refine ⟨by simp [h.size], by simp [h.defers], fun t B ht => ?_⟩
 cases d with
 | none => exact (h.ext e).val t B ht
 | some d =>
  by_cases hdt : d = t
  ·subst hdt
   rw [push, look_cons_same] at ht
   obtain rfl := Option.some.inj ht
   rw [eval_put_same (by rw [h.size]; exact hd d rfl)]
   exact hA
  ·rw [push, look_cons_ne _ _ hdt] at ht
   rw [eval_put_ne hdt]
   exact (h.ext e).val t B ht
def OpR (P : Program) (o : Oper) (ρ : Operand → Value) (w : World) (R : Value → World → Prop) : Prop :=
 match (execOp ρ o).run P w with
 | .ok (.value v) w' => R v w'
 | .ok .skip w' => R undef w'
 | .ok (.enter f args) w' => Calls P f args w' fun e w'' => ∃ v, e = .returned v ∧ R v w''
 | .ok (.round l f tmps assign body) w' => RoundIn Fence.wide 0 P l f tmps assign body w' fun e w'' => ∃ v, e = .returned v ∧ R v w''
 | _ => False

theorem OpR.wp {P : Program} {o : Oper} {a : Act} {w : World} {R : Value → World → Prop} {K : Act → World → Prop} {Q : Exit → Act → World → Prop} {r : Option Nat}
  (h : OpR P o a.eval w R) (hK : ∀ v w', R v w' → K (a.put o.dst v) w') : o.wpIn (FW r) 0 P a w K Q := by
 refine ⟨fun _ _ => trivial, ?_⟩
 have hs : o.semAt (FW r).round a.eval = execOp a.eval o := by
  refine Oper.semAt_eq _ _ _ fun c hc => ?_
  unfold OpR at h
  obtain ⟨d, op, t, p, af, g⟩ := o
  simp only at hc
  subst hc
  simp only [execOp, Sem.run_bind] at h
  cases hr : (resolve a.eval c t).run P w with
  | ok x w' => simp [hr] at h
  | halt x w' => simp [hr, Result.andThen] at h
 rw [hs]
 unfold OpR at h
 generalize (execOp a.eval o).run P w = r' at h
 cases r' with
 | ok n w' =>
  cases n <;> simp only [Oper.uponIn] at h ⊢ <;> first
   | exact hK _ _ h
   | exact h.elim
   | (
     refine ⟨fun hd => (by simp [FW] at hd), callsW r (Calls.mono h ?_)⟩
     rintro e w'' ⟨v, rfl, hv⟩
     exact hK _ _ hv)
   | (
     refine ⟨fun hd => (by simp [FW] at hd), roundW r (RoundIn.mono h ?_)⟩
     rintro e w'' ⟨v, rfl, hv⟩
     exact hK _ _ hv)
 | halt x w' => exact h.elim

theorem OpR.mono {P : Program} {o : Oper} {ρ : Operand → Value} {w : World} {R R' : Value → World → Prop} (h : OpR P o ρ w R) (hR : ∀ v w', R v w' → R' v w') : OpR P o ρ w R' := by
 unfold OpR at *
 generalize (execOp ρ o).run P w = r at h
 cases r with
 | ok n w' =>
  cases n <;> simp only at h ⊢ <;> first
   | exact hR _ _ h
   | exact h
   | exact Calls.mono h (by rintro e w'' ⟨v, rfl, hv⟩; exact ⟨v, rfl, hR _ _ hv⟩)
   | exact RoundIn.mono h (by rintro e w'' ⟨v, rfl, hv⟩; exact ⟨v, rfl, hR _ _ hv⟩)
 | halt x w' => exact h
structure OpC (P : Program) (w0 : World) (L : Env) (o : Oper) (A : VA) : Prop where
 out : ∀ ρ w, Ext w0 w → (∀ x ∈ o.op.operands, ∀ B, opd L x = some B → B.p (ρ x) w) → OpR P o ρ w (fun v w' => Ext w w' ∧ A.p v w')
def gdst (ops : Array Oper) (o : Oper) : Option Nat := o.guard.bind fun g => (ops[g.1]?).bind (·.dst)
def GOp (P : Program) (ops : Array Oper) (w0 : World) (L : Env) (o : Oper) (A : VA) : Prop :=
 ∀ (a : Act) w, Ext w0 w → (∀ x ∈ o.op.operands, ∀ B, opd L x = some B → B.p (a.eval x) w) → (∀ d B, gdst ops o = some d → look L d = some B → B.p (a.eval (.tmp d)) w) →
  if Region.wanted o (yielded ops a.tmps) then OpR P o a.eval w (fun v w' => Ext w w' ∧ A.p v w') else A.p undef w

def RegM (P : Program) (ops : Array Oper) (w0 : World) : List Oper → (Env → Prop) → Env → Prop
 | [], K, L => K L
 | o :: rest, K, L => ∃ A, GOp P ops w0 L o A ∧ RegM P ops w0 rest K (push o.dst A L)

section reg
variable {P : Program} {ops : Array Oper} {Q : Exit → Act → World → Prop} {w0 : World} {n : Nat} {ds : List Deferred} {r : Option Nat}
theorem wpList_M (S : List Oper) : ∀ (M : List Oper) (L : Env) (a : Act) (w : World), (∀ o ∈ M, ∀ k, o.dst = some k → k < n) → Ext w0 w → FrD n ds a w L →
  RegM P ops w0 M (fun L' => ∀ a' w', Ext w0 w' → FrD n ds a' w' L' → wpListIn (FW r) 0 P ops Q S a' w') L → wpListIn (FW r) 0 P ops Q (M ++ S) a w
 | [], L, a, w, _, he, hf, h => h a w he hf
 | o :: rest, L, a, w, hd, he, hf, ⟨A, hA, hr⟩ => by
  have h1 := hA a w he (fun x _ B hB => hf.opd x B hB) (fun d B _ hB => hf.val d B hB)
  have hd' := fun k hk => hd o (by simp) k hk
  have ih := wpList_M S rest (push o.dst A L)
  rw [List.cons_append, wpListIn]
  split
  ·rename_i hw
   rw [if_pos hw] at h1
   exact (h1.wp fun v w' hv => ih _ _ (fun o ho => hd o (by simp [ho])) (Ext.tr he hv.1) (hf.put hv.1 hd' hv.2) hr)
  ·rename_i hw
   rw [if_neg hw] at h1
   exact ⟨fun _ _ => trivial, ih _ _ (fun o ho => hd o (by simp [ho])) he (hf.put (Ext.rfl' _) hd' h1) hr⟩


def bnd (ops : Array Oper) (i j : Nat) : Bool := match ops[i]? with
 | some o => o.after.any fun e => Region.binds .any e && Nat.beq e.on j
 | none => false
def covers (ops : Array Oper) : Nat → Nat → Nat → Bool
 | 0, _, _ => false
 | f + 1, i, j => bnd ops i j || (List.range i).any fun k => bnd ops i k && covers ops f k j

def tmpsOf (o : Oper) : List Nat := o.op.operands.toList.filterMap fun | .tmp t => some t | _ => none
def dstOf (ops : Array Oper) (i : Nat) : Option Nat := (ops[i]?).bind (·.dst)

def chkOp (ops : Array Oper) (m N i : Nat) : Bool :=
 match ops[i]? with
 | none => false
 | some o =>
  (o.after.all fun e => !Region.binds .any e || Nat.blt e.on i) &&
  (match o.dst with | some d => Nat.blt d N | none => true) &&
  ((tmpsOf o ++ (gdst ops o).toList).all fun t => (List.range m).all fun j => (match dstOf ops j with | some d => !Nat.beq d t | none => true) || bnd ops i j) &&
  ((List.range m).all fun j => Nat.beq j i || (match o.dst, dstOf ops j with | some d, some e => !Nat.beq d e | _, _ => true))
def chkTail (ops : Array Oper) (i : Nat) : Bool :=
 match ops[i]? with
 | none => false
 | some o => (o.after.all fun e => !Region.binds .any e || Nat.blt e.on i) && (List.range i).all fun j => covers ops 12 i j
def chk (ops : Array Oper) (m N : Nat) : Bool :=
 Nat.ble m ops.size && ((List.range m).all fun i => chkOp ops m N i) && ((List.range ops.size).all fun i => Nat.blt i m || chkTail ops i)

theorem countP_upd (m : Nat) (p q : Nat → Bool) (i : Nat) (hi : i < m) (h1 : p i = true) (h2 : q i = false) (h : ∀ j, j ≠ i → p j = q j) :
  (List.range m).countP p = (List.range m).countP q + 1 := by
 induction m with
 | zero => omega
 | succ m ih =>
  rw [List.range_succ, List.countP_append, List.countP_append]
  by_cases him : i = m
  ·subst him
   have : (List.range i).countP p = (List.range i).countP q := List.countP_congr fun x hx => by
    have : x ≠ i := by have := List.mem_range.1 hx; omega
    rw [h x this]
   simp [this, h1, h2]
  ·have := ih (by omega)
   have e := h m (by omega)
   simp only [this, List.countP_singleton, e]
   omega

def LD (ops : Array Oper) (listed : Array Bool) : Prop :=
 ∀ i o, listed.getD i false = true → ops[i]? = some o → ∀ e ∈ o.after, Region.binds .any e = true → listed.getD e.on false = true

theorem cov {listed : Array Bool} (hld : LD ops listed) : ∀ f i j, covers ops f i j = true → (∀ o, ops[i]? = some o → ∀ e ∈ o.after, Region.binds .any e = true → listed.getD e.on false = true) → listed.getD j false = true
 | 0, i, j, h, _ => by simp [covers] at h
 | f + 1, i, j, h, hp => by
  have one : ∀ j, bnd ops i j = true → listed.getD j false = true := by
   intro j hb
   unfold bnd at hb
   cases ho : ops[i]? with
   | none => simp [ho] at hb
   | some o =>
    simp only [ho] at hb
    obtain ⟨e, he, hb⟩ := Array.any_eq_true'.1 hb
    simp only [Bool.and_eq_true] at hb
    have := hp o ho e he hb.1
    rwa [Nat.eq_of_beq_eq_true hb.2] at this
  simp only [covers, Bool.or_eq_true, List.any_eq_true, Bool.and_eq_true] at h
  rcases h with h | ⟨k, _, hk, hc⟩
  ·exact one j h
  ·exact cov hld f k j hc fun o ho e he hb => hld k o (one k hk) ho e he hb

theorem not_listed {listed : Array Bool} {i : Nat} (h : listed.getD i true = false) : listed.getD i false = false := by
 rcases Nat.lt_or_ge i listed.size with h' | h'
 ·simpa [h'] using h
 ·simp [Array.getElem?_eq_none h'] at h

theorem LD.set {listed : Array Bool} (hld : LD ops listed) {i : Nat} (hp : ∀ o, ops[i]? = some o → ∀ e ∈ o.after, Region.binds .any e = true → listed.getD e.on false = true) :
  LD ops (listed.setIfInBounds i true) := by
 intro j o hj ho e he hb
 by_cases hij : i = j
 ·subst hij
  exact getD_set_true (hp o ho e he hb)
 ·rw [getD_set_ne false hij] at hj
  exact getD_set_true (hld j o hj ho e he hb)

theorem wpAny_tail (m : Nat) (hchk : ∀ i, m ≤ i → i < ops.size → chkTail ops i = true) : ∀ (d k : Nat), d + k = ops.size → m ≤ k → ∀ (listed : Array Bool) (a : Act) (w : World),
  (∀ j, j < k → listed.getD j false = true) → (∀ j, k ≤ j → j < ops.size → listed.getD j true = false) → listed.size = ops.size → LD ops listed →
  wpListIn (FW r) 0 P ops Q (ops.toList.drop k) a w → wpAnyIn (FW r) 0 P .any ops Q d listed a w
 | 0, k, hk, hm, listed, a, w, h1, h2, hsz, hld, h => by
  have hnil : ops.toList.drop k = [] := List.drop_eq_nil_of_le (by simp; omega)
  rw [hnil] at h
  refine ⟨?_, h⟩
  cases hr : Region.ready .any ops listed with
  | nil => rfl
  | cons x xs =>
   have hx : x ∈ Region.ready .any ops listed := by rw [hr]; simp
   obtain ⟨hu, o, ho, _⟩ := mem_ready.1 hx
   have hlt : x < ops.size := (Array.getElem?_eq_some_iff.1 ho).1
   have := h1 x (by omega)
   rw [not_listed hu] at this
   cases this
 | d + 1, k, hk, hm, listed, a, w, h1, h2, hsz, hld, h => by
  have hlt : k < ops.size := by omega
  have hok : ops[k]? = some ops[k] := by simp [hlt]
  have hc := hchk k hm hlt
  simp only [chkTail, hok, Bool.and_eq_true, Array.all_eq_true_iff_forall_mem, Bool.or_eq_true, Bool.not_eq_true'] at hc
  have hready : k ∈ Region.ready .any ops listed := by
   refine mem_ready.2 ⟨h2 k (Nat.le_refl _) hlt, _, hok, fun e he hb => h1 _ ?_⟩
   rcases hc.1 e he with h' | h'
   ·rw [hb] at h'; cases h'
   ·simpa [Nat.blt_eq] using h'
  have only : ∀ j ∈ Region.ready .any ops listed, j = k := by
   intro j hj
   obtain ⟨hu, o, ho, hall⟩ := mem_ready.1 hj
   have hjlt : j < ops.size := (Array.getElem?_eq_some_iff.1 ho).1
   rcases Nat.lt_trichotomy j k with hjk | hjk | hjk
   ·have := h1 j hjk
    rw [not_listed hu] at this
    cases this
   ·exact hjk
   ·have hcj := hchk j (by omega) hjlt
    simp only [chkTail, ho, Bool.and_eq_true, List.all_eq_true, List.mem_range] at hcj
    have := cov hld 12 j k (hcj.2 k hjk) (fun o' ho' e he hb => by
     rw [ho] at ho'
     obtain rfl := Option.some.inj ho'
     exact hall e he hb)
    rw [not_listed (h2 k (Nat.le_refl _) hlt)] at this
    cases this
  refine ⟨fun h0 => (by rw [h0] at hready; cases hready), fun i hi => ?_⟩
  obtain rfl := only i hi
  obtain ⟨_, o, ho, hall⟩ := mem_ready.1 hi
  have hdrop : ops.toList.drop i = ops[i] :: ops.toList.drop (i + 1) := by
   rw [List.drop_eq_getElem_cons (by simpa using hlt)]
   simp
  rw [hdrop] at h
  have hstep : wpOpIn (FW r) 0 P ops Q i (wpListIn (FW r) 0 P ops Q (ops.toList.drop (i + 1))) a w := by
   unfold wpOpIn
   simp only [hok]
   rw [wpListIn] at h
   exact h
  refine wpOpIn_mono (fun a' w' h' => wpAny_tail m hchk d (i + 1) (by omega) (by omega) _ a' w' ?_ ?_ (by simpa using hsz) ?_ h') hstep
  ·intro j hj
   by_cases hji : j = i
   ·subst hji
    simp [hsz, hlt]
   ·exact getD_set_true (h1 j (by omega))
  ·intro j hj hj'
   rw [getD_set_ne true (by omega)]
   exact h2 j (by omega) hj'
  ·exact hld.set fun o' ho' e he hb => by
    rw [ho] at ho'
    obtain rfl := Option.some.inj ho'
    exact hall e he hb

def envF (ops : Array Oper) (L : Env) (As : Nat → VA) (k : Nat) : Nat → Env
 | 0 => L
 | j + 1 => push (dstOf ops (k + j)) (As j) (envF ops L As k j)

theorem envF_shift (ops : Array Oper) (L : Env) (A : VA) (As : Nat → VA) (k : Nat) : ∀ j,
  envF ops L (fun i => match i with | 0 => A | i + 1 => As i) k (j + 1) = envF ops (push (dstOf ops k) A L) As (k + 1) j
 | 0 => rfl
 | j + 1 => by
  rw [envF, envF_shift ops L A As k j, envF]
  rw [show k + (j + 1) = k + 1 + j by omega]

theorem RegM_As {K : Env → Prop} : ∀ (M : List Oper) (k : Nat) (L : Env), (∀ j, j < M.length → ops[k + j]? = M[j]?) → RegM P ops w0 M K L →
  ∃ As : Nat → VA, (∀ j o, j < M.length → ops[k + j]? = some o → GOp P ops w0 (envF ops L As k j) o (As j)) ∧ K (envF ops L As k M.length)
 | [], k, L, _, h => ⟨fun _ => Any, fun j o hj => by simp at hj, h⟩
 | o :: M, k, L, hM, ⟨A, hA, hr⟩ => by
  have h0 : ops[k]? = some o := by simpa using hM 0 (by simp)
  have hd : dstOf ops k = o.dst := by simp [dstOf, h0]
  obtain ⟨As, h1, h2⟩ := RegM_As M (k + 1) (push o.dst A L) (fun j hj => by
   have := hM (j + 1) (by simpa using hj)
   rw [show k + 1 + j = k + (j + 1) by omega]
   simpa using this) hr
  refine ⟨fun i => match i with | 0 => A | i + 1 => As i, ?_, ?_⟩
  ·intro j o' hj ho'
   cases j with
   | zero =>
    rw [Nat.add_zero, h0] at ho'
    obtain rfl := Option.some.inj ho'
    exact hA
   | succ j =>
    rw [envF_shift, hd]
    exact h1 j o' (by simpa using hj) (by rw [show k + 1 + j = k + (j + 1) by omega]; exact ho')
  ·rw [List.length_cons, envF_shift, hd]
   exact h2

theorem look_envF (L : Env) (As : Nat → VA) (t : Nat) (B : VA) : ∀ i, look (envF ops L As 0 i) t = some B →
  (∃ j, j < i ∧ dstOf ops j = some t ∧ B = As j) ∨ ((∀ j, j < i → dstOf ops j ≠ some t) ∧ look L t = some B)
 | 0, h => .inr ⟨fun j hj => by omega, h⟩
 | i + 1, h => by
  rw [envF, Nat.zero_add] at h
  have rest : look (envF ops L As 0 i) t = some B → dstOf ops i ≠ some t → (∃ j, j < i + 1 ∧ dstOf ops j = some t ∧ B = As j) ∨ ((∀ j, j < i + 1 → dstOf ops j ≠ some t) ∧ look L t = some B) := by
   intro h hne
   rcases look_envF L As t B i h with ⟨j, hj, hd, hB⟩ | ⟨hn, hl⟩
   ·exact .inl ⟨j, by omega, hd, hB⟩
   ·refine .inr ⟨fun j hj => ?_, hl⟩
    by_cases hji : j = i
    ·subst hji; exact hne
    ·exact hn j (by omega)
  cases hd : dstOf ops i with
  | none =>
   rw [hd] at h
   exact rest h (by simp [hd])
  | some d =>
   rw [hd] at h
   by_cases hdt : d = t
   ·subst hdt
    rw [push, look_cons_same] at h
    exact .inl ⟨i, by omega, hd, (Option.some.inj h).symm⟩
   ·rw [push, look_cons_ne _ _ hdt] at h
    exact rest h (by simp [hd, hdt])

structure Inv (ops : Array Oper) (m n : Nat) (ds : List Deferred) (w0 : World) (L : Env) (As : Nat → VA) (listed : Array Bool) (a : Act) (w : World) : Prop where
 ext : Ext w0 w
 size : a.tmps.size = n
 defers : a.defers = ds
 hL : ∀ t A, look L t = some A → (∀ j, j < m → dstOf ops j ≠ some t) → A.p (a.eval (.tmp t)) w
 hA : ∀ i, i < m → listed.getD i false = true → ∀ d, dstOf ops i = some d → (As i).p (a.eval (.tmp d)) w

theorem wpAny_main {m : Nat} {L : Env} {As : Nat → VA} (hm : m ≤ ops.size) (hchk : ∀ i, i < m → chkOp ops m n i = true) (hchk2 : ∀ i, m ≤ i → i < ops.size → chkTail ops i = true)
  (hops : ∀ j o, j < m → ops[j]? = some o → GOp P ops w0 (envF ops L As 0 j) o (As j))
  (hend : ∀ a w, Ext w0 w → FrD n ds a w (envF ops L As 0 m) → wpListIn (FW r) 0 P ops Q (ops.toList.drop m) a w) :
  ∀ (c : Nat) (listed : Array Bool) (a : Act) (w : World), (List.range m).countP (fun i => !listed.getD i true) = c → listed.size = ops.size →
   (∀ j, m ≤ j → j < ops.size → listed.getD j true = false) → LD ops listed → Inv ops m n ds w0 L As listed a w → wpAnyIn (FW r) 0 P .any ops Q (c + (ops.size - m)) listed a w
 | 0, listed, a, w, hc, hsz, hun, hld, hi => by
  have hall : ∀ j, j < m → listed.getD j false = true := by
   intro j hj
   have := (List.countP_eq_zero.1 hc) j (List.mem_range.2 hj)
   have hjl : j < listed.size := by omega
   simpa [hjl] using this
  rw [Nat.zero_add]
  refine wpAny_tail m hchk2 (ops.size - m) m (by omega) (Nat.le_refl _) listed a w hall hun hsz hld (hend a w hi.ext ⟨hi.size, hi.defers, fun t A ht => ?_⟩)
  rcases look_envF L As t A m ht with ⟨j, hj, hd, rfl⟩ | ⟨hn, hl⟩
  ·exact hi.hA j hj (hall j hj) t hd
  ·exact hi.hL t A hl hn
 | c + 1, listed, a, w, hc, hsz, hun, hld, hi => by
  have facts : ∀ i o, i < m → ops[i]? = some o → (∀ e ∈ o.after, Region.binds .any e = true → e.on < i) ∧ (∀ d, o.dst = some d → d < n) ∧
    (∀ t, t ∈ tmpsOf o ∨ gdst ops o = some t → ∀ j, j < m → dstOf ops j = some t → bnd ops i j = true) ∧ (∀ j, j < m → j ≠ i → ∀ d, o.dst = some d → dstOf ops j ≠ some d) := by
   intro i o hlt ho
   have := hchk i hlt
   simp only [chkOp, ho, Bool.and_eq_true, Array.all_eq_true_iff_forall_mem, Bool.or_eq_true, Bool.not_eq_true', List.all_eq_true, List.mem_range, List.mem_append, Option.mem_toList] at this
   obtain ⟨⟨⟨h1, h2⟩, h3⟩, h4⟩ := this
   refine ⟨fun e he hb => ?_, fun d hd => ?_, fun t ht j hj hd => ?_, fun j hj hne d hd hd' => ?_⟩
   ·rcases h1 e he with h | h
    ·rw [hb] at h; cases h
    ·simpa [Nat.blt_eq] using h
   ·simpa [hd, Nat.blt_eq] using h2
   ·have := h3 t ht j hj
    rcases this with h | h
    ·rw [hd] at h; simp at h
    ·exact h
   ·have := h4 j hj
    rcases this with h | h
    ·exact hne (Nat.eq_of_beq_eq_true h)
    ·rw [hd, hd'] at h; simp at h
  have prog : ∃ i, i < m ∧ listed.getD i true = false ∧ ∀ j, j < i → listed.getD j true = true := by
   have hex : ∃ i, i < m ∧ listed.getD i true = false := by
    have hpos : 0 < (List.range m).countP (fun i => !listed.getD i true) := by omega
    obtain ⟨i, hi, hb⟩ := List.countP_pos_iff.1 hpos
    exact ⟨i, List.mem_range.1 hi, by simpa using hb⟩
   obtain ⟨i, hlt, hb⟩ := hex
   induction i using Nat.strongRecOn with
   | _ i ih =>
    by_cases h : ∃ j, j < i ∧ listed.getD j true = false
    ·obtain ⟨j, hj, hjb⟩ := h
     exact ih j hj (by omega) hjb
    ·refine ⟨i, hlt, hb, fun j hj => ?_⟩
     cases hjb : listed.getD j true with
     | true => rfl
     | false => exact absurd ⟨j, hj, hjb⟩ h
  obtain ⟨i0, hi0, hu0, hbelow⟩ := prog
  have hready : i0 ∈ Region.ready .any ops listed := by
   have ho : ops[i0]? = some (ops[i0]'(by omega)) := by simp
   refine mem_ready.2 ⟨hu0, _, ho, fun e he hb => ?_⟩
   have hlt := (facts i0 _ hi0 ho).1 e he hb
   have := hbelow _ hlt
   have hjl : e.on < listed.size := by omega
   simpa [hjl] using this
  rw [show c + 1 + (ops.size - m) = (c + (ops.size - m)) + 1 by omega]
  refine ⟨fun h0 => (by rw [h0] at hready; cases hready), fun i hir => ?_⟩
  obtain ⟨hu, o, ho, hall⟩ := mem_ready.1 hir
  have hilt : i < ops.size := (Array.getElem?_eq_some_iff.1 ho).1
  have listed_of_bnd : ∀ j, bnd ops i j = true → listed.getD j false = true := by
   intro j hb
   simp only [bnd, ho] at hb
   obtain ⟨e, he, hb⟩ := Array.any_eq_true'.1 hb
   simp only [Bool.and_eq_true] at hb
   have := hall e he hb.1
   rwa [Nat.eq_of_beq_eq_true hb.2] at this
  have him : i < m := by
   rcases Nat.lt_or_ge i m with h | h
   ·exact h
   ·have hc := hchk2 i h hilt
    simp only [chkTail, ho, Bool.and_eq_true, List.all_eq_true, List.mem_range] at hc
    have := cov hld 12 i i0 (hc.2 i0 (by omega)) (fun o' ho' e he hb => by
     rw [ho] at ho'
     obtain rfl := Option.some.inj ho'
     exact hall e he hb)
    rw [not_listed hu0] at this
    cases this
  obtain ⟨f1, f2, f3, f4⟩ := facts i o him ho
  have byLook : ∀ t, (t ∈ tmpsOf o ∨ gdst ops o = some t) → ∀ B, look (envF ops L As 0 i) t = some B → B.p (a.eval (.tmp t)) w := by
   intro t ht B hB
   rcases look_envF L As t B i hB with ⟨j, hj, hd, rfl⟩ | ⟨hn, hl⟩
   ·exact hi.hA j (by omega) (listed_of_bnd j (f3 t ht j (by omega) hd)) t hd
   ·refine hi.hL t B hl fun j hj hd => ?_
    have hb := f3 t ht j hj hd
    simp only [bnd, ho] at hb
    obtain ⟨e, he, hb⟩ := Array.any_eq_true'.1 hb
    simp only [Bool.and_eq_true] at hb
    have hlt := f1 e he hb.1
    rw [Nat.eq_of_beq_eq_true hb.2] at hlt
    exact hn j hlt hd
  have hg := hops i o him ho a w hi.ext (fun x hx B hB => by
   cases x with
   | tmp t => exact byLook t (.inl (List.mem_filterMap.2 ⟨.tmp t, by simpa using hx, rfl⟩)) B hB
   | const v => simp [opd] at hB; subst hB; rfl
   | global g => simp [opd] at hB; subst hB; rfl
   | func f => simp [opd] at hB; subst hB; rfl) (fun d B hd hB => byLook d (.inr hd) B hB)
  have hdst : dstOf ops i = o.dst := by simp [dstOf, ho]
  have step : ∀ v w', Ext w w' → (As i).p v w' → wpAnyIn (FW r) 0 P .any ops Q (c + (ops.size - m)) (listed.setIfInBounds i true) (a.put o.dst v) w' := by
   intro v w' hx hv
   refine wpAny_main hm hchk hchk2 hops hend c _ _ _ ?_ (by simpa using hsz) ?_ ?_ ?_
   ·have := countP_upd m (fun j => !listed.getD j true) (fun j => !(listed.setIfInBounds i true).getD j true) i him (by simp only [hu, Bool.not_false])
     (by
       have hjl : i < listed.size := by omega
       simp [hjl]) (fun j hj => by simp only [getD_set_ne true (Ne.symm hj)])
    omega
   ·intro j hj hj'
    rw [getD_set_ne true (by omega)]
    exact hun j hj hj'
   ·exact hld.set fun o' ho' e he hb => by
     rw [ho] at ho'
     obtain rfl := Option.some.inj ho'
     exact hall e he hb
   ·refine ⟨Ext.tr hi.ext hx, by simp [hi.size], by simp [hi.defers], fun t A ht hn => ?_, fun j hj hl d hd => ?_⟩
    ·have h0 := A.st _ _ _ hx (hi.hL t A ht hn)
     cases hod : o.dst with
     | none => exact h0
     | some d =>
      have : d ≠ t := fun e => hn i him (by rw [hdst, hod, e])
      rw [eval_put_ne this]
      exact h0
    ·by_cases hji : j = i
     ·subst hji
      rw [hdst] at hd
      rw [hd, eval_put_same (by rw [hi.size]; exact f2 d hd)]
      exact hv
     ·have hl' : listed.getD j false = true := by rwa [getD_set_ne false (Ne.symm hji)] at hl
      have h0 := (As j).st _ _ _ hx (hi.hA j hj hl' d hd)
      cases hod : o.dst with
      | none => exact h0
      | some d' =>
       have : d' ≠ d := fun e => f4 j hj hji d' hod (by rw [hd, e])
       rw [eval_put_ne this]
       exact h0
  unfold wpOpIn
  simp only [ho]
  split
  ·rename_i hw
   rw [if_pos hw] at hg
   exact (hg.wp fun v w' hv => step v w' hv.1 hv.2)
  ·rename_i hw
   rw [if_neg hw] at hg
   exact ⟨fun _ _ => trivial, step undef w (Ext.rfl' _) hg⟩
theorem wp_reg {id : Nat} {draw : Bool} {M S : List Oper} {L : Env} {a : Act} {w : World} (hmix : P.follows .mixedOrders = true) (hchk : chk (M ++ S).toArray M.length n = true) (hf : FrD n ds a w L)
  (h : RegM P (M ++ S).toArray w M (fun L' => ∀ a' w', Ext w w' → FrD n ds a' w' L' → wpListIn (FW r) 0 P (M ++ S).toArray Q S a' w') L) : (Code.region id (M ++ S).toArray draw).wpIn (FW r) 0 P Q a w := by
 simp only [chk, Bool.and_eq_true, List.all_eq_true, List.mem_range, Bool.or_eq_true] at hchk
 obtain ⟨⟨hm, h1⟩, h2⟩ := hchk
 have hm : M.length ≤ (M ++ S).toArray.size := by simp
 cases draw with
 | false =>
  refine wpIn_region_list ?_
  refine wpList_M S M L a w (fun o ho k hk => ?_) (Ext.rfl' _) hf h
  obtain ⟨i, hi, rfl⟩ := List.mem_iff_getElem.1 ho
  have := h1 i hi
  have ho' : (M ++ S).toArray[i]? = some M[i] := by rw [List.getElem?_toArray, List.getElem?_append_left hi]; simp
  simp only [chkOp, ho', Bool.and_eq_true, hk, Nat.blt_eq] at this
  exact this.1.1.2
 | true =>
  refine wpIn_region_any hmix ?_
  obtain ⟨As, hAs, hK⟩ := RegM_As M 0 L (fun j hj => by rw [Nat.zero_add, List.getElem?_toArray, List.getElem?_append_left hj]) h
  have hext : Ext w { w with drawn := w.drawn + 1 } := Ext.drew w
  have := wpAny_main (P := P) (ops := (M ++ S).toArray) (Q := Q) (w0 := w) (n := n) (ds := ds) (m := M.length) (L := L) (As := As) hm h1 (fun i hi hi' => by
    rcases h2 i hi' with h | h
    ·simp only [Nat.blt_eq] at h; omega
    ·exact h) (fun j o hj ho => hAs j o hj (by simpa using ho)) (fun a w hx hf => by simpa using hK a w hx hf) M.length
   (Array.replicate (M ++ S).toArray.size false) a { w with drawn := w.drawn + 1 } ?_ (by simp) ?_ ?_ ⟨hext, hf.size, hf.defers, fun t A ht _ => A.st _ _ _ hext (hf.val t A ht), fun i hi hl => ?_⟩
  ·rwa [show M.length + ((M ++ S).toArray.size - M.length) = (M ++ S).toArray.size by simp] at this
  ·have : (List.range M.length).countP (fun i => !(Array.replicate (M ++ S).toArray.size false).getD i true) = (List.range M.length).length := by
    refine List.countP_eq_length.2 fun i hi => ?_
    have := List.mem_range.1 hi
    have hlt : i < M.length + S.length := by omega
    simp [hlt]
   simpa using this
  ·intro j _ hj
   have hlt : j < M.length + S.length := by simpa using hj
   simp [hlt]
  ·intro i o hl
   have : (Array.replicate (M ++ S).toArray.size false).getD i false = false := by
    by_cases hlt : i < M.length + S.length <;> simp [hlt]
   rw [this] at hl; cases hl
  ·have : (Array.replicate (M ++ S).toArray.size false).getD i false = false := by
    by_cases hlt : i < M.length + S.length <;> simp [hlt]
   rw [this] at hl; cases hl
theorem reg {id : Nat} {draw : Bool} {ops : Array Oper} {L : Env} {a : Act} {w : World} (m : Nat) (hmix : P.follows .mixedOrders = true) (hf : FrD n ds a w L) (hchk : chk ops m n = true)
  (h : RegM P ops w (ops.toList.take m) (fun L' => ∀ a' w', Ext w w' → FrD n ds a' w' L' → wpListIn (FW r) 0 P ops Q (ops.toList.drop m) a' w') L) : (Code.region id ops draw).wpIn (FW r) 0 P Q a w := by
 have e : (ops.toList.take m ++ ops.toList.drop m).toArray = ops := by simp
 have hl : (ops.toList.take m).length = m := by
  simp only [chk, Bool.and_eq_true, Nat.ble_eq] at hchk
  simp
  omega
 have := wp_reg (P := P) (Q := Q) (n := n) (ds := ds) (id := id) (draw := draw) (M := ops.toList.take m) (S := ops.toList.drop m) (L := L) (a := a) (w := w) hmix (by rw [e, hl]; exact hchk) hf (by rw [e]; exact h)
 rwa [e] at this
theorem regn {id : Nat} {ops : Array Oper} {L : Env} {a : Act} {w : World} (m : Nat) (hf : FrD n ds a w L) (hchk : ((ops.toList.take m).all fun o => match o.dst with | some d => Nat.blt d n | none => true) = true)
  (h : RegM P ops w (ops.toList.take m) (fun L' => ∀ a' w', Ext w w' → FrD n ds a' w' L' → wpListIn (FW r) 0 P ops Q (ops.toList.drop m) a' w') L) : (Code.region id ops false).wpIn (FW r) 0 P Q a w := by
 have e : ops.toList.take m ++ ops.toList.drop m = ops.toList := by simp
 refine wpIn_region_list ?_
 rw [← e]
 refine wpList_M (ops.toList.drop m) (ops.toList.take m) L a w (fun o ho k hk => ?_) (Ext.rfl' _) hf h
 have := List.all_eq_true.1 hchk o ho
 simpa [hk, Nat.blt_eq] using this
theorem regn0 {id : Nat} {ops : Array Oper} {a : Act} {w : World} (h : wpListIn (FW r) 0 P ops Q ops.toList a w) : (Code.region id ops false).wpIn (FW r) 0 P Q a w := wpIn_region_list h
end reg
end Go.MonoD
