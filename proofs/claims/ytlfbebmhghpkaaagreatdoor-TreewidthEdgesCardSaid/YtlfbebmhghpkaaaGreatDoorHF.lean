/-
  Walks and plain facts, in this order: ArgG, CardBase, Tw2, Frm, Tw3, TwL, Indu, Trv, MatB, R23a, R23e, MonoC, R23f, R23b, TwC, MonoN, TwO, Elms, Out, Bal3, Bal4, Bal5, Split, Centre, Path, Splitter, Bal, BelowS, Chked, Balance, Bal6, Bal7, Depth3, Bal8, Bal9, BalA, BalB, TwR, TwS, TwU, TwV, Lvls, Prts, LawCo, MonoE, LayC, GClone, TwY, TwZ.
  No condition.
-/
import Derived.Test.YtlfbebmhghpkaaaGreatDoorHD
import Derived.Test.YtlfbebmhghpkaaaGreatDoorHB
import Derived.Test.YtlfbebmhghpkaaaGreatDoorCards
import Derived.Test.YtlfbebmhghpkaaaGreatDoorTie
import Derived.ProofKit
import Derived.OpenShut
import Derived.ChangeOld
import Derived.Below
import Derived.LaidLaws
import Derived.Handed
import Derived.Lib.LaidTab
import Derived.SevenTiedAt
import Derived.Test.YtlfbebmhghpkaaaGreatDoorHE
import Derived.Test.YtlfbebmhghpkaaaGreatDoorHC
import Derived.ArgAppend
import Derived.Deep.Upon
import Derived.Deep.Slices
import Derived.Test.YtlfbebmhghpkaaaGreatDoorHA
import Derived.Shelf.SlMaps.Clone
import Derived.Test.YtlfbebmhghpkaaaGreatDoorProg
set_option linter.unusedVariables false
set_option linter.unusedSimpArgs false
namespace Go.Mono
open Go Go.Proofs Go.RowKit Go.ChangeShapes Go.WideShapes Go.Gr

theorem cellsU8' : Tryz.prog.cellsOf 5 = 1 := by kernel_rfl
theorem cellsV05 : Tryz.prog.cellsOf 48 = 3 := by kernel_rfl
theorem cellsE05 : Tryz.prog.cellsOf 57 = 4 := by kernel_rfl
theorem cellsSV : Tryz.prog.cellsOf 22 = 1 := by kernel_rfl
theorem cellsSE : Tryz.prog.cellsOf 23 = 1 := by kernel_rfl
theorem cellsG05 : Tryz.prog.cellsOf 25 = 2 := by kernel_rfl
theorem typesG05 : Tryz.prog.cellTypes Tryz.prog.depth 25 = some [22, 23] := by kernel_rfl
theorem u8_of' {z : Int} (h : (Lit.int .u8 z).wf = true) : 0 ≤ z ∧ z < 256 := by
 have h1 : IntKind.u8.min = 0 := by decide
 have h2 : IntKind.u8.max = 255 := by decide
 simp only [Lit.wf, h1, h2, Bool.and_eq_true, decide_eq_true_eq] at h
 omega
theorem one_of' {cs : List Value} {j : Nat} {v : Value} (h : (cs.drop j).take 1 = [v]) : cs[j]? = some v := by
 have h3 := congrArg (fun l : List Value => l[0]?) h
 simp only [List.getElem?_cons_zero] at h3
 rw [List.getElem?_take, if_pos (by decide), List.getElem?_drop, Nat.add_zero] at h3
 exact h3
def vC (x : VT) : List Value := [I x.1, .int .u8 x.2.1, I x.2.2]
def eC (x : ET) : List Value := [I x.1.1, I x.1.2, .int .u8 x.2.1, I x.2.2]
section
variable {H : Type} {enc : TypeId × Value → H} {w : World} {base : Nat} {spare : Nat → Bool} {held : Bool}
theorem v_cells {n : Nat} {cs : List Value} {x : DataW H × List MemPlace} (h : DataW.trod enc Tryz.prog w base spare held n 48 cs = some x) : ∃ d : VT, cs = vC d ∧ (0 ≤ d.2.1 ∧ d.2.1 < 256) := by
 obtain ⟨xs, m, _, _, hl, hlen, hf⟩ := DataW.trod_struct Tryz.underlying48 h
 rw [cellsV05] at hl
 have hx : ∀ i, i < 3 → ∃ y, xs[i]? = some y := fun i hi => ⟨_, List.getElem?_eq_getElem (by rw [hlen]; exact hi)⟩
 obtain ⟨y0, e0⟩ := hx 0 (by decide)
 obtain ⟨y1, e1⟩ := hx 1 (by decide)
 obtain ⟨y2, e2⟩ := hx 2 (by decide)
 have h0 := hf 0 _ rfl
 have h1 := hf 1 _ rfl
 have h2 := hf 2 _ rfl
 rw [e0] at h0; rw [e1] at h1; rw [e2] at h2
 change DataW.trod enc Tryz.prog w base spare held m 3 ((cs.drop 0).take (Tryz.prog.cellsOf 3)) = some y0 at h0
 change DataW.trod enc Tryz.prog w base spare held m 5 ((cs.drop 1).take (Tryz.prog.cellsOf 5)) = some y1 at h1
 change DataW.trod enc Tryz.prog w base spare held m 3 ((cs.drop 2).take (Tryz.prog.cellsOf 3)) = some y2 at h2
 rw [cellsInt] at h0 h2
 rw [cellsU8'] at h1
 obtain ⟨z0, q0, _, _⟩ := DataW.trod_int Tryz.underlying3 h0
 obtain ⟨z1, q1, _, hwf⟩ := DataW.trod_int Tryz.underlying5 h1
 obtain ⟨z2, q2, _, _⟩ := DataW.trod_int Tryz.underlying3 h2
 refine ⟨(z0, z1, z2), List.ext_getElem? fun j => ?_, u8_of' hwf⟩
 match j with
 | 0 => rw [one_of' q0]; rfl
 | 1 => rw [one_of' q1]; rfl
 | 2 => rw [one_of' q2]; rfl
 | j + 3 =>
  rw [List.getElem?_eq_none (by omega), List.getElem?_eq_none]
  show 3 ≤ j + 3
  omega
theorem e_cells {n : Nat} {cs : List Value} {x : DataW H × List MemPlace} (h : DataW.trod enc Tryz.prog w base spare held n 57 cs = some x) : ∃ d : ET, cs = eC d ∧ (0 ≤ d.2.1 ∧ d.2.1 < 256) := by
 obtain ⟨xs, m, _, _, hl, hlen, hf⟩ := DataW.trod_struct Tryz.underlying57 h
 rw [cellsE05] at hl
 have hx : ∀ i, i < 4 → ∃ y, xs[i]? = some y := fun i hi => ⟨_, List.getElem?_eq_getElem (by rw [hlen]; exact hi)⟩
 obtain ⟨y0, e0⟩ := hx 0 (by decide)
 obtain ⟨y1, e1⟩ := hx 1 (by decide)
 obtain ⟨y2, e2⟩ := hx 2 (by decide)
 obtain ⟨y3, e3⟩ := hx 3 (by decide)
 have h0 := hf 0 _ rfl
 have h1 := hf 1 _ rfl
 have h2 := hf 2 _ rfl
 have h3 := hf 3 _ rfl
 rw [e0] at h0; rw [e1] at h1; rw [e2] at h2; rw [e3] at h3
 change DataW.trod enc Tryz.prog w base spare held m 3 ((cs.drop 0).take (Tryz.prog.cellsOf 3)) = some y0 at h0
 change DataW.trod enc Tryz.prog w base spare held m 3 ((cs.drop 1).take (Tryz.prog.cellsOf 3)) = some y1 at h1
 change DataW.trod enc Tryz.prog w base spare held m 5 ((cs.drop 2).take (Tryz.prog.cellsOf 5)) = some y2 at h2
 change DataW.trod enc Tryz.prog w base spare held m 3 ((cs.drop 3).take (Tryz.prog.cellsOf 3)) = some y3 at h3
 rw [cellsInt] at h0 h1 h3
 rw [cellsU8'] at h2
 obtain ⟨z0, q0, _, _⟩ := DataW.trod_int Tryz.underlying3 h0
 obtain ⟨z1, q1, _, _⟩ := DataW.trod_int Tryz.underlying3 h1
 obtain ⟨z2, q2, _, hwf⟩ := DataW.trod_int Tryz.underlying5 h2
 obtain ⟨z3, q3, _, _⟩ := DataW.trod_int Tryz.underlying3 h3
 refine ⟨((z0, z1), (z2, z3)), List.ext_getElem? fun j => ?_, u8_of' hwf⟩
 match j with
 | 0 => rw [one_of' q0]; rfl
 | 1 => rw [one_of' q1]; rfl
 | 2 => rw [one_of' q2]; rfl
 | 3 => rw [one_of' q3]; rfl
 | j + 4 =>
  rw [List.getElem?_eq_none (by omega), List.getElem?_eq_none]
  show 4 ≤ j + 4
  omega
theorem els_at {α : Type} {c : α → List Value} {k : Nat} (hk : ∀ x, (c x).length = k) {a : Addr} {f : Nat → α} : ∀ (n s : Nat), (∀ i, s ≤ i → i < s + n → ∀ j u, (c (f i))[j]? = some u → w.cell? (a.add (i * k + j)) = some u) → ∀ j u, (((List.range' s n).map f).flatMap c)[j]? = some u → w.cell? (a.add (s * k + j)) = some u
 | 0, s, h, j, u, hu => by simp at hu
 | n + 1, s, h, j, u, hu => by
  have hln := hk (f s)
  rw [List.range'_succ, List.map_cons, List.flatMap_cons] at hu
  by_cases hj : j < k
  ·rw [List.getElem?_append_left (by rw [hln]; exact hj)] at hu
   exact h s (Nat.le_refl _) (by omega) j u hu
  ·rw [List.getElem?_append_right (by rw [hln]; omega), hln] at hu
   have := els_at hk n (s + 1) (fun i h1 h2 => h i (by omega) (by omega)) (j - k) u hu
   rwa [show (s + 1) * k + (j - k) = s * k + j by rw [Nat.succ_mul]; omega] at this
theorem v_all {G : Nat → Prop} : ∀ l : List VT, Cells vtE G w l (l.flatMap vC)
 | [] => rfl
 | d :: l => ⟨vC d, _, rfl, ⟨[I d.1], [.int .u8 d.2.1, I d.2.2], rfl, rfl, [.int .u8 d.2.1], [I d.2.2], rfl, rfl, rfl⟩, v_all l⟩
theorem e_all {G : Nat → Prop} : ∀ l : List ET, Cells etE G w l (l.flatMap eC)
 | [] => rfl
 | d :: l => ⟨eC d, _, rfl, ⟨[I d.1.1, I d.1.2], [.int .u8 d.2.1, I d.2.2], rfl, ⟨[I d.1.1], [I d.1.2], rfl, rfl, rfl⟩, [.int .u8 d.2.1], [I d.2.2], rfl, rfl, rfl⟩, e_all l⟩
set_option maxRecDepth 100000 in
theorem open_els {α : Type} [Inhabited α] {e : Enc α} {c : α → List Value} {Q : α → Prop} {k : Nat} {t te : TypeId} (ht : Tryz.prog.underlying t = some (.slice te)) (hte : Tryz.prog.cellsOf te = k) (hk0 : 0 < k) (hk : ∀ x, (c x).length = k)
  (hel : ∀ (n : Nat) (cs : List Value) (x : DataW H × List MemPlace), DataW.trod enc Tryz.prog w 0 spare held n te cs = some x → ∃ d, cs = c d ∧ Q d) (hall' : ∀ l : List α, Cells e Go.Mono.G0 w l (l.flatMap c))
  {v : Value} {x : DataW H × List MemPlace} {fuel b0 : Nat} (hok : Value.okWide Tryz.prog w .any b0 t v) (hf : DataW.trod enc Tryz.prog w 0 spare held fuel t v.cells.toList = some x) : ∃ l : List α, (Dv (slE e) Go.Mono.G0 l).p v w ∧ ∀ d ∈ l, Q d := by
 obtain ⟨a0, n0, c0, rfl⟩ := okWide_slice ht hok
 rcases Deep.open_slice ht hf with ⟨hcs, _⟩ | ⟨a, len, cap, m, n, D, Pl, hcs, _, hlc, _, hm, _, hall⟩
 ·simp [Value.cells] at hcs
  obtain ⟨rfl, rfl, rfl⟩ := hcs
  exact ⟨[], Dv.nil, by simp⟩
 ·simp [Value.cells] at hcs
  obtain ⟨rfl, rfl, rfl⟩ := hcs
  have hlm : n0 ≤ m := by rw [hm]; split <;> omega
  have each : ∀ i, i < n0 → ∃ b : α, Q b ∧ ∀ j u, (c b)[j]? = some u → w.cell? (a.add (i * k + j)) = some u := by
   intro i hi
   obtain ⟨cs', h1, h2⟩ := hall i (by omega)
   rw [hte] at h1
   obtain ⟨_, hlen, hcell⟩ := World.cells?_some h1
   obtain ⟨b, rfl, hb⟩ := hel _ _ _ h2
   refine ⟨b, hb, fun j u hu => ?_⟩
   have hj : j < k := by have := (List.getElem?_eq_some_iff.1 hu).1; rwa [hk] at this
   have := hcell j hj
   rw [Deep.add_add] at this
   rw [this]; exact hu
  obtain ⟨f, hf'⟩ := Deep.choose_lt each
  by_cases h0 : n0 = 0
  ·subst h0
   have hb : a.block < w.heap.size := by
    have h1 : Cell.ok Tryz.prog w .any b0 t (.slice (some a) 0 c0) := by
     have := hok
     simpa [Value.okWide, Cell.okWide, ht] using this
    have h2 : 0 ≤ c0 ∧ (c0 : Int) ≤ IntKind.i64.max ∧ w.has Tryz.prog .any b0 a te c0 := by
     simpa [Cell.ok, ht] using h1
    have h3 := h2.2.2.2.2
    obtain ⟨row, h3⟩ := h3
    obtain ⟨cells, h3⟩ := h3
    have h4 := h3.1
    apply Classical.byContradiction
    intro hn
    have : w.heap[a.block]? = none := Array.getElem?_eq_none (by omega)
    simp [World.shape?, this] at h4
   exact ⟨[], Dv.sl.2 (.inr ⟨a, c0, [], rfl, by simp, fun hg => hg.elim, hb, rfl, fun j u hu => by simp at hu⟩), by simp⟩
  ·refine ⟨(List.range n0).map f, Dv.sl.2 (.inr ⟨a, c0, ((List.range n0).map f).flatMap c, by simp, by simpa using hlc, fun hg => hg.elim, ?_, hall' _, fun j u hu => ?_⟩), ?_⟩
   ·obtain ⟨u, hu⟩ : ∃ u, (c (f 0))[0]? = some u := ⟨_, List.getElem?_eq_getElem (by rw [hk]; exact hk0)⟩
    have := (hf' 0 (by omega)).2 0 u hu
    have := World.block_lt_of_cell? w _ this
    simpa [add_block] using this
   ·rw [List.range_eq_range'] at hu
    have := els_at (w := w) hk (a := a) (f := f) n0 0 (fun i _ hi j u hu => (hf' i (by omega)).2 j u hu) j u hu
    simpa using this
   ·intro d hd
    obtain ⟨i, hi, rfl⟩ := List.mem_map.1 hd
    exact (hf' i (List.mem_range.1 hi)).1
theorem okWide_st {P : Program} {t : TypeId} {fs : Array Field} (ht : P.underlying t = some (.struct fs)) {r : Reach} {b0 : Nat} {v : Value} (h : Value.okWide P w r b0 t v) : ∃ cs, v = .agg cs ∧ cs.size = P.cellsOf t ∧ Row.okWide P w r b0 t cs := by
 simp only [Value.okWide, ht] at h
 exact h
theorem okWide_slC {P : Program} {t te : TypeId} (ht : P.underlying t = some (.slice te)) {r : Reach} {b0 : Nat} {v : Value} (h : Cell.okWide P w r b0 t v) : Value.okWide P w r b0 t v := by
 simp only [Value.okWide, ht]
 exact h
set_option maxRecDepth 100000 in
theorem open_g {v : Value} {d : DataW H} {ps : List MemPlace} {b0 : Nat} (hok : Value.okWide Tryz.prog w .any b0 25 v) (h : DataW.Trod enc Tryz.prog w 0 spare held 25 v d ps) : ∃ g : GT, (Dv gtE Go.Mono.G0 g).p v w ∧ (∀ x ∈ g.1, 0 ≤ x.2.1 ∧ x.2.1 < 256) ∧ ∀ x ∈ g.2, 0 ≤ x.2.1 ∧ x.2.1 < 256 := by
 obtain ⟨fuel, hf⟩ := h
 obtain ⟨cs, rfl, hsz, ts, hts, _, hrow⟩ := okWide_st Tryz.underlying25 hok
 rw [typesG05] at hts
 cases hts
 rw [cellsG05] at hsz
 obtain ⟨u1, u2, rfl⟩ : ∃ u1 u2, cs = #[u1, u2] := by
  obtain ⟨cs⟩ := cs
  match cs, hsz with
  | [u1, u2], _ => exact ⟨u1, u2, rfl⟩
 obtain ⟨t1, q1, k1⟩ := hrow 0 u1 rfl
 obtain ⟨t2, q2, k2⟩ := hrow 1 u2 rfl
 cases q1; cases q2
 obtain ⟨y0, y1, n, _, _, h0, h1⟩ := trod_struct2 Tryz.underlying25 hf
 have e1 : u1.cells.toList = [u1] := by
  obtain ⟨a0, n0, c0, rfl⟩ := okWide_slice Tryz.underlying22 (okWide_slC Tryz.underlying22 k1)
  rfl
 have e2 : u2.cells.toList = [u2] := by
  obtain ⟨a0, n0, c0, rfl⟩ := okWide_slice Tryz.underlying23 (okWide_slC Tryz.underlying23 k2)
  rfl
 have h0' : DataW.trod enc Tryz.prog w 0 spare held n 22 u1.cells.toList = some y0 := by
  rw [e1]
  change DataW.trod enc Tryz.prog w 0 spare held n 22 (([u1, u2].drop 0).take (Tryz.prog.cellsOf 22)) = some y0 at h0
  rw [cellsSV] at h0
  exact h0
 have h1' : DataW.trod enc Tryz.prog w 0 spare held n 23 u2.cells.toList = some y1 := by
  rw [e2]
  change DataW.trod enc Tryz.prog w 0 spare held n 23 (([u1, u2].drop 1).take (Tryz.prog.cellsOf 23)) = some y1 at h1
  rw [cellsSE] at h1
  exact h1
 obtain ⟨V, g1, g2⟩ := open_els (e := vtE) (c := vC) (k := 3) Tryz.underlying22 cellsV05 (by decide) (fun _ => rfl) (fun n cs x h => v_cells h) v_all (okWide_slC Tryz.underlying22 k1) h0'
 obtain ⟨E', g3, g4⟩ := open_els (e := etE) (c := eC) (k := 4) Tryz.underlying23 cellsE05 (by decide) (fun _ => rfl) (fun n cs x h => e_cells h) e_all (okWide_slC Tryz.underlying23 k2) h1'
 exact ⟨(V, E'), Dv.gt.2 ⟨_, _, rfl, g1, g3⟩, g2, g4⟩
end
end Go.Mono

namespace Go.Proofs.YtlfbebmhghpkaaaGreatDoor
open Go Go.ChangeShapes Go.WideShapes Go.ChangeAt Go.RowKit

theorem own : ownKnob Tryz.prog.godebug = none := by kernel_rfl
theorem laidOut : laidOutB Tryz.prog = true := by kernel_rfl
theorem tabG : Tryz.prog.globalNamed "math/bits.deBruijn64tab" = some 0 := by kernel_rfl
theorem tabT : (Tryz.prog.globals[0]?).map (·.type) = some 148 := by kernel_rfl
theorem tabC : Tryz.prog.cellsOf 148 = 64 := by kernel_rfl
theorem tabE : Tryz.prog.cellsOf 5 = 1 := by kernel_rfl
theorem tab_of_laid {W : World} (h : laidMet Tryz.prog [("math/bits.deBruijn64tab", Rows.laid_math_bits_deBruijn64tab)] W) : Mono.Tab W := by
 have h2 := Lib.tabIs_of_head (k := .u8) (zs := Mono.tabZ.map fun n : Nat => (n : Int)) (rest := []) tabG tabT Tryz.underlying148 Tryz.underlying5 tabE tabC (show laidMet Tryz.prog (("math/bits.deBruijn64tab", Lib.tabData .u8 (Mono.tabZ.map fun n : Nat => (n : Int))) :: []) W from h)
 intro i hi
 rw [h2.cell tabG i (by simpa [Mono.tabZ] using hi)]
 congr 2
 simp [List.getD, List.getElem?_map]
 cases Mono.tabZ[i]? <;> rfl
noncomputable def tabWorld (os : Os) : World :=
 let w0 := World.holding Tryz.prog os ⟨#[], #[], []⟩
 { w0 with heap := w0.heap.modify 0 fun
   | .cells _ t frozen => .cells (Mono.tabZ.map fun n : Nat => Value.int .u8 (n : Int)).toArray t frozen
   | o => o }
theorem tab_met (os : Os) (args : Array Value) : laidMet Tryz.prog [("math/bits.deBruijn64tab", Rows.laid_math_bits_deBruijn64tab)] ((tabWorld os).forCall (fun _ _ => 0) ⟨#[], args, []⟩).memory :=
 laidMet_of_run' 8 (by kernel_rfl) (by kernel_rfl)
end Go.Proofs.YtlfbebmhghpkaaaGreatDoor

namespace Go.Mono
open Go Go.Proofs Go.RowKit Go.Gr
def ofS (s : GT × Int) (d : DT) : GT × Int := if s.2 ≠ 0 then s else if (doR s.1 d).2 ≠ 0 then (([], []), (doR s.1 d).2) else ((doR s.1 d).1, 0)
def ofR (V : List VT) (E : List ET) : GT × Int := (V.map dV ++ E.map dE).foldl ofS (([], []), 0)
theorem ofS_stop {s : GT × Int} (h : s.2 ≠ 0) (l : List DT) : l.foldl ofS s = s := by
 induction l generalizing s with
 | nil => rfl
 | cons d l ih => rw [List.foldl_cons, ofS, if_pos h]; exact ih h
theorem ofS_next {l : List DT} {k : Nat} {d : DT} {s0 : GT × Int} {g : GT} (h : l[k]? = some d) (hg : (l.take k).foldl ofS s0 = (g, 0)) : (l.take (k + 1)).foldl ofS s0 = ofS (g, 0) d := by
 rw [take_succ_get h, List.foldl_append, hg]; rfl
theorem ofS_all {l : List DT} {k : Nat} {s0 : GT × Int} {s : GT × Int} (hg : (l.take k).foldl ofS s0 = s) (hs : s.2 ≠ 0) : l.foldl ofS s0 = s := by
 rw [← List.take_append_drop k l, List.foldl_append, hg, ofS_stop hs]
theorem bR4 (x : DT) : Tryz.prog.built 104 [(0, .int .i64 x.1), (1, .int .i64 x.2.1), (3, .int .u8 x.2.2.2.1), (4, .int .i64 x.2.2.2.2)] = some #[.int .i64 x.1, .int .i64 x.2.1, .int .i64 0, .int .u8 x.2.2.2.1, .int .i64 x.2.2.2.2] := by kernel_rfl
theorem bR5 (x : DT) : Tryz.prog.built 104 [(0, .int .i64 x.1), (1, .int .i64 x.2.1), (2, .int .i64 x.2.2.1), (3, .int .u8 x.2.2.2.1), (4, .int .i64 x.2.2.2.2)] = some #[.int .i64 x.1, .int .i64 x.2.1, .int .i64 x.2.2.1, .int .u8 x.2.2.2.1, .int .i64 x.2.2.2.2] := by kernel_rfl
theorem of05_spec {G : Nat → Prop} (V : List VT) (E' : List ET) (v u : Value) (W : World) (h1 : (Dv (slE vtE) G V).p v W) (h2 : (Dv (slE etE) G E').p u W) (hl1 : V.length ≤ 1000) (hl2 : E'.length ≤ 1000) {K : Nat → Prop} (hK : ∀ b, K b → b < W.heap.size) :
  Calls Tryz.prog 14 #[v, u] W (Post (Tup [Dv gtE K (ofR V E').1, E (I (ofR V E').2)]) W) := by
 replace h1 : (Dv (slE vtE) Go.Mono.G0 V).p v W := Dv.weak h1 fun b _ hb => hb.elim
 replace h2 : (Dv (slE etE) Go.Mono.G0 E').p u W := Dv.weak h2 fun b _ hb => hb.elim
 refine enter (args := [v, u]) (As := [E v, E u]) Tryz.func14 rfl Tryz.ntmps14 (Nat.le_of_ble_eq_true rfl) ?_ (fun a hf => ?_) (Nat.le_of_ble_eq_true rfl)
 rotate_left
 dsimp only [params, Nat.reduceAdd] at hf
 rotate_right
 ·exact arg2 rfl rfl
 have e := Ext.rfl' W
 repeat refine seq ?_
 refine regn0 ?_
 refine tl_alloc I25 hf (by decide) fun a b4 w e' hb4 hs4 B4 hf => ?_
 have hle4 := Nat.le_trans e.size (Nat.le_of_eq hb4.symm)
 replace e := e.tr e'
 refine tl_as hf rfl (by decide) fun a hf => ?_
 refine tl_nil ?_
 repeat refine seq ?_
 refine regn 1 hf (by decide +kernel) ?_
 refine st (bldV [] rfl bG_0) ?_
 refine en fun a w e' hf => ?_
 replace e := e.tr e'
 replace B4 := B4.ext e'
 clear e'
 refine tl_alloc I25 hf (by decide) fun a b6 w e' hb6 hs6 B6 hf => ?_
 have hle6 := Nat.le_trans e.size (Nat.le_of_eq hb6.symm)
 have lt6_B4 := B4.lt
 replace e := e.tr e'
 replace B4 := B4.ext e'
 clear e'
 haveI hinr : ∀ G0, InR (GB W G0) (some b6) := fun G0 => InR.gb (by omega)
 refine tl_stW T25 hf rfl rfl (one2 rfl rfl) B6 rfl (rfl) fun w hg hsz B6 hf => ?_
 replace e := e.gr hg (by omega)
 replace B4 := B4.gr hg (by omega)
 clear hg
 refine tl_nil ?_
 obtain ⟨G', hG'⟩ : ∃ G' : Nat → Prop, G' = fun b => K b ∨ b = b4 ∨ b = b6 := ⟨_, rfl⟩
 haveI i6 : InR G' (some b6) := ⟨fun b hb => by rw [hG']; cases hb; exact .inr (.inr rfl)⟩
 have hGb : ∀ w : World, Ext W w → b4 < w.heap.size → b6 < w.heap.size → ∀ b, G' b → b < w.heap.size := fun w e h2 h3 b hb => by
  rw [hG'] at hb
  rcases hb with hb | rfl | rfl
  ·exact Nat.lt_of_lt_of_le (hK b hb) e.size
  ·exact h2
  ·exact h3
 repeat refine seq ?_
 refine regn0 ?_
 refine tl_as hf rfl (by decide) fun a hf => ?_
 refine tl_nil ?_
 repeat refine seq ?_
 refine regn0 ?_
 refine tl_as hf rfl (by decide) fun a hf => ?_
 refine tl_nil ?_
 replace hf := hf.kp [0, 1, 4, 6, 7, 8]
 repeat refine seq ?_
 refine blk (loopN (fun r0 a w => ∃ (k : Nat) (gc : GT × Array Value), r0 = V.length - k ∧ k ≤ V.length ∧ Fr 79 a w [(0, E v), (1, E u), (4, E (.pointer (some ⟨b4, 0, none⟩))), (6, E (.pointer (some ⟨b6, 0, none⟩))), (7, E (I 0)), (8, E (I k))] ∧ Ext W w ∧ Blk w b4 #[.slice none 0 0, .slice none 0 0] 25 ∧ Blk w b6 gc.2 25 ∧ (Dv gtE G' gc.1).p (.agg gc.2) w ∧ ((V.map dV).take k).foldl ofS (([], []), 0) = (gc.1, 0) ∧ gc.1.1.length ≤ k ∧ gc.1.2.length ≤ k) V.length ⟨0, (([],  []),  #[.slice none 0 0,  .slice none 0 0]), rfl, by omega, hf, e, ⟨B4, B6, Dv.gt.2 ⟨_, _, rfl, Dv.nil, Dv.nil⟩, rfl, Nat.le_refl _, Nat.le_refl _⟩⟩ ?_)
 clear hf e; try clear B4; try clear B6; try clear HD; try clear hfd; try clear hn1; try clear hn2
 rintro r0 a w ⟨k, gc, rfl, hk, hf, e, B4, B6, HD, hfd, hn1, hn2⟩
 repeat refine seq ?_
 refine regn 4 hf (by decide +kernel) ?_
 refine st (mv rfl) ?_
 refine st (mv rfl) ?_
 refine st (lenD Tryz.underlying22 (isE rfl (VA.st _ _ _ _ e h1))) ?_
 refine st (lss rfl rfl) ?_
 refine en fun a w e' hf => ?_
 replace HD := VA.st _ _ _ _ e' HD
 replace e := e.tr e'
 replace B4 := B4.ext e'
 replace B6 := B6.ext e'
 refine tl_nil ?_
 repeat refine seq ?_
 refine ifc hf rfl (fun hc => wskip ?_) (fun hc => wexit ?_)
 rotate_left
 rotate_left
 ·have hlt : k < V.length := by have := of_decide_eq_true hc; (try dsimp only at this); omega
  clear hc
  replace hf := hf.kp [0, 1, 4, 6, 7, 8]
  repeat refine seq ?_
  refine blk ?_
  obtain ⟨g, cs⟩ := gc
  dsimp only at *
  have hx := List.getElem?_eq_getElem hlt
  generalize V[k] = x at hx
  have hxd : (V.map dV)[k]? = some (dV x) := by rw [List.getElem?_map, hx]; rfl
  have hnx := ofS_next hxd hfd
  have hln := doR_len g (dV x)
  have hcs : cs.size = 2 := by obtain ⟨cs', h1', h2', _⟩ := Dv.gtOne HD; cases h1'; exact h2'
  have hv := VA.st _ _ _ _ e h1
  have l4 := B4.lt; have l6 := B6.lt
  replace hf := hf.kp [0, 1, 4, 6, 7, 8]
  repeat refine seq ?_
  refine regJ 22 [0, 0, 0, 0, 0, 0, 0, 0, 0, 0, 0, 0, 0, 0, 0, 0, 0, 0, 2, 0, 1] (Chg fun c => c = b6) (RelJ.one _) (fun w => ∃ cs, Blk w b6 cs 25 ∧ (Dv gtE G' (doR g (dV x)).1).p (.agg cs) w) (fun w w1 k h => h.imp fun cs h => ⟨h.1.ext k, VA.st _ _ _ _ k h.2⟩) Mix.mix hf (by decide +kernel) (by decide +kernel) ?_
  refine ja (ldW T25 rfl B6 hcs) ?_
  refine ja (mv rfl) ?_
  refine ja (mv rfl) ?_
  refine ja (idxD Tryz.underlying22 S48 (isE rfl hv) rfl (by omega) (hx)) ?_
  refine ja (fldD Tryz.underlying48 rfl T3 (by decide) (Fld.fst Fld.refl) (isR rfl)) ?_
  refine ja (ldI T3 (isR rfl)) ?_
  refine ja (mv rfl) ?_
  refine ja (mv rfl) ?_
  refine ja (idxD Tryz.underlying22 S48 (isE rfl hv) rfl (by omega) (hx)) ?_
  refine ja (fldD Tryz.underlying48 rfl T5 (by decide) (Fld.snd (Fld.fst Fld.refl) rfl) (isR rfl)) ?_
  refine ja (ldU T5 (isR rfl)) ?_
  refine ja (mv rfl) ?_
  refine ja (mv rfl) ?_
  refine ja (idxD Tryz.underlying22 S48 (isE rfl hv) rfl (by omega) (hx)) ?_
  refine ja (fldD Tryz.underlying48 rfl T3 (by decide) (Fld.snd (Fld.snd Fld.refl rfl) rfl) (isR rfl)) ?_
  refine ja (ldI T3 (isR rfl)) ?_
  refine ja (bldD4 (dV x) rfl (bR4 (dV x)) rfl rfl rfl rfl) ?_
  refine ja (call2 (A := Tup [Dv gtE G' (doR g (dV x)).1, E (I (doR g (dV x)).2)]) En43 rfl rfl (fun v u w he k1 k2 => by cases k1; cases k2; exact do_spec (G := G') g (dV x) _ w (VA.st _ _ _ _ he HD) (hGb w (Ext.tr e he) (Nat.lt_of_lt_of_le l4 he.size) (Nat.lt_of_lt_of_le l6 he.size)) (by omega) (by omega))) ?_
  refine jk (mv rfl) ?_
  refine ja (ext_ rfl rfl) ?_
  refine jf (fun w1 h1 => ext_ rfl rfl) ?_
  refine jx (xstB T25 rfl B6 hcs rfl (fun v w hv => Dv.gtOne hv) (fun v w w' hc hv => Dv.ch hv hc fun b hb => by rw [hG', hb]; exact .inr (.inr rfl))) ?_
  refine je ?_
  refine fun a w hc HF hf => ?_
  try dsimp only [push] at hf
  obtain ⟨cs', B6, HD⟩ := HF
  replace e := e.ch hc (fun b hb => by rw [hb]; omega)
  replace B4 := B4.ch hc (by omega)
  clear hc hv
  refine tl_as hf rfl (by decide) fun a hf => ?_
  refine tl_nil ?_
  replace hf := hf.kp [0, 1, 4, 6, 7, 8]
  repeat refine seq ?_
  refine regn 2 hf (by decide +kernel) ?_
  refine st (mv rfl) ?_
  refine st (neq rfl rfl) ?_
  refine en fun a w e' hf => ?_
  replace HD := VA.st _ _ _ _ e' HD
  replace e := e.tr e'
  replace B4 := B4.ext e'
  replace B6 := B6.ext e'
  refine tl_nil ?_
  repeat refine seq ?_
  refine ifc hf rfl (fun hb => ?_) (fun hb => ?_)
  ·have hb' : (doR g (dV x)).2 ≠ 0 := by simpa using hb
   rw [ofS, if_neg (by simp), if_pos hb'] at hnx
   have hall : ofR V E' = (([], []), (doR g (dV x)).2) := by rw [ofR, List.foldl_append, ofS_all hnx hb']; exact ofS_stop (s := (([], []), (doR g (dV x)).2)) hb' _
   repeat refine seq ?_
   refine regn 2 hf (by decide +kernel) ?_
   refine st (bldV [] rfl bG_0) ?_
   refine st (mv rfl) ?_
   refine en fun a w e' hf => ?_
   replace HD := VA.st _ _ _ _ e' HD
   replace e := e.tr e'
   replace B4 := B4.ext e'
   replace B6 := B6.ext e'
   clear e'
   haveI hinr : ∀ G0, InR (GB W G0) (some b4) := fun G0 => InR.gb (by omega)
   refine tl_stW T25 hf rfl rfl (one2 rfl rfl) B4 rfl (rfl) fun w hg hsz B4 hf => ?_
   replace HD := HD
   replace e := e.gr hg (by omega)
   replace B6 := B6.gr hg (by omega)
   clear hg
   refine tl_as hf rfl (by decide) fun a hf => ?_
   refine tl_nil ?_
   refine wret ?_
   try simp only [Exit.then, Exit.inBlock]
   refine ret2c rfl T25 hf rfl rfl B4 rfl ?_
   rintro _ rfl
   exact ⟨_, rfl, e, by rw [hall]; exact Tup.two (Dv.gt.2 ⟨_, _, rfl, Dv.nil, Dv.nil⟩) rfl⟩
  ·have hb' : (doR g (dV x)).2 = 0 := by simpa using hb
   refine wskip ?_
   try simp only [Exit.then, Exit.inBlock, ↓reduceIte]
   rw [hb'] at hf
   rw [ofS, if_neg (by simp), if_neg (by simpa using hb')] at hnx
   try simp only [Exit.then, Exit.inBlock, ↓reduceIte]
   repeat refine seq ?_
   refine regn 2 hf (by decide +kernel) ?_
   refine st (mv rfl) ?_
   refine st ((add rfl rfl (by omega)).eq (congrArg (Value.int .i64) (show (k : Int) + 1 = ((k + 1 : Nat) : Int) from rfl))) ?_
   refine en fun a w e' hf => ?_
   replace HD := VA.st _ _ _ _ e' HD
   replace e := e.tr e'
   replace B4 := B4.ext e'
   replace B6 := B6.ext e'
   refine tl_as hf rfl (by decide) fun a hf => ?_
   refine tl_nil ?_
   replace hf := hf.kp [0, 1, 4, 6, 7, 8]
   refine ⟨_, ?_, k + 1, ((doR g (dV x)).1, cs'), rfl, by omega, hf, e, ?_⟩
   ·omega
   exact ⟨B4, B6, HD, hnx, by show (doR g (dV x)).1.1.length ≤ k + 1; omega, by show (doR g (dV x)).1.2.length ≤ k + 1; omega⟩
 ·obtain rfl : k = V.length := by have := of_decide_eq_false hc; (try dsimp only at this); omega
  clear hc
  simp only [Exit.then, Exit.inBlock, ↓reduceIte]
  obtain ⟨g0, cs0⟩ := gc
  dsimp only at *
  rw [List.take_of_length_le (by simp)] at hfd
  replace hf := hf.kp [1, 4, 6, 7]
  repeat refine seq ?_
  refine regn0 ?_
  refine tl_as hf rfl (by decide) fun a hf => ?_
  refine tl_nil ?_
  replace hf := hf.kp [1, 4, 6, 7, 9]
  repeat refine seq ?_
  refine blk (loopN (fun r0 a w => ∃ (k : Nat) (gc : GT × Array Value), r0 = E'.length - k ∧ k ≤ E'.length ∧ Fr 79 a w [(1, E u), (4, E (.pointer (some ⟨b4, 0, none⟩))), (6, E (.pointer (some ⟨b6, 0, none⟩))), (7, E (I 0)), (9, E (I k))] ∧ Ext W w ∧ Blk w b4 #[.slice none 0 0, .slice none 0 0] 25 ∧ Blk w b6 gc.2 25 ∧ (Dv gtE G' gc.1).p (.agg gc.2) w ∧ ((E'.map dE).take k).foldl ofS (g0, 0) = (gc.1, 0) ∧ gc.1.1.length ≤ V.length + k ∧ gc.1.2.length ≤ V.length + k) E'.length ⟨0, (g0,  cs0), rfl, by omega, hf, e, ⟨B4, B6, HD, rfl, hn1, hn2⟩⟩ ?_)
  clear hf e; try clear B4; try clear B6; try clear HD; try clear hfe; try clear hm1; try clear hm2
  rintro r0 a w ⟨k, gc, rfl, hk, hf, e, B4, B6, HD, hfe, hm1, hm2⟩
  repeat refine seq ?_
  refine regn 4 hf (by decide +kernel) ?_
  refine st (mv rfl) ?_
  refine st (mv rfl) ?_
  refine st (lenD Tryz.underlying23 (isE rfl (VA.st _ _ _ _ e h2))) ?_
  refine st (lss rfl rfl) ?_
  refine en fun a w e' hf => ?_
  replace HD := VA.st _ _ _ _ e' HD
  replace e := e.tr e'
  replace B4 := B4.ext e'
  replace B6 := B6.ext e'
  refine tl_nil ?_
  repeat refine seq ?_
  refine ifc hf rfl (fun hc => wskip ?_) (fun hc => wexit ?_)
  rotate_left
  rotate_left
  ·have hlt : k < E'.length := by have := of_decide_eq_true hc; (try dsimp only at this); omega
   clear hc
   replace hf := hf.kp [1, 4, 6, 7, 9]
   repeat refine seq ?_
   refine blk ?_
   obtain ⟨g, cs⟩ := gc
   dsimp only at *
   have hx := List.getElem?_eq_getElem hlt
   generalize E'[k] = x at hx
   have hxd : (E'.map dE)[k]? = some (dE x) := by rw [List.getElem?_map, hx]; rfl
   have hnx := ofS_next hxd hfe
   have hln := doR_len g (dE x)
   have hcs : cs.size = 2 := by obtain ⟨cs', h1', h2', _⟩ := Dv.gtOne HD; cases h1'; exact h2'
   have hv := VA.st _ _ _ _ e h2
   have l4 := B4.lt; have l6 := B6.lt
   replace hf := hf.kp [1, 4, 6, 7, 9]
   repeat refine seq ?_
   refine regJ 27 [0, 0, 0, 0, 0, 0, 0, 0, 0, 0, 0, 0, 0, 0, 0, 0, 0, 0, 0, 0, 0, 0, 0, 2, 0, 1] (Chg fun c => c = b6) (RelJ.one _) (fun w => ∃ cs, Blk w b6 cs 25 ∧ (Dv gtE G' (doR g (dE x)).1).p (.agg cs) w) (fun w w1 k h => h.imp fun cs h => ⟨h.1.ext k, VA.st _ _ _ _ k h.2⟩) Mix.mix hf (by decide +kernel) (by decide +kernel) ?_
   refine ja (ldW T25 rfl B6 hcs) ?_
   refine ja (mv rfl) ?_
   refine ja (mv rfl) ?_
   refine ja (idxD Tryz.underlying23 S57 (isE rfl hv) rfl (by omega) (hx)) ?_
   refine ja (fldD Tryz.underlying57 rfl T3 (by decide) (Fld.fst (Fld.fst Fld.refl)) (isR rfl)) ?_
   refine ja (ldI T3 (isR rfl)) ?_
   refine ja (mv rfl) ?_
   refine ja (mv rfl) ?_
   refine ja (idxD Tryz.underlying23 S57 (isE rfl hv) rfl (by omega) (hx)) ?_
   refine ja (fldD Tryz.underlying57 rfl T3 (by decide) (Fld.fst (Fld.snd Fld.refl rfl)) (isR rfl)) ?_
   refine ja (ldI T3 (isR rfl)) ?_
   refine ja (mv rfl) ?_
   refine ja (mv rfl) ?_
   refine ja (idxD Tryz.underlying23 S57 (isE rfl hv) rfl (by omega) (hx)) ?_
   refine ja (fldD Tryz.underlying57 rfl T5 (by decide) (Fld.snd (Fld.fst Fld.refl) rfl) (isR rfl)) ?_
   refine ja (ldU T5 (isR rfl)) ?_
   refine ja (mv rfl) ?_
   refine ja (mv rfl) ?_
   refine ja (idxD Tryz.underlying23 S57 (isE rfl hv) rfl (by omega) (hx)) ?_
   refine ja (fldD Tryz.underlying57 rfl T3 (by decide) (Fld.snd (Fld.snd Fld.refl rfl) rfl) (isR rfl)) ?_
   refine ja (ldI T3 (isR rfl)) ?_
   refine ja (bldD5 (dE x) (bR5 (dE x)) rfl rfl rfl rfl rfl) ?_
   refine ja (call2 (A := Tup [Dv gtE G' (doR g (dE x)).1, E (I (doR g (dE x)).2)]) En43 rfl rfl (fun v u w he k1 k2 => by cases k1; cases k2; exact do_spec (G := G') g (dE x) _ w (VA.st _ _ _ _ he HD) (hGb w (Ext.tr e he) (Nat.lt_of_lt_of_le l4 he.size) (Nat.lt_of_lt_of_le l6 he.size)) (by omega) (by omega))) ?_
   refine jk (mv rfl) ?_
   refine ja (ext_ rfl rfl) ?_
   refine jf (fun w1 h1 => ext_ rfl rfl) ?_
   refine jx (xstB T25 rfl B6 hcs rfl (fun v w hv => Dv.gtOne hv) (fun v w w' hc hv => Dv.ch hv hc fun b hb => by rw [hG', hb]; exact .inr (.inr rfl))) ?_
   refine je ?_
   refine fun a w hc HF hf => ?_
   try dsimp only [push] at hf
   obtain ⟨cs', B6, HD⟩ := HF
   replace e := e.ch hc (fun b hb => by rw [hb]; omega)
   replace B4 := B4.ch hc (by omega)
   clear hc hv
   refine tl_as hf rfl (by decide) fun a hf => ?_
   refine tl_nil ?_
   replace hf := hf.kp [1, 4, 6, 7, 9]
   repeat refine seq ?_
   refine regn 2 hf (by decide +kernel) ?_
   refine st (mv rfl) ?_
   refine st (neq rfl rfl) ?_
   refine en fun a w e' hf => ?_
   replace HD := VA.st _ _ _ _ e' HD
   replace e := e.tr e'
   replace B4 := B4.ext e'
   replace B6 := B6.ext e'
   refine tl_nil ?_
   repeat refine seq ?_
   refine ifc hf rfl (fun hb => ?_) (fun hb => ?_)
   ·have hb' : (doR g (dE x)).2 ≠ 0 := by simpa using hb
    rw [ofS, if_neg (by simp), if_pos hb'] at hnx
    have hall : ofR V E' = (([], []), (doR g (dE x)).2) := by rw [ofR, List.foldl_append, hfd, ofS_all hnx hb']
    repeat refine seq ?_
    refine regn 2 hf (by decide +kernel) ?_
    refine st (bldV [] rfl bG_0) ?_
    refine st (mv rfl) ?_
    refine en fun a w e' hf => ?_
    replace HD := VA.st _ _ _ _ e' HD
    replace e := e.tr e'
    replace B4 := B4.ext e'
    replace B6 := B6.ext e'
    clear e'
    haveI hinr : ∀ G0, InR (GB W G0) (some b4) := fun G0 => InR.gb (by omega)
    refine tl_stW T25 hf rfl rfl (one2 rfl rfl) B4 rfl (rfl) fun w hg hsz B4 hf => ?_
    replace HD := HD
    replace e := e.gr hg (by omega)
    replace B6 := B6.gr hg (by omega)
    clear hg
    refine tl_as hf rfl (by decide) fun a hf => ?_
    refine tl_nil ?_
    refine wret ?_
    try simp only [Exit.then, Exit.inBlock]
    refine ret2c rfl T25 hf rfl rfl B4 rfl ?_
    rintro _ rfl
    exact ⟨_, rfl, e, by rw [hall]; exact Tup.two (Dv.gt.2 ⟨_, _, rfl, Dv.nil, Dv.nil⟩) rfl⟩
   ·have hb' : (doR g (dE x)).2 = 0 := by simpa using hb
    refine wskip ?_
    try simp only [Exit.then, Exit.inBlock, ↓reduceIte]
    rw [hb'] at hf
    rw [ofS, if_neg (by simp), if_neg (by simpa using hb')] at hnx
    try simp only [Exit.then, Exit.inBlock, ↓reduceIte]
    repeat refine seq ?_
    refine regn 2 hf (by decide +kernel) ?_
    refine st (mv rfl) ?_
    refine st ((add rfl rfl (by omega)).eq (congrArg (Value.int .i64) (show (k : Int) + 1 = ((k + 1 : Nat) : Int) from rfl))) ?_
    refine en fun a w e' hf => ?_
    replace HD := VA.st _ _ _ _ e' HD
    replace e := e.tr e'
    replace B4 := B4.ext e'
    replace B6 := B6.ext e'
    refine tl_as hf rfl (by decide) fun a hf => ?_
    refine tl_nil ?_
    replace hf := hf.kp [1, 4, 6, 7, 9]
    refine ⟨_, ?_, k + 1, ((doR g (dE x)).1, cs'), rfl, by omega, hf, e, ?_⟩
    ·omega
    exact ⟨B4, B6, HD, hnx, by show (doR g (dE x)).1.1.length ≤ V.length + (k + 1); omega, by show (doR g (dE x)).1.2.length ≤ V.length + (k + 1); omega⟩
  ·obtain rfl : k = E'.length := by have := of_decide_eq_false hc; (try dsimp only at this); omega
   clear hc
   simp only [Exit.then, Exit.inBlock, ↓reduceIte]
   obtain ⟨g, cs⟩ := gc
   dsimp only at *
   rw [List.take_of_length_le (by simp)] at hfe
   have hall : ofR V E' = (g, 0) := by rw [ofR, List.foldl_append, hfd, hfe]
   obtain ⟨cs', h1', hcs, h1one⟩ := Dv.gtOne HD
   cases h1'
   haveI i4 : InR G' (some b4) := ⟨fun b hb => by rw [hG']; cases hb; exact .inr (.inl rfl)⟩
   replace hf := hf.kp [4, 6]
   repeat refine seq ?_
   refine regn 1 hf (by decide +kernel) ?_
   refine st (ldW T25 rfl B6 hcs) ?_
   refine en fun a w e' hf => ?_
   replace HD := VA.st _ _ _ _ e' HD
   replace e := e.tr e'
   replace B4 := B4.ext e'
   replace B6 := B6.ext e'
   clear e'
   refine tl_stW T25 hf rfl rfl h1one B4 rfl hcs fun w hg hsz B4 hf => ?_
   replace e := e.gr hg (by omega); replace HD := AvR.av (row := some b4) _ _ _ hg HD; clear hg
   refine tl_as hf rfl (by decide) fun a hf => ?_
   refine tl_nil ?_
   refine wret (ret2c rfl T25 hf rfl rfl B4 hcs ?_)
   rintro _ rfl
   exact ⟨_, rfl, e, by rw [hall]; exact Tup.two (Dv.weak HD fun b _ hb => by rw [hG']; exact .inl hb) rfl⟩
end Go.Mono

namespace Go.Mono
open Go Go.Proofs Go.RowKit Go.Gr
end Go.Mono

namespace Go.Mono
open Go Go.Proofs Go.RowKit Go.Gr
theorem ret2t {P : Program} {fn : Func} {t u s k : Nat} {R : Ending → World → Prop} {n : Nat} {a : Act} {w : World} {L : Env} {b : Nat} {cs : Array Value} {bt : TypeId} {A : VA} (hr : fn.results = #[.tmp s, .cell t u]) (ht : TI P u true k) (hf : Fr n a w L) (h : look L t = some (E (.pointer (some ⟨b, 0, none⟩)))) (h' : look L s = some A)
  (hb : Blk w b cs bt) (hs : cs.size = k) (hR : ∀ x, A.p x w → R (.returned (.tuple #[x, .agg cs])) w) : bodyPost P fn R .ret a w := by
 have hv : a.tmps.getD t undef = .pointer (some ⟨b, 0, none⟩) := hf.val t _ h
 have hv' : a.tmps[t]?.getD undef = .pointer (some ⟨b, 0, none⟩) := by simpa using hv
 obtain ⟨d, h1, h2⟩ := ht.u
 have hl := run_loadVar_row (P := P) w b bt u cs (0, 0) d hb h1 (by cases d <;> simp_all) (by rw [ht.s, hs])
 exact ⟨hf.defers, .tuple #[a.eval (.tmp s), .agg cs], by simp [results, hr, Act.eval, hv', asAddr, hl], hR _ (hf.val s A h')⟩
def frW (g : GT) (most : Int) : GT × Bool := if (decide (most < (g.1.length : Nat)) || decide ((40 : Int) < (g.2.length : Nat))) = true then (g, false) else if (ofR g.1 g.2).2 ≠ 0 then (g, false) else ((ofR g.1 g.2).1, true)
noncomputable def FrA (g : GT) (most : Int) : VA := ⟨fun v w => ((frW g most).2 = true → (Dv (ptE (grE 2000)) Go.Mono.G0 (some (frW g most).1)).p v w) ∧ ((frW g most).2 = false → v = .pointer none), fun v w w' e h => ⟨fun hc => Dv.ex (h.1 hc) e, h.2⟩⟩
theorem ofR_len {V : List VT} {E : List ET} (h : (ofR V E).2 = 0) : (ofR V E).1.1.length ≤ V.length + E.length ∧ (ofR V E).1.2.length ≤ V.length + E.length := by
 have : ∀ (l : List DT) (g : GT) (m : Nat), g.1.length ≤ m → g.2.length ≤ m → (l.foldl ofS (g, 0)).2 = 0 → (l.foldl ofS (g, 0)).1.1.length ≤ m + l.length ∧ (l.foldl ofS (g, 0)).1.2.length ≤ m + l.length := by
  intro l
  induction l with
  | nil => intro g m h1 h2 _; exact ⟨h1, h2⟩
  | cons d l ih =>
   intro g m h1 h2 h3
   rw [List.foldl_cons] at h3 ⊢
   by_cases hd : (doR g d).2 = 0
   ·have e1 : ofS (g, 0) d = ((doR g d).1, 0) := by rw [ofS, if_neg (by simp), if_neg (by simpa using hd)]
    rw [e1] at h3 ⊢
    have := doR_len g d
    have h5 := ih (doR g d).1 (m + 1) (by omega) (by omega) h3
    rw [List.length_cons]; omega
   ·have e1 : ofS (g, 0) d = (([], []), (doR g d).2) := by rw [ofS, if_neg (by simp), if_pos hd]
    rw [e1, ofS_stop (s := (([], []), (doR g d).2)) hd] at h3
    exact absurd h3 hd
 have h2 := this (V.map dV ++ E.map dE) ([], []) 0 (Nat.le_refl _) (Nat.le_refl _) h
 simpa [ofR] using h2
theorem ofR_ok {V : List VT} {E : List ET} (hV : ∀ x ∈ V, 0 ≤ x.2.1 ∧ x.2.1 < 256) (hE : ∀ x ∈ E, 0 ≤ x.2.1 ∧ x.2.1 < 256) : Gr.Ok (ofR V E).1 := by
 have z : Gr.Ok (([], []) : GT) := ⟨List.Pairwise.nil, List.Pairwise.nil, by simp, by simp, by simp⟩
 have : ∀ (l : List DT) (s : GT × Int), Gr.Ok s.1 → (∀ d ∈ l, 0 ≤ d.2.2.2.1 ∧ d.2.2.2.1 < 256) → Gr.Ok (l.foldl ofS s).1 := by
  intro l
  induction l with
  | nil => intro s h _; exact h
  | cons d l ih =>
   intro s h hl
   rw [List.foldl_cons]
   refine ih _ ?_ fun d hd => hl d (by simp [hd])
   unfold ofS
   split
   ·exact h
   ·split
    ·exact z
    ·exact ok_do h (hl d (by simp))
 refine this _ _ z fun d hd => ?_
 rcases List.mem_append.1 hd with h | h
 ·obtain ⟨x, hx, rfl⟩ := List.mem_map.1 h; exact hV x hx
 ·obtain ⟨x, hx, rfl⟩ := List.mem_map.1 h; exact hE x hx
theorem build_post {G : Nat → Prop} (g : GT) (hg : Gr.Ok g) (v u : Value) (W : World) (h1 : (Dv (slE vtE) G g.1).p v W) (h2 : (Dv (slE etE) G g.2).p u W) (hl1 : g.1.length ≤ 1000) (hl2 : g.2.length ≤ 1000) {K : Nat → Prop} (hK : ∀ b, K b → b < W.heap.size) :
  Calls Tryz.prog 15 #[v, u] W (Post (Tup [Dv (ptE (grE 2000)) K (some g), E (I 0)]) W) :=
 Calls.mono (build_spec g.1 g.2 v u W h1 h2 (by omega) (by omega) (okD_V hg) (okD_E hg)) fun en w' ⟨e, hq⟩ => by
  obtain ⟨g', k1, k2, k3⟩ := bld_ok hg
  rcases hq with ⟨g2, b1, b2, b3, q1, rfl, q3, q4, q5, q6⟩ | ⟨c, q0, q1, _⟩
  ·rw [k1] at q1; cases q1
   exact ⟨_, rfl, e, Tup.two ((q6.perm k2 k3).dv (by omega) (fun h => by have := hK _ h; omega) (fun h => by have := hK _ h; omega) (fun h => by have := hK _ h; omega)) rfl⟩
  ·rw [k1] at q1; cases q1
theorem from23_spec {G : Nat → Prop} (g : GT) (most : Int) (v : Value) (W : World) (h : (Dv gtE G g).p v W) (hm : most ≤ 100) (hV : ∀ x ∈ g.1, 0 ≤ x.2.1 ∧ x.2.1 < 256) (hE : ∀ x ∈ g.2, 0 ≤ x.2.1 ∧ x.2.1 < 256) :
  Calls Tryz.prog 5 #[v, I most] W (Post (Tup [FrA g most, Dv gtE Go.Mono.G0 (frW g most).1]) W) := by
 obtain ⟨u1, u2, rfl, h1, h2⟩ := Dv.gt.1 (Dv.weak (G' := Go.Mono.G0) h fun b _ hb => hb.elim)
 have h1b := Dv.toB h1
 have h2b := Dv.toB h2
 have hgb : (Dv gtE (GB W Go.Mono.G0) g).p (.agg #[u1, u2]) W := Dv.gt.2 ⟨_, _, rfl, h1b, h2b⟩
 refine enter (args := [.agg #[u1, u2], I most]) (As := [E (.agg #[u1, u2]), E (I most)]) Tryz.func5 rfl Tryz.ntmps5 (Nat.le_of_ble_eq_true rfl) ?_ (fun a hf => ?_) (Nat.le_of_ble_eq_true rfl)
 rotate_left
 dsimp only [params, Nat.reduceAdd] at hf
 rotate_right
 ·exact arg2 rfl rfl
 have e := Ext.rfl' W
 repeat refine seq ?_
 refine regn0 ?_
 refine tl_box hf rfl (by decide) fun a b2 w v2 hv2 e' hb2 hs2 B2 hf => ?_
 have hle2 := Nat.le_trans e.size (Nat.le_of_eq hb2.symm)
 replace e := e.tr e'
 refine tl_as hf rfl (by decide) fun a hf => ?_
 refine tl_alloc I25 hf (by decide) fun a b5 w e' hb5 hs5 B5 hf => ?_
 have hle5 := Nat.le_trans e.size (Nat.le_of_eq hb5.symm)
 have lt5_B2 := B2.lt
 replace e := e.tr e'
 replace B2 := B2.ext e'
 refine tl_nil ?_
 cases hv2
 repeat refine seq ?_
 refine regn 11 hf (by decide +kernel) ?_
 refine st (fldA Tryz.underlying25 rfl T22 (by decide) rfl) ?_
 refine st (ld1 T22 rfl (by assumption) rfl) ?_
 refine st (lenD Tryz.underlying22 (isE rfl (VA.st _ _ _ _ e h1))) ?_
 refine st (mv rfl) ?_
 refine st (gtr rfl rfl) ?_
 refine st (mv rfl) ?_
 refine sgE rfl rfl (.k 2 rfl .n) (fun hgd => fldA Tryz.underlying25 rfl T23 (by decide) rfl) ?_
 refine sgE rfl rfl (.c 20 rfl (fun h => h) .n) (fun hgd => ld1 T23 rfl (by assumption) rfl) ?_
 refine sgE rfl rfl (.c 21 rfl (fun h => h) .n) (fun hgd => lenD Tryz.underlying23 (isE rfl (VA.st _ _ _ _ e h2))) ?_
 refine sgE rfl rfl (.c 22 rfl (fun h => h) .n) (fun hgd => gtr rfl rfl) ?_
 refine st (pkOr rfl rfl (fun h => by rw [h]; rfl)) ?_
 refine en fun a w e' hf => ?_
 replace e := e.tr e'
 replace B2 := B2.ext e'
 replace B5 := B5.ext e'
 refine tl_nil ?_
 repeat refine seq ?_
 refine ifc hf rfl (fun hb => ?_) (fun hb => ?_)
 ·have hfw : frW g most = (g, false) := by rw [frW, if_pos hb]
  have hc2 : (#[u1, u2] : Array Value).all (·.oneCell') = true := one2 (slOne h1) (slOne h2)
  replace hf := hf.kp [2, 4, 5]
  repeat refine seq ?_
  refine regJ 3 [0, 1] (Chg fun c => c = b5) (RelJ.one _) (fun w => ∃ cs, Blk w b5 cs 25 ∧ (E (.agg #[u1, u2])).p (.agg cs) w) (fun w w1 k h => h.imp fun cs h => ⟨h.1.ext k, h.2⟩) Mix.mix hf (by decide +kernel) (by decide +kernel) ?_
  refine ja ((ldW T25 rfl B2 rfl).eq ((rfl : _ = Value.agg #[u1, u2]))) ?_
  refine jf (fun w1 h1 => asg rfl) ?_
  refine jx (xstB T25 rfl B5 rfl rfl (fun v w hv => ⟨_, hv, rfl, hc2⟩) (fun v w w' hc hv => hv)) ?_
  refine je ?_
  refine fun a w hc HF hf => ?_
  try dsimp only [push] at hf
  obtain ⟨cs, B5, hcs⟩ := HF
  cases hcs
  replace e := e.ch hc (fun b hb => by rw [hb]; omega)
  clear hc
  refine tl_nil ?_
  refine wret (ret2t rfl T25 hf rfl rfl B5 rfl ?_)
  rintro _ rfl
  exact ⟨_, rfl, e, by rw [hfw]; exact Tup.two ⟨fun h => (by rw [hfw] at h; cases h), fun _ => rfl⟩ (VA.st _ _ _ _ e (Dv.weak h fun b _ hb => hb.elim))⟩
 have hfw0 : ¬ (decide (most < (g.1.length : Nat)) || decide ((40 : Int) < (g.2.length : Nat))) = true := by simpa using hb
 clear hb
 refine wskip ?_
 try simp only [Exit.then, Exit.inBlock, ↓reduceIte]
 have hvl : g.1.length ≤ 100 ∧ g.2.length ≤ 40 := by
  rw [Bool.or_eq_true, not_or, decide_eq_true_eq, decide_eq_true_eq] at hfw0
  omega
 replace hf := hf.kp [2, 4, 5]
 obtain ⟨N6, hN6⟩ : ∃ N6, N6 = w.heap.size := ⟨_, rfl⟩
 have l5 : b5 < N6 := by rw [hN6]; exact B5.lt
 have l2 : b2 < N6 := by rw [hN6]; exact B2.lt
 have hN6s : N6 ≤ w.heap.size := Nat.le_of_eq hN6
 clear hN6
 have hofl := fun (h0 : (ofR g.1 g.2).2 = 0) => ofR_len h0
 have hofk := ofR_ok hV hE
 repeat refine seq ?_
 refine regn 8 hf (by decide +kernel) ?_
 refine st (fldA Tryz.underlying25 rfl T22 (by decide) rfl) ?_
 refine st (ld1 T22 rfl (by assumption) rfl) ?_
 refine st (fldA Tryz.underlying25 rfl T23 (by decide) rfl) ?_
 refine st (ld1 T23 rfl (by assumption) rfl) ?_
 refine st (call2 (A := Tup [Dv gtE (fun b => b < N6) (ofR g.1 g.2).1, E (I (ofR g.1 g.2).2)]) En14 rfl rfl (fun v u w he k1 k2 => by cases k1; cases k2; exact of05_spec g.1 g.2 _ _ w (VA.st _ _ _ _ (Ext.tr e he) h1) (VA.st _ _ _ _ (Ext.tr e he) h2) (by omega) (by omega) (fun b hb => Nat.lt_of_lt_of_le hb (Nat.le_trans hN6s he.size)))) ?_
 refine st (mv rfl) ?_
 refine st (ext_ rfl rfl) ?_
 refine st (ext_ rfl rfl) ?_
 refine en fun a w e' hf => ?_
 replace e := e.tr e'
 replace B2 := B2.ext e'
 replace B5 := B5.ext e'
 clear e'
 obtain ⟨z, hz, hf⟩ := hf.opn 32 rfl
 obtain ⟨N7, hN7⟩ : ∃ N7, N7 = w.heap.size := ⟨_, rfl⟩
 obtain ⟨GZ, hGZ⟩ : ∃ GZ : Nat → Prop, GZ = fun b => b < N6 ∨ N7 ≤ b := ⟨_, rfl⟩
 have hzz : (Dv gtE GZ (ofR g.1 g.2).1).p z w := by
  rw [hGZ, hN7]; exact Dv.toB (Dv.weak hz fun b _ hb => hb)
 obtain ⟨z1, z2, rfl, hz1, hz2⟩ := Dv.gt.1 hzz
 have hzo : (#[z1, z2] : Array Value).all (·.oneCell') = true := one2 (slOne hz1) (slOne hz2)
 clear hz hzz
 have nZ : ∀ bb, (bb < N6 ∨ N7 ≤ bb) → GZ bb := fun bb hb => by rw [hGZ]; exact hb
 replace hf := hf.kp [2, 4, 5, 32, 33]
 refine tl_alloc I25 hf (by decide) fun a b6 w e' hb6 hs6 B6 hf => ?_
 have hle6 := Nat.le_trans e.size (Nat.le_of_eq hb6.symm)
 have lt6_B2 := B2.lt
 have lt6_B5 := B5.lt
 replace hz1 := VA.st _ _ _ _ e' hz1
 replace hz2 := VA.st _ _ _ _ e' hz2
 replace e := e.tr e'
 replace B2 := B2.ext e'
 replace B5 := B5.ext e'
 clear e'
 have l6 : N7 ≤ b6 := by omega
 have l67 : b6 < w.heap.size := B6.lt
 replace hf := hf.kp [2, 4, 5, 6, 32, 33]
 refine tl_stW T25 hf rfl rfl hzo B6 rfl rfl fun w hg hsz B6 hf => ?_
 replace e := e.gr hg (by omega); replace B2 := B2.gr hg (by omega); replace B5 := B5.gr hg (by omega); replace hz1 := Dv.grN hz1 hg (fun bb hb => nZ bb (by cases hb; omega)); replace hz2 := Dv.grN hz2 hg (fun bb hb => nZ bb (by cases hb; omega)); clear hg
 refine tl_as hf rfl (by decide) fun a hf => ?_
 refine tl_nil ?_
 replace hf := hf.kp [2, 4, 5, 6, 7]
 repeat refine seq ?_
 refine regn 2 hf (by decide +kernel) ?_
 refine st (mv rfl) ?_
 refine st (neq rfl rfl) ?_
 refine en fun a w e' hf => ?_
 replace hz1 := VA.st _ _ _ _ e' hz1
 replace hz2 := VA.st _ _ _ _ e' hz2
 replace e := e.tr e'
 replace B2 := B2.ext e'
 replace B5 := B5.ext e'
 replace B6 := B6.ext e'
 refine tl_nil ?_
 repeat refine seq ?_
 refine ifc hf rfl (fun hb => ?_) (fun hb => ?_)
 ·have hne : (ofR g.1 g.2).2 ≠ 0 := by simpa using hb
  have hfw : frW g most = (g, false) := by rw [frW, if_neg hfw0, if_pos hne]
  have hc2 : (#[u1, u2] : Array Value).all (·.oneCell') = true := one2 (slOne h1) (slOne h2)
  replace hf := hf.kp [2, 4, 5]
  repeat refine seq ?_
  refine regJ 3 [0, 1] (Chg fun c => c = b5) (RelJ.one _) (fun w => ∃ cs, Blk w b5 cs 25 ∧ (E (.agg #[u1, u2])).p (.agg cs) w) (fun w w1 k h => h.imp fun cs h => ⟨h.1.ext k, h.2⟩) Mix.mix hf (by decide +kernel) (by decide +kernel) ?_
  refine ja ((ldW T25 rfl B2 rfl).eq ((rfl : _ = Value.agg #[u1, u2]))) ?_
  refine jf (fun w1 h1 => asg rfl) ?_
  refine jx (xstB T25 rfl B5 rfl rfl (fun v w hv => ⟨_, hv, rfl, hc2⟩) (fun v w w' hc hv => hv)) ?_
  refine je ?_
  refine fun a w hc HF hf => ?_
  try dsimp only [push] at hf
  obtain ⟨cs, B5, hcs⟩ := HF
  cases hcs
  replace e := e.ch hc (fun b hb => by rw [hb]; omega)
  clear hc
  refine tl_nil ?_
  refine wret (ret2t rfl T25 hf rfl rfl B5 rfl ?_)
  rintro _ rfl
  exact ⟨_, rfl, e, by rw [hfw]; exact Tup.two ⟨fun h => (by rw [hfw] at h; cases h), fun _ => rfl⟩ (VA.st _ _ _ _ e (Dv.weak h fun b _ hb => hb.elim))⟩
 have hof0 : (ofR g.1 g.2).2 = 0 := by simpa using hb
 clear hb
 have hfw : frW g most = ((ofR g.1 g.2).1, true) := by rw [frW, if_neg hfw0, if_neg (by simpa using hof0)]
 have hol := hofl hof0
 obtain ⟨gg, hgg⟩ : ∃ gg, gg = (ofR g.1 g.2).1 := ⟨_, rfl⟩
 rw [← hgg] at hz1 hz2 hofk hol hfw
 clear hgg hof0 hofl hfw0
 refine wskip ?_
 try simp only [Exit.then, Exit.inBlock, ↓reduceIte]
 replace hf := hf.kp [4, 5, 6]
 obtain ⟨N8, hN8⟩ : ∃ N8, N8 = w.heap.size := ⟨_, rfl⟩
 have h78 : N7 ≤ N8 := by have := B6.lt; omega
 have h68 : b6 < N8 := by rw [hN8]; exact B6.lt
 have h58 : b5 < N8 := by rw [hN8]; exact B5.lt
 have hW8 : W.heap.size ≤ N8 := by rw [hN8]; exact e.size
 have hN8s : N8 ≤ w.heap.size := Nat.le_of_eq hN8
 clear hN8
 repeat refine seq ?_
 refine regn0 ?_
 refine tl_as hf rfl (by decide) fun a hf => ?_
 refine tl_nil ?_
 repeat refine seq ?_
 refine regn0 ?_
 refine tl_as hf rfl (by decide) fun a hf => ?_
 refine tl_nil ?_
 repeat refine seq ?_
 refine regn0 ?_
 refine tl_as hf rfl (by decide) fun a hf => ?_
 refine tl_nil ?_
 replace hf := hf.kp [4, 5, 6, 8, 9, 10]
 repeat refine seq ?_
 refine blk (loopN (fun r0 a w => ∃ (k : Nat) (u : Value), r0 = gg.1.length - k ∧ k ≤ gg.1.length ∧ Fr 75 a w [(4, E (.pointer none)), (5, E (.pointer (some ⟨b5, 0, none⟩))), (6, E (.pointer (some ⟨b6, 0, none⟩))), (8, E u), (9, E (.slice none 0 0)), (10, E (I k))] ∧ Ext W w ∧ Blk w b5 #[.slice none 0 0, .slice none 0 0] 25 ∧ Blk w b6 #[z1, z2] 25 ∧ (Dv (slE vtE) GZ gg.1).p z1 w ∧ (Dv (slE etE) GZ gg.2).p z2 w ∧ OwR vtE 54 N8 Go.Mono.G0 w (gg.1.take k) u) gg.1.length ⟨0, .slice none 0 0, rfl, by omega, hf, e, ⟨B5, B6, hz1, hz2, OwR.nil vtE _ hN8s fun b hb => hb.elim⟩⟩ ?_)
 clear hf e; try clear B5; try clear B6; try clear hz1; try clear hz2; try clear Ho
 rintro r0 a w ⟨k, u, rfl, hk, hf, e, B5, B6, hz1, hz2, Ho⟩
 repeat refine seq ?_
 refine regn 5 hf (by decide +kernel) ?_
 refine st (mv rfl) ?_
 refine st (fldA Tryz.underlying25 rfl T22 (by decide) rfl) ?_
 refine st (ld1 T22 rfl B6 rfl) ?_
 refine st (lenD Tryz.underlying22 (isE rfl hz1)) ?_
 refine st (lss rfl rfl) ?_
 refine en fun a w e' hf => ?_
 replace hz1 := VA.st _ _ _ _ e' hz1
 replace hz2 := VA.st _ _ _ _ e' hz2
 replace e := e.tr e'
 replace B5 := B5.ext e'
 replace B6 := B6.ext e'
 replace Ho := Ho.ext e'
 refine tl_nil ?_
 repeat refine seq ?_
 refine ifc hf rfl (fun hc => wskip ?_) (fun hc => wexit ?_)
 rotate_left
 rotate_left
 ·have hlt : k < gg.1.length := by have := of_decide_eq_true hc; (try dsimp only at this); omega
  clear hc
  replace hf := hf.kp [4, 5, 6, 8, 9, 10]
  repeat refine seq ?_
  refine blk ?_
  have hg := List.getElem?_eq_getElem hlt
  generalize gg.1[k] = y at hg
  have hlk := List.length_take_le k gg.1
  have n1 := Ho.neLt (b := b6) (by omega)
  have n2 := Ho.neLt (b := b5) (by omega)
  haveI iu : InR GZ u.ownBlock := ⟨fun b hb => nZ b (.inr (Nat.le_trans h78 (Ho.lt hb).1))⟩
  repeat refine seq ?_
  refine regn 7 hf (by decide +kernel) ?_
  refine st (mv rfl) ?_
  refine st (fldA Tryz.underlying25 rfl T22 (by decide) rfl) ?_
  refine st (ld1 T22 rfl B6 rfl) ?_
  refine st (mv rfl) ?_
  refine st (idxD Tryz.underlying22 S48 (isE rfl hz1) rfl (by omega) (hg)) ?_
  refine st (ldVt T48 (isR rfl)) ?_
  refine st (bsl1 Tryz.underlying52 I54 rfl (by decide) rfl Ho.avs (isVt rfl)) ?_
  refine en fun a w e' hf => ?_
  replace hz1 := VA.st _ _ _ _ e' hz1
  replace hz2 := VA.st _ _ _ _ e' hz2
  replace Ho := Ho.ext e'
  replace e := e.tr e'
  replace B5 := B5.ext e'
  replace B6 := B6.ext e'
  clear e'
  haveI hin : ∀ G0, InR (GB W G0) _ := OwR.inGB (W := W) Ho (by omega)
  refine tl_app Tryz.underlying52 I54 rfl rfl hf (by decide) rfl Ho (isR rfl) (by simp only [List.length_singleton]; omega) (by simp only [List.length_singleton, maxLen]; omega) fun a v w hg hat Hn hf => ?_
  replace e := e.gro hg (Ho.row (W := W) (by omega))
  have hrow := Ho.row (W := W) (by omega)
  replace hz1 := Dv.grN hz1 hg (fun bb hb => nZ bb (.inr (Nat.le_trans h78 (Ho.lt hb).1)))
  replace hz2 := Dv.grN hz2 hg (fun bb hb => nZ bb (.inr (Nat.le_trans h78 (Ho.lt hb).1)))
  replace Ho := Hn
  clear hrow
  replace B5 := B5.gro hg (by assumption)
  replace B6 := B6.gro hg (by assumption)
  replace Ho := Hn; clear Hn hg hat hin
  refine tl_as hf rfl (by decide) fun a hf => ?_
  refine tl_nil ?_
  try simp only [Exit.then, Exit.inBlock, ↓reduceIte]
  repeat refine seq ?_
  refine regn 2 hf (by decide +kernel) ?_
  refine st (mv rfl) ?_
  refine st ((add rfl rfl (by omega)).eq (congrArg (Value.int .i64) (show (k : Int) + 1 = ((k + 1 : Nat) : Int) from rfl))) ?_
  refine en fun a w e' hf => ?_
  replace hz1 := VA.st _ _ _ _ e' hz1
  replace hz2 := VA.st _ _ _ _ e' hz2
  replace Ho := Ho.ext e'
  replace e := e.tr e'
  replace B5 := B5.ext e'
  replace B6 := B6.ext e'
  refine tl_as hf rfl (by decide) fun a hf => ?_
  refine tl_nil ?_
  replace hf := hf.kp [4, 5, 6, 8, 9, 10]
  refine ⟨_, ?_, k + 1, _, rfl, by omega, hf, e, ?_⟩
  ·omega
  rw [take_succ_get hg]
  exact ⟨B5, B6, hz1, hz2, Ho⟩
 ·obtain rfl : k = gg.1.length := by have := of_decide_eq_false hc; (try dsimp only at this); omega
  clear hc
  simp only [Exit.then, Exit.inBlock, ↓reduceIte]
  rw [List.take_length] at Ho
  obtain ⟨av, nv, cv, rfl⟩ := Dv.slF Ho.sl
  obtain ⟨NV, hNV⟩ : ∃ NV : Nat → Prop, NV = fun b => (Value.slice av nv cv).ownBlock ≠ some b := ⟨_, rfl⟩
  have HD : (Dv (slE vtE) NV gg.1).p (.slice av nv cv) w := Ho.slN fun b hb => by rw [hNV]; exact fun h => h hb
  obtain ⟨N5, hN5⟩ : ∃ N5, N5 = w.heap.size := ⟨_, rfl⟩
  have h89 : N8 ≤ N5 := by rw [hN5]; exact Ho.base
  have nV : ∀ bb, (bb < N8 ∨ N5 ≤ bb) → NV bb := fun bb hb => by rw [hNV]; intro h; have h3 := Ho.lt h; omega
  have hN5s : N5 ≤ w.heap.size := Nat.le_of_eq hN5
  clear hN5 hNV Ho
  replace hf := hf.kp [4, 5, 6, 8, 9]
  repeat refine seq ?_
  refine regn0 ?_
  refine tl_as hf rfl (by decide) fun a hf => ?_
  refine tl_nil ?_
  replace hf := hf.kp [4, 5, 6, 8, 9, 11]
  repeat refine seq ?_
  refine blk (loopN (fun r0 a w => ∃ (k : Nat) (u : Value), r0 = gg.2.length - k ∧ k ≤ gg.2.length ∧ Fr 75 a w [(4, E (.pointer none)), (5, E (.pointer (some ⟨b5, 0, none⟩))), (6, E (.pointer (some ⟨b6, 0, none⟩))), (8, E (.slice av nv cv)), (9, E u), (11, E (I k))] ∧ Ext W w ∧ Blk w b5 #[.slice none 0 0, .slice none 0 0] 25 ∧ Blk w b6 #[z1, z2] 25 ∧ (Dv (slE vtE) GZ gg.1).p z1 w ∧ (Dv (slE etE) GZ gg.2).p z2 w ∧ (Dv (slE vtE) NV gg.1).p (.slice av nv cv) w ∧ OwR etE 56 N5 Go.Mono.G0 w (gg.2.take k) u ∧ N5 ≤ w.heap.size) gg.2.length ⟨0, .slice none 0 0, rfl, by omega, hf, e, ⟨B5, B6, hz1, hz2, HD, OwR.nil etE _ hN5s fun b hb => hb.elim, hN5s⟩⟩ ?_)
  clear hf e; try clear B5; try clear B6; try clear hz1; try clear hz2; try clear HD; try clear Ho; try clear hN5s
  rintro r0 a w ⟨k, u, rfl, hk, hf, e, B5, B6, hz1, hz2, HD, Ho, hN5s⟩
  repeat refine seq ?_
  refine regn 5 hf (by decide +kernel) ?_
  refine st (mv rfl) ?_
  refine st (fldA Tryz.underlying25 rfl T23 (by decide) rfl) ?_
  refine st (ld1 T23 rfl B6 rfl) ?_
  refine st (lenD Tryz.underlying23 (isE rfl hz2)) ?_
  refine st (lss rfl rfl) ?_
  refine en fun a w e' hf => ?_
  replace hz1 := VA.st _ _ _ _ e' hz1
  replace hz2 := VA.st _ _ _ _ e' hz2
  replace HD := VA.st _ _ _ _ e' HD
  replace hN5s := Nat.le_trans hN5s e'.size
  replace e := e.tr e'
  replace B5 := B5.ext e'
  replace B6 := B6.ext e'
  replace Ho := Ho.ext e'
  refine tl_nil ?_
  repeat refine seq ?_
  refine ifc hf rfl (fun hc => wskip ?_) (fun hc => wexit ?_)
  rotate_left
  rotate_left
  ·have hlt : k < gg.2.length := by have := of_decide_eq_true hc; (try dsimp only at this); omega
   clear hc
   replace hf := hf.kp [4, 5, 6, 8, 9, 11]
   repeat refine seq ?_
   refine blk ?_
   have hg := List.getElem?_eq_getElem hlt
   generalize gg.2[k] = y at hg
   have hlk := List.length_take_le k gg.2
   have h79 : N7 ≤ N5 := Nat.le_trans h78 h89
   have n1 := Ho.neLt (b := b6) (by omega)
   have n2 := Ho.neLt (b := b5) (by omega)
   haveI iu : InR GZ u.ownBlock := ⟨fun b hb => nZ b (.inr (Nat.le_trans h79 (Ho.lt hb).1))⟩
   repeat refine seq ?_
   refine regn 7 hf (by decide +kernel) ?_
   refine st (mv rfl) ?_
   refine st (fldA Tryz.underlying25 rfl T23 (by decide) rfl) ?_
   refine st (ld1 T23 rfl B6 rfl) ?_
   refine st (mv rfl) ?_
   refine st (idxD Tryz.underlying23 S57 (isE rfl hz2) rfl (by omega) (hg)) ?_
   refine st (ldEt T57 (isR rfl)) ?_
   refine st (bsl1 Tryz.underlying53 I56 rfl (by decide) rfl Ho.avs (isEt rfl)) ?_
   refine en fun a w e' hf => ?_
   replace hz1 := VA.st _ _ _ _ e' hz1
   replace hz2 := VA.st _ _ _ _ e' hz2
   replace HD := VA.st _ _ _ _ e' HD
   replace hN5s := Nat.le_trans hN5s e'.size
   replace Ho := Ho.ext e'
   replace e := e.tr e'
   replace B5 := B5.ext e'
   replace B6 := B6.ext e'
   clear e'
   haveI hin : ∀ G0, InR (GB W G0) _ := OwR.inGB (W := W) Ho (by omega)
   refine tl_app Tryz.underlying53 I56 rfl rfl hf (by decide) rfl Ho (isR rfl) (by simp only [List.length_singleton]; omega) (by simp only [List.length_singleton, maxLen]; omega) fun a v w hg hat Hn hf => ?_
   replace e := e.gro hg (Ho.row (W := W) (by omega))
   have hrow := Ho.row (W := W) (by omega)
   replace hz1 := Dv.grN hz1 hg (fun bb hb => nZ bb (.inr (Nat.le_trans h79 (Ho.lt hb).1)))
   replace hz2 := Dv.grN hz2 hg (fun bb hb => nZ bb (.inr (Nat.le_trans h79 (Ho.lt hb).1)))
   replace HD := Dv.grN HD hg (fun bb hb => nV bb (.inr (Ho.lt hb).1))
   replace hN5s := Nat.le_trans hN5s hg.size
   replace Ho := Hn
   clear hrow
   replace B5 := B5.gro hg (by assumption)
   replace B6 := B6.gro hg (by assumption)
   replace Ho := Hn; clear Hn hg hat hin
   refine tl_as hf rfl (by decide) fun a hf => ?_
   refine tl_nil ?_
   try simp only [Exit.then, Exit.inBlock, ↓reduceIte]
   repeat refine seq ?_
   refine regn 2 hf (by decide +kernel) ?_
   refine st (mv rfl) ?_
   refine st ((add rfl rfl (by omega)).eq (congrArg (Value.int .i64) (show (k : Int) + 1 = ((k + 1 : Nat) : Int) from rfl))) ?_
   refine en fun a w e' hf => ?_
   replace hz1 := VA.st _ _ _ _ e' hz1
   replace hz2 := VA.st _ _ _ _ e' hz2
   replace HD := VA.st _ _ _ _ e' HD
   replace hN5s := Nat.le_trans hN5s e'.size
   replace Ho := Ho.ext e'
   replace e := e.tr e'
   replace B5 := B5.ext e'
   replace B6 := B6.ext e'
   refine tl_as hf rfl (by decide) fun a hf => ?_
   refine tl_nil ?_
   replace hf := hf.kp [4, 5, 6, 8, 9, 11]
   refine ⟨_, ?_, k + 1, _, rfl, by omega, hf, e, ?_⟩
   ·omega
   rw [take_succ_get hg]
   exact ⟨B5, B6, hz1, hz2, HD, Ho, hN5s⟩
  ·obtain rfl : k = gg.2.length := by have := of_decide_eq_false hc; (try dsimp only at this); omega
   clear hc
   simp only [Exit.then, Exit.inBlock, ↓reduceIte]
   rw [List.take_length] at Ho
   have h65 : b6 < N5 := by omega
   have h55 : b5 < N5 := by omega
   have hlg : gg.1.length ≤ 1000 ∧ gg.2.length ≤ 1000 := by omega
   replace hf := hf.kp [4, 5, 6, 8, 9]
   repeat refine seq ?_
   refine regn 6 hf (by decide +kernel) ?_
   refine st (mv rfl) ?_
   refine st (mv rfl) ?_
   refine st (call2 (A := Tup [Dv (ptE (grE 2000)) (fun b => b < N5) (some gg), E (I 0)]) En15 rfl rfl (fun v u w he k1 k2 => by cases k1; cases k2; exact build_post gg hofk _ _ w (VA.st _ _ _ _ he (Dv.weak HD fun b _ hb => hb.elim)) (VA.st _ _ _ _ he Ho.sl) hlg.1 hlg.2 (fun b hb => Nat.lt_of_lt_of_le hb (Nat.le_trans hN5s he.size)))) ?_
   refine st (mv rfl) ?_
   refine st (ext_ rfl rfl) ?_
   refine st (ext_ rfl rfl) ?_
   refine en fun a w e' hf => ?_
   replace hz1 := VA.st _ _ _ _ e' hz1
   replace hz2 := VA.st _ _ _ _ e' hz2
   replace e := e.tr e'
   replace B5 := B5.ext e'
   replace B6 := B6.ext e'
   refine tl_as hf rfl (by decide) fun a hf => ?_
   refine tl_as hf rfl (by decide) fun a hf => ?_
   refine tl_nil ?_
   replace hf := hf.kp [4, 5, 6, 12]
   haveI ik : InR (fun b => b < N5) (some b5) := ⟨fun b hb => by cases hb; exact h55⟩
   have hzo : (#[z1, z2] : Array Value).all (·.oneCell') = true := one2 (slOne hz1) (slOne hz2)
   repeat refine seq ?_
   refine regJ 4 [2, 0, 1] (Chg fun c => c = b5) (RelJ.one _) (fun w => ∃ cs, Blk w b5 cs 25 ∧ (E (.agg #[z1, z2])).p (.agg cs) w) (fun w w1 k h => h.imp fun cs h => ⟨h.1.ext k, h.2⟩) Mix.mix hf (by decide +kernel) (by decide +kernel) ?_
   refine jk (mv rfl) ?_
   refine ja ((ldW T25 rfl B6 rfl).eq ((rfl : _ = Value.agg #[z1, z2]))) ?_
   refine jf (fun w1 h1 => asg rfl) ?_
   refine jx (xstB T25 rfl B5 rfl rfl (fun v w hv => ⟨_, hv, rfl, hzo⟩) (fun v w w' hc hv => hv)) ?_
   refine je ?_
   refine fun a w hc HF hf => ?_
   try dsimp only [push] at hf
   obtain ⟨cs, B5, hcs⟩ := HF
   cases hcs
   replace e := e.ch hc (fun b hb => by rw [hb]; omega)
   replace hz1 := Dv.ch hz1 hc (fun b hb => nZ b (.inl (by rw [hb]; exact l5)))
   replace hz2 := Dv.ch hz2 hc (fun b hb => nZ b (.inl (by rw [hb]; exact l5)))
   clear hc
   refine tl_nil ?_
   refine wret (ret2t rfl T25 hf rfl rfl B5 rfl ?_)
   rintro x hx
   exact ⟨_, rfl, e, Tup.two ⟨fun _ => by rw [hfw]; exact Dv.weak hx fun b _ hb => hb.elim, fun h => by rw [hfw] at h; cases h⟩ (by rw [hfw]; exact Dv.gt.2 ⟨_, _, rfl, Dv.weak hz1 fun b _ hb => hb.elim, Dv.weak hz2 fun b _ hb => hb.elim⟩)⟩
end Go.Mono

namespace Go.Mono
open Go Go.Proofs Go.RowKit Go.Gr
theorem insV_len (l : List VT) (x : VT) : (insV l x).length = l.length + 1 := by
 have := (insW_perm (fun y => lt1 x.1 y.1) x l).length_eq
 rw [List.length_cons] at this
 exact this
theorem doR_dV (g : GT) (x : VT) : (doR g (dV x)).1.1.length ≤ g.1.length + 1 := by
 unfold doR
 split
 ·exact Nat.le_succ _
 ·rw [if_pos (by rfl)]
  dsimp only
  rw [insV_len]
  exact Nat.le_refl _
theorem doR_dE (g : GT) (x : ET) : (doR g (dE x)).1.1 = g.1 := by
 unfold doR
 split
 ·rfl
 ·rw [if_neg (show ¬((dE x).1 == 0) = true from (by decide : ¬((2 : Int) == 0) = true)), if_pos (by rfl)]
theorem ofV_len : ∀ (l : List VT) (s : GT × Int), ((l.map dV).foldl ofS s).1.1.length ≤ s.1.1.length + l.length := by
 intro l
 induction l with
 | nil => intro s; exact Nat.le_refl _
 | cons x l ih =>
  intro s
  rw [List.map_cons, List.foldl_cons]
  refine Nat.le_trans (ih _) ?_
  have h : (ofS s (dV x)).1.1.length ≤ s.1.1.length + 1 := by
   unfold ofS
   split
   ·exact Nat.le_succ _
   ·split
    ·exact Nat.zero_le _
    ·exact doR_dV s.1 x
  rw [List.length_cons]; omega
theorem ofE_len : ∀ (l : List ET) (s : GT × Int), ((l.map dE).foldl ofS s).1.1.length ≤ s.1.1.length := by
 intro l
 induction l with
 | nil => intro s; exact Nat.le_refl _
 | cons x l ih =>
  intro s
  rw [List.map_cons, List.foldl_cons]
  refine Nat.le_trans (ih _) ?_
  unfold ofS
  split
  ·exact Nat.le_refl _
  ·split
   ·exact Nat.zero_le _
   ·dsimp only; rw [doR_dE]; exact Nat.le_refl _
theorem ofR_vlen (V : List VT) (E' : List ET) : (ofR V E').1.1.length ≤ V.length := by
 rw [ofR, List.foldl_append]
 refine Nat.le_trans (ofE_len _ _) (Nat.le_trans (ofV_len V _) ?_)
 simp
structure TwOk (gg : GT) (most : Int) : Prop where
 ok : Gr.Ok gg
 l1 : gg.1.length ≤ most
 l2 : gg.2.length ≤ 1000
theorem twOk {g : GT} {most : Int} (h : (frW g most).2 = true) (hV : ∀ x ∈ g.1, 0 ≤ x.2.1 ∧ x.2.1 < 256) (hE : ∀ x ∈ g.2, 0 ≤ x.2.1 ∧ x.2.1 < 256) (hm : most ≤ 100) : TwOk (frW g most).1 most := by
 by_cases h1 : (decide (most < (g.1.length : Nat)) || decide ((40 : Int) < (g.2.length : Nat))) = true
 ·rw [frW, if_pos h1] at h; cases h
 ·by_cases h2 : (ofR g.1 g.2).2 ≠ 0
  ·rw [frW, if_neg h1, if_pos h2] at h; cases h
  ·have e : frW g most = ((ofR g.1 g.2).1, true) := by rw [frW, if_neg h1, if_neg h2]
   have h3 := ofR_vlen g.1 g.2
   have h4 := ofR_len (V := g.1) (E := g.2) (Decidable.not_not.1 h2)
   rw [Bool.or_eq_true, not_or, decide_eq_true_eq, decide_eq_true_eq] at h1
   rw [e]
   exact ⟨ofR_ok hV hE, by dsimp only; omega, by dsimp only; omega⟩
end Go.Mono

namespace Go.Mono
open Go Go.Proofs Go.RowKit Go.Gr

theorem putP_new {α β : Type} [DecidableEq α] {l : List (α × β)} {x : α} {c : β} (hx : ∀ c, (x, c) ∉ l) : (putP l x c).Perm (l ++ [(x, c)]) := by
 have hf : l.filter (fun p => !decide (p.1 = x)) = l := by
  rw [List.filter_eq_self]
  intro p hp
  have : p.1 ≠ x := fun e => hx p.2 (by rw [← e]; exact hp)
  simp [this]
 rw [putP, hf]
 exact List.perm_append_comm (l₁ := [(x, c)])
theorem RgR.okn {P : Program} {α β : Type} [DecidableEq α] {V : KV P α β} {w : World} {b r n : Nat} {old rest : List (α × β)} (h : RgR V w b r n old rest) : (∀ p ∈ old ++ rest, V.ok p.1 ∧ V.okv p.2) ∧ (old ++ rest).Pairwise fun p q => p.1 ≠ q.1 := by
 obtain ⟨es, left, cnt, h1, h2, h3, h4, h5⟩ := h
 exact ⟨h3, h4⟩
theorem not_before {α β : Type} {old rest : List (α × β)} (h : (old ++ rest).Pairwise fun p q => p.1 ≠ q.1) {x : α} {c : β} (hm : (x, c) ∈ rest) : ∀ c', (x, c') ∉ old := fun c' hc' => (List.pairwise_append.1 h).2.2 _ hc' _ hm rfl
theorem len_rest {α β : Type} {old rest l : List (α × β)} (hp : (old ++ rest).Perm l) {x : α × β} (hm : x ∈ rest) : old.length + 1 ≤ l.length := by
 have h1 := hp.length_eq; have h2 : 0 < rest.length := List.length_pos_of_mem hm
 rw [List.length_append] at h1; omega
theorem GrR.gr {w w' : World} {bg bv be n b : Nat} {g : GT} (h : GrR w bg bv be n g) (hg : w.grownBy w' (some b)) (h1 : bg ≠ b) (h2 : bv ≠ b) (h3 : be ≠ b) : GrR w' bg bv be n g :=
 ⟨h.blk.gr hg h1, h.vs.gr hg (fun h => h2 (by cases h; rfl)), h.es.gr hg (fun h => h3 (by cases h; rfl)), h.ne⟩
theorem rest_less {α β : Type} [DecidableEq α] {rest : List (α × β)} {x : α} {c : β} (hm : (x, c) ∈ rest) : (rest.filter fun p => !decide (p.1 = x)).length < rest.length := by
 rw [← List.countP_eq_length_filter]
 refine Nat.lt_of_le_of_ne List.countP_le_length fun h => ?_
 have := List.countP_eq_length.1 h _ hm
 simp at this
end Go.Mono

namespace Go.Mono
open Go Go.Proofs Go.RowKit Go.Gr
def adC (S : BS) (m : Value) : Array Value := ((setC S).toList ++ [m]).toArray
theorem bAd (bm : Nat) : Tryz.prog.built 80 [(1, .map (some bm))] = some (adC 0 (.map (some bm))) := by kernel_rfl
theorem adC_size (S : BS) (m : Value) : (adC S m).size = 17 := by rw [adC, List.size_toArray, List.length_append, Array.length_toList, setC_size]; rfl
theorem adC_put (S T : BS) (m : Value) : (((adC S m).toList.take 0 ++ (setC T).toList ++ (adC S m).toList.drop (0 + 16)).toArray) = adC T m := by
 rw [List.take_zero, List.nil_append, adC, adC]
 simp only [List.drop_append, Array.length_toList, setC_size]
 simp [setC_size]
theorem adC_one (S : BS) (bm : Nat) : (adC S (.map (some bm))).all (·.oneCell') = true := by
 have h : (setC S).all (·.oneCell') = true := wordsC_one _
 rw [adC, Array.all_eq_true_iff_forall_mem] at *
 intro x hx
 rcases List.mem_append.1 (List.mem_toArray.1 hx) with hx | hx
 ·exact h x (by simpa using hx)
 ·rw [List.mem_singleton.1 hx]; rfl
theorem adC_map (S : BS) (m : Value) : (adC S m)[16]? = some m := by
 rw [adC, List.getElem?_toArray, List.getElem?_append_right (by rw [Array.length_toList, setC_size]; exact Nat.le_refl _), Array.length_toList, setC_size]; rfl
theorem adC_set (S : BS) (m : Value) : (adC S m).extract 0 (0 + 16) = setC S := by
 apply Array.ext'
 rw [adC, Array.toList_extract]
 simp [List.extract, setC_size]
structure OJ (W : World) (g : GT) (S : BS) (v : Value) (b1 b2 b3 bm : Nat) (c2 : Array Value) (s : List Nat) (w : World) : Prop where
 e : Ext W w
 t : Tab w
 p1 : Blk w b1 #[v] 27
 p2 : Blk w b2 c2 80
 p3 : Blk w b3 (adC S (.map (some bm))) 80
 m : MpR sKV w bm s.length (nbL g s)
theorem OJ.kp {W : World} {g : GT} {S : BS} {v : Value} {b1 b2 b3 bm : Nat} {c2 : Array Value} {s : List Nat} {B : Nat} {w w' : World} (h : OJ W g S v b1 b2 b3 bm c2 s w) (k : Kp B w w') (hW : W.heap.size ≤ B) (h0 : 0 < B) (l1 : b1 < B) (l2 : b2 < B) (l3 : b3 < B) (lm : bm < B) : OJ W g S v b1 b2 b3 bm c2 s w' :=
 ⟨h.e.kp k hW, h.t.kp k h0, h.p1.kp k (fun hh => by have := hh.1; omega), h.p2.kp k (fun hh => by have := hh.1; omega), h.p3.kp k (fun hh => by have := hh.1; omega), h.m.pres (k.same bm h.m.lt (fun hh => by have := hh.1; omega))⟩
theorem of07_spec {G : Nat → Prop} {N : Nat} (g : GT) (v : Value) (W : World) (hT : Tab W) (h : (Dv (ptE (grE N)) G (some g)).p v W) (gs1 : g.1.Pairwise fun x y => lt1 x.1 y.1 = true) (gs2 : g.2.Pairwise fun x y => lt2 x.1 y.1 = true) (hl1 : g.1.length ≤ 100000) (hl2 : g.2.length ≤ 100000) (hN : N ≤ 1000000) :
  Calls Tryz.prog 29 #[v] W fun en w' => Ext W w' ∧ ∃ mv, en = .returned (.agg (adC (vset g.1) mv)) ∧ (Dv (mpE sKV 1024) Go.Mono.G0 (nbL g (elems (vset g.1)))).p mv w' := by
 have hv : (Dv (ptE (grE N)) Go.Mono.G0 (some g)).p v W := Dv.weak h fun b _ hb => hb.elim
 have hT0 := hT.lt
 have h1c : v.cells = #[v] := by
  obtain ⟨ad, rfl, _⟩ := Dv.pt.1 hv
  rfl
 refine enterM (args := [v]) (As := [E v]) Tryz.func29 rfl Tryz.ntmps29 (Nat.le_of_ble_eq_true rfl) ?_ (fun a hf => ?_) (Nat.le_of_ble_eq_true rfl)
 ·exact arg1 rfl
 dsimp only [params, Nat.reduceAdd] at hf
 have e := Ext.rfl' W
 repeat refine seq ?_
 refine regn0 ?_
 refine tl_box hf rfl (by decide) fun a b1 w v1 hv1 e' hb1 hs1 B1 hf => ?_
 have hle1 := Nat.le_trans e.size (Nat.le_of_eq hb1.symm)
 replace hT := hT.ext e'
 replace e := e.tr e'
 clear e'
 refine tl_alloc I80 hf (by decide) fun a b2 w e' hb2 hs2 B2 hf => ?_
 have hle2 := Nat.le_trans e.size (Nat.le_of_eq hb2.symm)
 have lt2_B1 := B1.lt
 replace hT := hT.ext e'
 replace e := e.tr e'
 replace B1 := B1.ext e'
 refine tl_nil ?_
 cases hv1
 rw [h1c] at B1
 replace hf := hf.kp [1, 2]
 have n12 : b1 ≠ b2 ∧ W.heap.size ≤ b1 ∧ W.heap.size ≤ b2 := by omega
 repeat refine seq ?_
 refine regn0 ?_
 refine tl_mkV sKV hf (by decide) fun a bm w e' hbm hsm HM hf => ?_
 replace e := e.tr e'
 replace hT := hT.ext e'
 have lb1 := B1.lt
 have lb2 := B2.lt
 replace B1 := B1.ext e'
 replace B2 := B2.ext e'
 clear e'
 have lm := HM.lt
 have hWm : W.heap.size ≤ bm := by have := e.size; omega
 have n12m : b1 ≠ bm ∧ b2 ≠ bm := by omega
 have hNm : bm + 1 ≤ w.heap.size := HM.lt
 refine tl_op hf (by decide) (bldV [(1, _)] rfl (bAd bm)) fun a w e' hf => ?_
 replace hT := hT.ext e'
 replace HM := HM.ext e'
 replace hNm := Nat.le_trans hNm e'.size
 replace e := e.tr e'
 replace B1 := B1.ext e'
 replace B2 := B2.ext e'
 clear e'
 refine tl_alloc I80 hf (by decide) fun a b3 w e' hb3 hs3 B3 hf => ?_
 have hle3 := Nat.le_trans e.size (Nat.le_of_eq hb3.symm)
 have lo3_hNm := Nat.le_trans hNm (Nat.le_of_eq hb3.symm)
 have lt3_B1 := B1.lt
 have lt3_B2 := B2.lt
 replace hT := hT.ext e'
 replace HM := HM.ext e'
 replace hNm := Nat.le_trans hNm e'.size
 replace e := e.tr e'
 replace B1 := B1.ext e'
 replace B2 := B2.ext e'
 clear e'
 have n3 : b1 ≠ b3 ∧ b2 ≠ b3 ∧ b3 ≠ bm ∧ W.heap.size ≤ b3 := by omega
 refine tl_stW T80 hf rfl rfl (adC_one _ _) B3 rfl (adC_size _ _) fun w hg hsz B3 hf => ?_
 replace e := e.gr hg (by omega); replace hT := hT.gr hg (by omega); replace B1 := B1.gr hg (by omega); replace B2 := B2.gr hg (by omega); replace HM := HM.gr hg (fun h => by cases h; omega); clear hg
 refine tl_nil ?_
 replace hf := hf.kp [1, 2, 3]
 repeat refine seq ?_
 refine regn 2 hf (by decide +kernel) ?_
 refine st (ld1 (v := v) T27 rfl B1 rfl) ?_
 refine st (eqlP Tryz.underlying27 (isE rfl (VA.st _ _ _ _ e hv))) ?_
 refine en fun a w e' hf => ?_
 replace hT := hT.ext e'
 replace HM := HM.ext e'
 replace e := e.tr e'
 replace B1 := B1.ext e'
 replace B2 := B2.ext e'
 replace B3 := B3.ext e'
 refine tl_nil ?_
 repeat refine seq ?_
 refine ifc hf rfl (fun h => by cases h) (fun _ => ?_)
 refine wskip ?_
 try simp only [Exit.then, Exit.inBlock, ↓reduceIte]
 obtain ⟨S, hS⟩ : ∃ S, S = vset g.1 := ⟨_, rfl⟩
 have e0 := e
 repeat refine seq ?_
 refine regn 3 hf (by decide +kernel) ?_
 refine st (ld1 (v := v) T27 rfl B1 rfl) ?_
 refine st (call1 (A := E (setV S)) En22 rfl (fun v w he k => by cases k; rw [hS]; exact vertexSet_spec g _ w (VA.st _ _ _ _ (Ext.tr e0 he) hv) gs1 hl1 hN)) ?_
 refine st (fldA Tryz.underlying80 rfl T39 (by decide) rfl) ?_
 refine en fun a w e' hf => ?_
 replace hT := hT.ext e'
 replace HM := HM.ext e'
 replace e := e.tr e'
 replace B1 := B1.ext e'
 replace B2 := B2.ext e'
 replace B3 := B3.ext e'
 clear e'
 refine tl_stP T39 hf rfl rfl (wordsC_one _) B3 (setC_size _) (by rw [adC_size]; decide) fun w hg hsz B3 hf => ?_
 have B3' : Blk w b3 (((adC 0 (.map (some bm))).toList.take 0 ++ (setC S).toList ++ (adC 0 (.map (some bm))).toList.drop (0 + 16)).toArray) 80 := B3
 rw [adC_put] at B3'
 replace B3 := B3'
 clear B3'
 replace e := e.gr hg (by omega); replace hT := hT.gr hg (by omega); replace B1 := B1.gr hg (by omega); replace B2 := B2.gr hg (by omega); replace HM := HM.gr hg (fun h => by cases h; omega); clear hg
 refine tl_nil ?_
 replace hf := hf.kp [1, 2, 3]
 obtain ⟨Nz, hNz⟩ : ∃ Nz, Nz = w.heap.size := ⟨_, rfl⟩
 have e1 := e
 have l1 := B1.lt
 have l2 := B2.lt
 have l3 := B3.lt
 have lm2 := HM.lt
 clear hNm
 repeat refine seq ?_
 refine regn 3 hf (by decide +kernel) ?_
 refine st (fldA Tryz.underlying80 rfl T39 (by decide) rfl) ?_
 refine st ((ldP T39 rfl B3 (by rw [adC_size]; decide)).eq (congrArg Value.agg (adC_set S (.map (some bm))))) ?_
 refine st (call1 (A := SeqA Nz S) En25 rfl (fun v w' he h => by cases h; exact Calls.mono (all_spec _ w') (fun en w2 ⟨u, h1, h2, b', h3, h4, h5⟩ => ⟨u, h1, h2, b', by have := he.size; omega, h4, h5⟩))) ?_
 refine en fun a w e' hf => ?_
 replace HM := HM.ext e'
 replace hT := hT.ext e'
 replace e := e.tr e'
 replace B1 := B1.ext e'
 replace B2 := B2.ext e'
 replace B3 := B3.ext e'
 refine tl_nil ?_
 obtain ⟨v15, ⟨b8, h8, rfl, BS⟩, hf⟩ := hf.fix 15 rfl
 replace hf := hf.kp [1, 2, 3, 15]
 obtain ⟨c2, hc2, hB2⟩ : ∃ c2 : Array Value, c2.size = 17 ∧ Blk w b2 c2 80 := ⟨_, by rfl, B2⟩
 clear B2
 have hBW : W.heap.size ≤ w.heap.size := e.size
 have h0w : 0 < w.heap.size := hT.lt
 have l1' := B1.lt
 have l2' := hB2.lt
 have l3' := B3.lt
 have lm' := HM.lt
 repeat refine seq ?_
 refine blk ?_
 refine range_all3 (S := S) hf rfl BS (by decide) (fun s w1 => OJ W g S v b1 b2 b3 bm c2 s w1) (fun _ _ => False) (fun s w1 h => h.t)
  ⟨e, hT, B1, hB2, B3, HM⟩ (fun s w1 w2 h hs k => h.kp k hBW h0w l1' l2' l3' lm') (fun _ _ _ h => h.elim) ?_ ?_ (fun _ _ _ _ _ _ h => h.elim)
 ·intro l s x rest a1 w1 hs hJ hlw hf
  have hx1024 : x < 1024 := (mem_elems.1 (by rw [hs]; simp)).1
  have hxs : x ∉ s := by
   have hn : (elems S).Nodup := List.Nodup.sublist List.filter_sublist List.nodup_range
   rw [hs] at hn
   intro hx
   exact (List.nodup_append.1 hn).2.2 x hx x (by simp) rfl
  have hsl : s.length ≤ 1024 := by have := elems_len S; rw [hs] at this; simp at this; omega
  generalize hBz : w.heap.size = Bz at *
  refine regn0 ?_
  refine tl_as hf rfl (by decide) fun a hf => ?_
  refine tl_nil ?_
  simp only [Exit.then]
  refine ⟨Kh.rfl' _ _, fun w3 k3 hsz3 => ?_⟩
  have hJ3 := hJ.kp k3 hBW h0w l1' l2' l3' lm'
  clear e hT B1 hB2 B3 HM BS
  replace hf := hf.pure w3
  obtain ⟨e, hT, B1, B2, B3, HM⟩ := hJ3
  have kh := Kh.rfl' Bz w3
  have e0 := e
  replace hf := hf.kp [1, 2, 3, 4]
  repeat refine seq ?_
  refine blk ?_
  repeat refine seq ?_
  refine reg 6 Mix.mix hf (by decide +kernel) ?_
  refine st (fldA Tryz.underlying80 rfl T66 (by decide) rfl) ?_
  refine st (ld1 (v := .map (some bm)) T66 rfl B3 (adC_map _ _)) ?_
  refine st (mv rfl) ?_
  refine st (ld1 (v := v) T27 rfl B1 rfl) ?_
  refine st (mv rfl) ?_
  refine st (call2 (A := E (setV (nbG g.2 (x : Int)))) En46 rfl rfl (fun v u w he k1 k2 => by cases k1; cases k2; exact gnb_spec g _ _ w (VA.st _ _ _ _ (Ext.tr e0 he) hv) gs2 hl2 hN)) ?_
  refine en fun a w e' hf => ?_
  replace HM := HM.ext e'
  replace hT := hT.ext e'
  replace kh := kh.tr (Kh.ext e')
  replace e := e.tr e'
  replace B1 := B1.ext e'
  replace B2 := B2.ext e'
  replace B3 := B3.ext e'
  clear e'
  refine tl_mputV (V := sKV) (i := (x : Int)) (c := nbG g.2 (x : Int)) Tryz.underlying66 hf rfl rfl rfl HM (by simp only [maxLen]; omega) (wf64 (by omega) (by omega)) trivial fun w hg HM hf => ?_
  replace e := e.gr hg (by omega); replace hT := hT.gr hg (by omega); replace B1 := B1.gr hg (by omega); replace B2 := B2.gr hg (by omega); replace B3 := B3.gr hg (by omega)
  replace kh := kh.tr (Kh.gr hg (fun hh => by have := hh.1; omega))
  clear hg
  refine tl_nil ?_
  simp only [Exit.inBlock]
  exact ⟨⟨e, hT, B1, B2, B3, by rw [List.length_append]; exact HM.perm (nbL_put hxs)⟩, kh⟩
 ·intro a' w' hf' hJ hsz hDn
  simp only [Exit.inBlock, ↓reduceIte, Exit.then]
  have hD : Ds [w.heap.size] w' := (Ds.nil w').cons hDn (by simp)
  have hf : FrD 24 (marks [w.heap.size]) a' w' [(1, E (.pointer (some ⟨b1, 0, none⟩))), (2, E (.pointer (some ⟨b2, 0, none⟩))), (3, E (.pointer (some ⟨b3, 0, none⟩)))] := hf'.keep [1, 2, 3]
  have hDW : ∀ d ∈ [w.heap.size], W.heap.size ≤ d := fun d hd => by rw [List.mem_singleton] at hd; omega
  clear hf' e hT B1 hB2 B3 HM BS hDn
  obtain ⟨e, hT, B1, B2, B3, HM⟩ := hJ
  have hbD : ¬ bm ∈ [w.heap.size] := fun h => by rw [List.mem_singleton] at h; omega
  have hb2D : ¬ b2 ∈ [w.heap.size] := fun h => by rw [List.mem_singleton] at h; omega
  generalize [w.heap.size] = D2 at *
  generalize w' = w at *
  repeat refine seq ?_
  refine regn 1 hf (by decide +kernel) ?_
  refine st (ldW T80 rfl B3 (adC_size _ _)) ?_
  refine en fun a w e' hf => ?_
  replace HM := HM.ext e'
  replace e := e.tr e'
  replace B2 := B2.ext e'
  replace B3 := B3.ext e'
  replace hD := hD.ext e'
  clear e'
  refine tl_stW T80 hf rfl rfl (adC_one _ _) B2 hc2 (adC_size _ _) fun w hg hsz B2 hf => ?_
  replace e := e.gr hg (by omega)
  replace hD := hD.gr hg hb2D
  replace HM := HM.gr hg (fun h => by cases h; omega)
  clear hg
  refine tl_nil ?_
  refine wret ?_
  try simp only [Exit.then, Exit.inBlock]
  refine retcM rfl T80 hf rfl B2 (adC_size _ _) hD ⟨e.shut hDW, .map (some bm), ?_⟩
  rw [← hS]
  exact ⟨rfl, [.map (some bm)], ⟨bm, _, rfl, fun h => h.elim, elems_len S, HM.pres (shut_heap D2 w bm hbD)⟩, rfl⟩
end Go.Mono

namespace Go.Mono
open Go Go.RowKit
def bC (n : Nat) (f : Nat → Bool) : Array Value := ((List.range n).map fun j => Value.bool (f j)).toArray
theorem bC_size (n : Nat) (f : Nat → Bool) : (bC n f).size = n := by simp [bC]
theorem bC_get {n i : Nat} {f : Nat → Bool} (h : i < n) : (bC n f)[i]? = some (.bool (f i)) := by simp [bC, h]
theorem bC_congr {n : Nat} {f g : Nat → Bool} (h : ∀ i, i < n → f i = g i) : bC n f = bC n g := by
 unfold bC
 congr 1
 exact List.map_congr_left fun i hi => by rw [h i (List.mem_range.1 hi)]
theorem bC_set (n : Nat) (f : Nat → Bool) (j : Nat) (b : Bool) : (bC n f).setIfInBounds j (.bool b) = bC n (fun i => if i = j then b else f i) := by
 apply Array.ext_getElem?
 intro i
 by_cases hi : i < n
 ·rw [bC_get hi]
  by_cases hk : i = j
  ·subst hk
   rw [Array.getElem?_setIfInBounds_self_of_lt (by rw [bC_size]; exact hi)]
   simp
  ·rw [Array.getElem?_setIfInBounds_ne (Ne.symm hk), bC_get hi]
   simp [hk]
 ·rw [Array.getElem?_eq_none (by simp [bC_size]; omega), Array.getElem?_eq_none (by simp [bC_size]; omega)]
def oC (n k : Nat) (rb : Nat → Nat) : Array Value := ((List.range n).map fun i => if i < k then Value.slice (some ⟨rb i, 0, none⟩) n n else .slice none 0 0).toArray
theorem oC_size (n k : Nat) (rb : Nat → Nat) : (oC n k rb).size = n := by simp [oC]
theorem oC_get {n k i : Nat} {rb : Nat → Nat} (h : i < k) (hk : k ≤ n) : (oC n k rb)[i]? = some (.slice (some ⟨rb i, 0, none⟩) n n) := by
 have : i < n := by omega
 simp [oC, h, this]
def adB (rb : Nat → Nat) (k b : Nat) : Nat → Nat := fun i => if i = k then b else rb i
theorem oC_set {n k b : Nat} {rb : Nat → Nat} (hk : k < n) : (oC n k rb).setIfInBounds k (.slice (some ⟨b, 0, none⟩) n n) = oC n (k + 1) (adB rb k b) := by
 apply Array.ext_getElem?
 intro i
 by_cases hi : i < n
 ·by_cases hik : i = k
  ·subst hik
   rw [Array.getElem?_setIfInBounds_self_of_lt (by rw [oC_size]; exact hi), oC_get (Nat.lt_succ_self _) hi]
   simp [adB]
  ·rw [Array.getElem?_setIfInBounds_ne (Ne.symm hik)]
   by_cases h : i < k
   ·rw [oC_get h (by omega), oC_get (show i < k + 1 by omega) (by omega)]
    simp [adB, hik]
   ·have h' : ¬ i < k + 1 := by omega
    simp [oC, hi, h, h']
 ·rw [Array.getElem?_eq_none (by simp [oC_size]; omega), Array.getElem?_eq_none (by simp [oC_size]; omega)]
structure MatR (tr tb : TypeId) (N n k : Nat) (rb : Nat → Nat) (M : Nat → Nat → Bool) (bo : Nat) (w : World) : Prop where
 o : Blk w bo (oC n k rb) tr
 r : ∀ i, i < k → Blk w (rb i) (bC n (M i)) tb
 d : ∀ i j, i < k → j < k → rb i = rb j → i = j
 lo : N ≤ bo ∧ ∀ i, i < k → N ≤ rb i
 ty : tr ≠ tb
section
variable {tr tb : TypeId} {N n k : Nat} {rb : Nat → Nat} {M M' : Nat → Nat → Bool} {bo : Nat} {w w' : World}
theorem Blk.tyNe {a b : Nat} {cs cs' : Array Value} {t t' : TypeId} (h : Blk w a cs t) (h' : Blk w b cs' t') (ht : t ≠ t') : a ≠ b := by
 rintro rfl
 unfold Blk at h h'
 rw [h] at h'
 cases h'; exact ht rfl
theorem MatR.gro (h : MatR tr tb N n k rb M bo w) {row : Option Nat} (hg : w.grownBy w' row) (h0 : row ≠ some bo) (h1 : ∀ i, i < k → row ≠ some (rb i)) : MatR tr tb N n k rb M bo w' :=
 ⟨(hg.block bo h.o.lt (fun e => h0 e.symm)).trans h.o, fun i hi => (hg.block _ (h.r i hi).lt (fun e => h1 i hi e.symm)).trans (h.r i hi), h.d, h.lo, h.ty⟩
theorem MatR.ext (h : MatR tr tb N n k rb M bo w) (e : Ext w w') : MatR tr tb N n k rb M bo w' := ⟨h.o.ext e, fun i hi => (h.r i hi).ext e, h.d, h.lo, h.ty⟩
theorem MatR.congr (h : MatR tr tb N n k rb M bo w) (hM : ∀ i, i < k → ∀ j, j < n → M i j = M' i j) : MatR tr tb N n k rb M' bo w :=
 ⟨h.o, fun i hi => by rw [← bC_congr (hM i hi)]; exact h.r i hi, h.d, h.lo, h.ty⟩
theorem MatR.add (h : MatR tr tb N n k rb M bo w) {b : Nat} {f : Nat → Bool} (hb : Blk w b (bC n f) tb) (hn : ∀ i, i < k → rb i ≠ b) (hN : N ≤ b) (hk : k < n) (hg : w.grownBy w' (some bo)) (ho : Blk w' bo ((oC n k rb).setIfInBounds k (.slice (some ⟨b, 0, none⟩) n n)) tr) :
  MatR tr tb N n (k + 1) (adB rb k b) (fun i => if i = k then f else M i) bo w' := by
 refine ⟨by rw [← oC_set hk]; exact ho, fun i hi => ?_, fun i j hi hj hij => ?_, ⟨h.lo.1, fun i hi => ?_⟩, h.ty⟩
 ·by_cases hik : i = k
  ·subst hik
   simp only [adB, if_true]
   exact hb.gr hg fun e => h.o.tyNe hb h.ty e.symm
  ·simp only [adB, if_neg hik]
   exact (h.r i (by omega)).gr hg fun e => h.o.tyNe (h.r i (by omega)) h.ty e.symm
 ·by_cases hik : i = k <;> by_cases hjk : j = k
  ·omega
  ·simp only [adB, if_neg hjk, hik, if_true] at hij
   exact absurd hij.symm (hn j (by omega))
  ·simp only [adB, if_neg hik, hjk, if_true] at hij
   exact absurd hij (hn i (by omega))
  ·simp only [adB, if_neg hik, if_neg hjk] at hij
   exact h.d i j (by omega) (by omega) hij
 ·by_cases hik : i = k
  ·simp only [adB, hik, if_true]; exact hN
  ·simp only [adB, if_neg hik]; exact h.lo.2 i (by omega)
def upM (M : Nat → Nat → Bool) (i j : Nat) (b : Bool) : Nat → Nat → Bool := fun a c => if a = i ∧ c = j then b else M a c
theorem MatR.put (h : MatR tr tb N n k rb M bo w) {i j : Nat} {b : Bool} (hi : i < k) (hg : w.grownBy w' (some (rb i))) (hb : Blk w' (rb i) ((bC n (M i)).setIfInBounds j (.bool b)) tb) : MatR tr tb N n k rb (upM M i j b) bo w' := by
 refine ⟨h.o.gr hg (h.o.tyNe (h.r i hi) h.ty), fun a ha => ?_, h.d, h.lo, h.ty⟩
 by_cases hai : a = i
 ·subst hai
  rw [bC_set] at hb
  rw [show (upM M a j b a) = fun c => if c = j then b else M a c from funext fun c => by simp [upM]]
  exact hb
 ·rw [show upM M i j b a = M a from funext fun c => by simp [upM, hai]]
  exact (h.r a ha).gr hg fun e => hai (h.d a i ha hi e)
theorem MatR.ne (h : MatR tr tb N n k rb M bo w) {b : Nat} {cs : Array Value} {t : TypeId} (hb : Blk w b cs t) (h1 : t ≠ tr) (h2 : t ≠ tb) : b ≠ bo ∧ ∀ i, i < k → b ≠ rb i :=
 ⟨hb.tyNe h.o h1, fun i hi => hb.tyNe (h.r i hi) h2⟩
end
end Go.Mono

namespace Go.Mono
open Go Go.Proofs Go.RowKit Go.Gr

def idsG (g : GT) : List Int := g.1.map (·.1)
end Go.Mono

namespace Go.Mono
open Go Go.Proofs Go.RowKit Go.Gr

end Go.Mono

namespace Go.Mono
open Go Go.RowKit
section
variable {P : Program} {w0 : World} {L : Env} {dst : Option Tmp} {ty : TypeId} {pos : String} {aft : Array Edge} {g : Option (Nat × Bool)} {t te : TypeId} {N : Nat}
end
end Go.Mono

namespace Go.Mono
open Go Go.Proofs Go.RowKit Go.Gr

theorem nd_len : ∀ (l m : List Int), l.Nodup → (∀ x ∈ l, x ∈ m) → l.length ≤ m.length
 | [], m, _, _ => Nat.zero_le _
 | x :: l, m, hn, hs => by
  have hx := hs x (List.mem_cons_self ..)
  have h1 := nd_len l (m.erase x) (List.nodup_cons.1 hn).2 fun y hy => (List.mem_erase_of_ne (fun h => (List.nodup_cons.1 hn).1 (by rw [← h]; exact hy))).2 (hs y (List.mem_cons_of_mem _ hy))
  have h2 := List.length_erase_of_mem hx
  have h3 := List.length_pos_of_mem hx
  rw [List.length_cons]; omega
inductive RV (nbr : Int → List Int) (th : List Int) (v : Int) : Int → Prop
 | one {u : Int} : u ∈ nbr v → RV nbr th v u
 | step {t u : Int} : RV nbr th v t → t ∈ th → u ∈ nbr t → RV nbr th v u
def addN (s : List Int) (x : Int) : List Int := if x ∈ s then s else s ++ [x]
def addL (s l : List Int) : List Int := l.foldl addN s
theorem addN_ex (s : List Int) (x : Int) : ∃ t, addN s x = s ++ t := by
 unfold addN; split
 ·exact ⟨[], (List.append_nil _).symm⟩
 ·exact ⟨[x], rfl⟩
theorem addL_ex : ∀ (l s : List Int), ∃ t, addL s l = s ++ t
 | [], s => ⟨[], (List.append_nil _).symm⟩
 | x :: l, s => by
  obtain ⟨t, h⟩ := addN_ex s x
  obtain ⟨t', h'⟩ := addL_ex l (addN s x)
  exact ⟨t ++ t', by rw [← List.append_assoc, ← h]; exact h'⟩
theorem mem_addN {s : List Int} {x y : Int} : y ∈ addN s x ↔ y ∈ s ∨ y = x := by
 unfold addN; split
 ·rename_i h
  exact ⟨.inl, fun hh => hh.elim id fun e => e ▸ h⟩
 ·rw [List.mem_append, List.mem_singleton]
theorem mem_addL {y : Int} : ∀ (l s : List Int), y ∈ addL s l ↔ y ∈ s ∨ y ∈ l
 | [], s => by simp [addL]
 | x :: l, s => by
  rw [show addL s (x :: l) = addL (addN s x) l from rfl, mem_addL l, mem_addN, List.mem_cons, or_assoc]
theorem addN_nd {s : List Int} {x : Int} (h : s.Nodup) : (addN s x).Nodup := by
 unfold addN; split
 ·exact h
 ·rename_i hx
  rw [List.nodup_append]
  exact ⟨h, by simp, fun a ha b hb e => hx (by rw [List.mem_singleton] at hb; rw [← hb, ← e]; exact ha)⟩
theorem addL_nd : ∀ (l s : List Int), s.Nodup → (addL s l).Nodup
 | [], s, h => h
 | x :: l, s, h => addL_nd l _ (addN_nd h)
structure RcI (ids : List Int) (nbr : Int → List Int) (th : List Int) (v : Int) (sn : List Int) (k : Nat) : Prop where
 nd : sn.Nodup
 vin : v ∈ sn
 sub : ∀ x ∈ sn, x ∈ ids
 rch : ∀ x ∈ sn, x = v ∨ RV nbr th v x
 cl : ∀ j, j < k → ∀ x, sn[j]? = some x → (x = v ∨ x ∈ th) → ∀ y ∈ nbr x, y ∈ sn
section
variable {ids th sn : List Int} {nbr : Int → List Int} {v x : Int} {k : Nat}
theorem RcI.len (h : RcI ids nbr th v sn k) : sn.length ≤ ids.length := nd_len _ _ h.nd h.sub
theorem RcI.zero (hv : v ∈ ids) : RcI ids nbr th v [v] 0 :=
 ⟨by simp, by simp, fun x hx => by rw [List.mem_singleton.1 hx]; exact hv, fun x hx => .inl (List.mem_singleton.1 hx), fun j hj => by omega⟩
theorem RcI.skip (h : RcI ids nbr th v sn k) (hx : sn[k]? = some x) (hn : ¬(x = v ∨ x ∈ th)) : RcI ids nbr th v sn (k + 1) :=
 ⟨h.nd, h.vin, h.sub, h.rch, fun j hj y hy hyy => by
  by_cases hjk : j = k
  ·subst hjk; rw [hx] at hy; cases hy; exact absurd hyy hn
  ·exact h.cl j (by omega) y hy hyy⟩
theorem RcI.step (h : RcI ids nbr th v sn k) (hs : ∀ a, ∀ y ∈ nbr a, y ∈ ids) (hx : sn[k]? = some x) (hn : x = v ∨ x ∈ th) : RcI ids nbr th v (addL sn (nbr x)) (k + 1) := by
 obtain ⟨t, ht⟩ := addL_ex (nbr x) sn
 have hkl : k < sn.length := (List.getElem?_eq_some_iff.1 hx).1
 refine ⟨addL_nd _ _ h.nd, (mem_addL _ _).2 (.inl h.vin), fun y hy => ?_, fun y hy => ?_, fun j hj y hy hyy z hz => ?_⟩
 ·exact ((mem_addL _ _).1 hy).elim (h.sub y) (hs x y)
 ·rcases (mem_addL _ _).1 hy with hy | hy
  ·exact h.rch y hy
  ·rcases h.rch x (List.mem_of_getElem? hx) with rfl | hr
   ·exact .inr (.one hy)
   ·rcases hn with rfl | hn
    ·exact .inr (.one hy)
    ·exact .inr (.step hr hn hy)
 ·rw [ht, List.getElem?_append_left (by omega)] at hy
  by_cases hjk : j = k
  ·subst hjk; rw [hx] at hy; cases hy; exact (mem_addL _ _).2 (.inr hz)
  ·exact (mem_addL _ _).2 (.inl (h.cl j (by omega) y hy hyy z hz))
theorem RcI.done (h : RcI ids nbr th v sn k) (hk : sn.length ≤ k) : x ∈ sn ↔ x = v ∨ RV nbr th v x := by
 have hc : ∀ a ∈ sn, (a = v ∨ a ∈ th) → ∀ y ∈ nbr a, y ∈ sn := fun a ha => by
  obtain ⟨j, hj, hja⟩ := List.getElem_of_mem ha
  exact h.cl j (by omega) a (by rw [List.getElem?_eq_getElem hj, hja])
 refine ⟨h.rch x, ?_⟩
 rintro (rfl | hr)
 ·exact h.vin
 ·induction hr with
  | one h1 => exact hc _ h.vin (.inl rfl) _ h1
  | step _ ht hu ih => exact hc _ ih (.inr ht) _ hu
end
end Go.Mono

namespace Go.Mono
open Go Go.Proofs Go.RowKit Go.Gr

end Go.Mono

namespace Go.Mono
open Go Go.Proofs Go.RowKit Go.Gr

section
variable {g : GT}
theorem nb_symm (G : Gr.Ok g) : ∀ i j : Nat, (nbA g (i : Int)).getLsbD j = true → (nbA g (j : Int)).getLsbD i = true := fun i j h => (nbA_bit G).2 ((nbA_bit G).1 h).symm
end
end Go.Mono

namespace Go.Mono
open Go Go.RowKit
theorem run_equalIn_pp {P : Program} (w : World) (d : Nat) (t : TypeId) (p q : Option Addr) (h : P.underlying t = some (.pointer (P.pointee t))) (hpq : p = none ∨ q = none) : (Op.equalIn (d + 1) t (.pointer p) (.pointer q)).run P w = .ok (p.isNone && q.isNone) w := by
 rcases hpq with rfl | rfl
 ·cases q <;> simp [Op.equalIn, run_underlying h]
 ·cases p <;> simp [Op.equalIn, run_underlying h]
theorem run_equal_pp {P : Program} (w : World) (t : TypeId) (p q : Option Addr) (h : P.underlying t = some (.pointer (P.pointee t))) (hpq : p = none ∨ q = none) : (Op.equal t (.pointer p) (.pointer q)).run P w = .ok (p.isNone && q.isNone) w := run_equalIn_pp w 9999 t p q h hpq
theorem eqlPP {P : Program} {w0 : World} {L : Env} {dst : Option Tmp} {ty : TypeId} {pos : String} {aft : Array Edge} {g : Option (Nat × Bool)} {x y : Operand} {t yt pe : TypeId} {p q : Option Addr} (ht0 : P.underlying t = some (.pointer pe)) (hx : opd L x = some (E (.pointer p))) (hy : opd L y = some (E (.pointer q))) (hpq : p = none ∨ q = none) :
  OpC P w0 L ⟨dst, .binOp .eql t x y yt, ty, pos, aft, g⟩ (E (.bool (p.isNone && q.isNone))) :=
 opc_eql hx hy (fun w => rfl) rfl fun w _ => run_equal_pp w t p q (ptee ht0) hpq
end Go.Mono

namespace Go.Mono
open Go Go.Proofs Go.RowKit Go.Gr
theorem diff_zero (V : BS) (i : Nat) : (V &&& ~~~(0 : BS)).getLsbD i = true ↔ V.getLsbD i = true := by
 rw [bit_diff]
 exact ⟨fun h => h.1, fun h => ⟨h, bit_zero i⟩⟩
theorem diff_zero' (V : BS) : V &&& ~~~(0 : BS) = V := set_ext' (diff_zero V)
section
variable {g : GT}
theorem widO_ok (G : Gr.Ok g) (hl : g.1.length ≤ 12) : (widO g).Nodup ∧ (∀ i, i ∈ widO g ↔ (vset g.1).getLsbD i = true) ∧ widL (nbA g) 0 (widO g) = rsR (nbA g) (vset g.1) 0 := by
 have hs := sml_ok G hl (all := vset g.1) fun i h => h
 have hb := rsR_bd (nb := nbA g) (all := vset g.1) 0
 obtain ⟨h1, h2, h3⟩ := grF_ok hs hb.1 (card (vset g.1)) 0 (by rw [diff_zero']) (Int.le_refl _)
 have h2' : ∀ i, i ∈ widO g ↔ (vset g.1).getLsbD i = true := fun i => by rw [widO, h2, diff_zero]
 have h4 := rsR_low (nb := nbA g) (all := vset g.1) (widO g) 0 h1 fun i => by rw [h2', diff_zero]
 refine ⟨h1, h2', ?_⟩
 have h3' : widL (nbA g) 0 (widO g) ≤ rsR (nbA g) (vset g.1) 0 := h3
 omega
end
end Go.Mono

namespace Go.Mono
open Go Go.Proofs Go.RowKit

def natE (l : List Nat) : List Int := l.map fun i : Nat => (i : Int)
structure AqJ (W : World) (N b2 B : Nat) (s : List Nat) (w : World) : Prop where
 e : Ext W w
 t : Tab w
 p : ∃ u, Blk w b2 #[u] 26 ∧ OwR intE 3 N Go.Mono.G0 w (natE s) u ∧ ∀ g, u.ownBlock = some g → ¬Hole B g
theorem AqJ.kp {W : World} {N b2 B : Nat} {s : List Nat} {w w' : World} (h : AqJ W N b2 B s w) (k : Kp B w w') (hW : W.heap.size ≤ B) (h0 : 0 < B) (l2 : b2 < B) : AqJ W N b2 B s w' := by
 obtain ⟨u, q1, q2, q3⟩ := h.p
 exact ⟨h.e.kp k hW, h.t.kp k h0, ⟨u, q1.kp k (fun hh => by have := hh.1; omega), q2.chE k.chg q3, q3⟩⟩
end Go.Mono

namespace Go.Mono
open Go Go.Proofs Go.RowKit
def BlkL (w : World) : List (Nat × Array Value × TypeId) → Prop
 | [] => True
 | x :: K => Blk w x.1 x.2.1 x.2.2 ∧ BlkL w K
def LtL (B : Nat) : List (Nat × Array Value × TypeId) → Prop
 | [] => True
 | x :: K => x.1 < B ∧ LtL B K
theorem BlkL.kp {B : Nat} {w w' : World} (k : Kp B w w') : ∀ {K : List (Nat × Array Value × TypeId)}, BlkL w K → LtL B K → BlkL w' K
 | [], _, _ => trivial
 | x :: K, h, l => ⟨h.1.kp k (fun hh => by have := hh.1; have := l.1; omega), BlkL.kp k h.2 l.2⟩
theorem BlkL.lt {w : World} : ∀ {K : List (Nat × Array Value × TypeId)}, BlkL w K → LtL w.heap.size K
 | [], _ => trivial
 | x :: K, h => ⟨h.1.lt, BlkL.lt h.2⟩
structure RJ (W : World) (fs : List BS) (fv : Value) (K : List (Nat × Array Value × TypeId)) (D : List Nat) (w : World) : Prop where
 e : Ext W w
 t : Tab w
 hv : (Dv (slE setE) (GB W Go.Mono.G0) fs).p fv w
 bl : BlkL w K
 ds : Ds D w
theorem RJ.kp {W : World} {fs : List BS} {fv : Value} {K : List (Nat × Array Value × TypeId)} {D : List Nat} {B : Nat} {w w' : World} (h : RJ W fs fv K D w) (k : Kp B w w') (hW : W.heap.size ≤ B) (h0 : 0 < B) (hK : LtL B K) (hD : ∀ d ∈ D, d < B) : RJ W fs fv K D w' :=
 ⟨h.e.kp k hW, h.t.kp k h0, Dv.ch h.hv k.chg (fun b hb => .inr (by have := hb.1; omega)), h.bl.kp k hK, h.ds.ch k.chg fun d hd hh => by have := hh.1; have := hD d hd; omega⟩

def outTo (fs : List BS) (s : List Nat) : BS := s.foldl (fun r n => r ||| sg fs n) 0
def outM (fs : List BS) (part : BS) : BS := outTo fs (elems part) &&& ~~~part

end Go.Mono

namespace Go.Mono
def partsB (fs : List BS) (left : BS) : List BS := (splitF fs (1 + fs.length) left).getD []
def mostB (fs : List BS) (part : BS) (n : Nat) : Nat := (partsB fs (del part (n : Int))).foldl (fun m C => max m (card C)) 0
def cenStep (fs : List BS) (part : BS) (s : Int × Int) (n : Nat) : Int × Int := if s.1 < 0 ∨ (mostB fs part n : Int) < s.2 then ((n : Int), (mostB fs part n : Int)) else s
def cenTo (fs : List BS) (part : BS) (s : List Nat) : Int × Int := s.foldl (cenStep fs part) (-1, 0)
def cenB (fs : List BS) (part : BS) : Nat := (cenTo fs part (elems part)).1.toNat

def pathF (fs : List BS) (part : BS) (to : Nat) : Nat → BS → Nat → Option BS
 | 0, r, x => if x = to then some r else none
 | f + 1, r, x => if x = to then some r else
   oEl ((elems ((sg fs x &&& part) &&& ~~~r)).find? fun n => (compB fs (del part (x : Int)) n).getLsbD to) none fun n => pathF fs part to f (ins r (n : Int)) n
def pathB (fs : List BS) (part : BS) (x y : Nat) : BS := (pathF fs part y (1 + fs.length) (ins 0 (x : Int)) x).getD 0
def endB (fs : List BS) (part : BS) (n : Nat) : Nat := (minOf (sg fs n &&& part)).getD 0
def splP (fs : List BS) (part between : BS) (c n : Nat) : Bool := between.getLsbD n && decide (card (pathB fs part c n &&& between) = 1)
def splB (fs : List BS) (part out : BS) : Nat :=
 if card out < 2 then cenB fs part
 else match (elems out).map (endB fs part) with
  | e0 :: e1 :: _ => ((elems (pathB fs part (cenB fs part) e0)).find? (splP fs part (pathB fs part e0 e1) (cenB fs part))).getD (cenB fs part)
  | _ => cenB fs part

section
variable {fs : List BS} {T : Tr} {part : BS}

theorem P_adj {x k i : Nat} (hx : x < T.n) (hk : k < T.n) (h : T.adj k x) (hP : T.P i x k) : i = x ∨ i = k := by
 apply Classical.byContradiction
 intro hn
 exact hP (Tr.cn.of_adj hx hk ⟨hx, fun e => hn (.inl e.symm)⟩ ⟨hk, fun e => hn (.inr e.symm)⟩ h.symm)
theorem find_one {p : Nat → Bool} {k : Nat} : ∀ {l : List Nat}, k ∈ l → p k = true → (∀ n ∈ l, p n = true → n = k) → l.find? p = some k
 | [], h, _, _ => by cases h
 | x :: l, h, hk, h1 => by
  rw [List.find?_cons]
  cases hx : p x with
  | true => rw [h1 x (by simp) hx]
  | false =>
   rcases List.mem_cons.1 h with rfl | h
   ·rw [hk] at hx; cases hx
   ·exact find_one h hk fun n hn => h1 n (by simp [hn])
theorem path_next (F : Fo fs T) (hin : ∀ i, part.getLsbD i = true → i < T.n) (hC : T.conn (bits part)) {x y z : Nat} {r : BS} (hx : part.getLsbD x = true) (hy : part.getLsbD y = true) (hz : part.getLsbD z = true) (hr : ∀ i, r.getLsbD i = true ↔ T.P i x z) (hP : T.P z x y) (hne : z ≠ y) :
  ∃ k, (elems ((sg fs z &&& part) &&& ~~~r)).find? (fun n => (compB fs (del part (z : Int)) n).getLsbD y) = some k ∧ part.getLsbD k = true ∧ (∀ i, (ins r (k : Int)).getLsbD i = true ↔ T.P i x k) ∧ T.P k x y ∧ T.dist k y < T.dist z y := by
 have hxn := hin x hx
 have hyn := hin y hy
 have hzn := hin z hz
 have hle := F.le
 obtain ⟨k, k1, k2⟩ := Tr.hop hC hzn hyn hz hy (Ne.symm hne)
 have hkp : part.getLsbD k = true := k2.2.2.1.1
 have hkn := k2.1
 have hV : T.cn (Tr.wo (fun i => i < T.n) z) k y := k2.mono fun i hi h => ⟨hi, h.2⟩
 have p1 : T.P k z y := Tr.hop_P hzn k1 hV
 have p2 : T.P k x y := hP.sub' p1
 have p3 : T.P z x k := (hP.split k).resolve_right fun h => h hV
 have hkz : k ≠ z := k2.2.2.1.2
 have hdel : ∀ i, (del part (z : Int)).getLsbD i = true ↔ part.getLsbD i = true ∧ i ≠ z := fun i => bit_del part (by omega)
 have hbits : (bits (del part (z : Int))) = Tr.wo (bits part) z := by funext i; exact propext (hdel i)
 have hind : ∀ i, (del part (z : Int)).getLsbD i = true → i < T.n := fun i hi => hin i ((hdel i).1 hi).1
 have hcand : ∀ n, n ∈ elems ((sg fs z &&& part) &&& ~~~r) ↔ T.adj z n ∧ part.getLsbD n = true ∧ ¬r.getLsbD n = true := fun n => by
  rw [mem_elems, bit_diff, bit_and, F.adj hzn]
  constructor
  ·rintro ⟨_, ⟨⟨_, h1⟩, h2⟩, h3⟩; exact ⟨h1, h2, h3⟩
  ·rintro ⟨h1, h2, h3⟩; exact ⟨bit_lt h2, ⟨⟨hin n h2, h1⟩, h2⟩, h3⟩
 have hcmp : ∀ n, T.adj z n → part.getLsbD n = true → ((compB fs (del part (z : Int)) n).getLsbD y = true ↔ T.cn (Tr.wo (bits part) z) n y) := fun n hn hp => by
  have hnd : (del part (z : Int)).getLsbD n = true := (hdel n).2 ⟨hp, fun e => (hn.ne hzn) e.symm⟩
  rw [(comp_some F hind hnd).2 y, hbits]
 refine ⟨k, find_one ((hcand k).2 ⟨k1.symm, hkp, fun h => hkz (Tr.P.meet hxn hyn hP ((hr k).1 h) p1)⟩) ((hcmp k k1.symm hkp).2 k2) (fun n hn hpn => ?_), hkp, fun i => ?_, p2, ?_⟩
 ·obtain ⟨h1, h2, _⟩ := (hcand n).1 hn
  exact Tr.hop_one hzn h1.symm k1 (((hcmp n h1 h2).1 hpn).trans k2.symm)
 ·rw [bit_ins r (by omega), hr]
  constructor
  ·rintro (h | rfl)
   ·exact p3.sub h
   ·exact Tr.P.right
  ·intro h
   rcases h.split z with h | h
   ·exact .inl h
   ·rcases P_adj hzn hkn k1 h with rfl | rfl
    ·exact .inl Tr.P.right
    ·exact .inr rfl
 ·exact Tr.dist_lt hzn (fun u _ hu => p1.sub' hu) Tr.P.left fun h => h hV
theorem pathF_ok (F : Fo fs T) (hin : ∀ i, part.getLsbD i = true → i < T.n) (hC : T.conn (bits part)) {x y : Nat} (hx : part.getLsbD x = true) (hy : part.getLsbD y = true) : ∀ (f : Nat) (r : BS) (z : Nat), part.getLsbD z = true → (∀ i, r.getLsbD i = true ↔ T.P i x z) → T.P z x y → T.dist z y ≤ f →
  ∃ Z, pathF fs part y f r z = some Z ∧ ∀ i, Z.getLsbD i = true ↔ T.P i x y := by
 intro f
 induction f with
 | zero =>
  intro r z hz hr hP hd
  by_cases h : z = y
  ·subst h; exact ⟨r, by rw [pathF, if_pos rfl], hr⟩
  ·obtain ⟨k, _, _, _, _, h5⟩ := path_next F hin hC hx hy hz hr hP h
   omega
 | succ f ih =>
  intro r z hz hr hP hd
  by_cases h : z = y
  ·subst h; exact ⟨r, by rw [pathF, if_pos rfl], hr⟩
  ·obtain ⟨k, h1, h2, h3, h4, h5⟩ := path_next F hin hC hx hy hz hr hP h
   obtain ⟨Z, h6, h7⟩ := ih _ k h2 h3 h4 (by omega)
   exact ⟨Z, by rw [pathF, if_neg h, h1, oEl]; exact h6, h7⟩
theorem dist_le (x y : Nat) : T.dist x y ≤ T.n := by
 unfold Tr.dist
 have := List.countP_le_length (p := fun z => @decide (T.P z x y) (Classical.propDecidable _)) (l := List.range T.n)
 rwa [List.length_range] at this
theorem P_self {i x : Nat} (hx : x < T.n) : T.P i x x ↔ i = x := by
 constructor
 ·intro h
  apply Classical.byContradiction
  intro hn
  exact h (Tr.cn.refl hx ⟨hx, Ne.symm hn⟩)
 ·rintro rfl; exact Tr.P.left
theorem path_some (F : Fo fs T) (hin : ∀ i, part.getLsbD i = true → i < T.n) (hC : T.conn (bits part)) {x y : Nat} (hx : part.getLsbD x = true) (hy : part.getLsbD y = true) :
  pathF fs part y (1 + fs.length) (ins 0 (x : Int)) x = some (pathB fs part x y) ∧ ∀ i, (pathB fs part x y).getLsbD i = true ↔ T.P i x y := by
 have hle := F.le
 have hd := dist_le (T := T) x y
 obtain ⟨Z, h1, h2⟩ := pathF_ok F hin hC hx hy (1 + fs.length) (ins 0 (x : Int)) x hx (fun i => by
  rw [bit_ins 0 (by have := hin x hx; omega), P_self (hin x hx)]
  exact ⟨fun h => h.resolve_left (bit_zero i), .inr⟩) Tr.P.left (by have := F.len; omega)
 have : pathB fs part x y = Z := by rw [pathB, h1]; rfl
 rw [this]
 exact ⟨h1, h2⟩
theorem path_in (F : Fo fs T) (hin : ∀ i, part.getLsbD i = true → i < T.n) (hC : T.conn (bits part)) {x y i : Nat} (hx : part.getLsbD x = true) (hy : part.getLsbD y = true) (h : (pathB fs part x y).getLsbD i = true) : part.getLsbD i = true :=
 Tr.P.mem hC (hin x hx) (hin y hy) hx hy (((path_some F hin hC hx hy).2 i).1 h)

theorem del_in (hin : ∀ i, part.getLsbD i = true → i < T.n) (z : Int) : ∀ i, (del part z).getLsbD i = true → i < T.n := fun i h => by
 unfold del at h
 split at h
 ·exact hin i ((bit_diff _ _ i).1 h).1
 ·exact hin i h
theorem parts_some (F : Fo fs T) {left : BS} (hin : ∀ i, left.getLsbD i = true → i < T.n) : splitF fs (1 + fs.length) left = some (partsB fs left) ∧ (partsB fs left).length ≤ card left ∧ (∀ C ∈ partsB fs left, ∃ k, left.getLsbD k = true ∧ C = compB fs left k) ∧ ∀ k, left.getLsbD k = true → compB fs left k ∈ partsB fs left := by
 have hle := F.le
 have := card_le_n hin
 obtain ⟨l, h1, h2⟩ := splitF_ok F (1 + fs.length) left hin (by have := F.len; omega)
 have e : partsB fs left = l := by rw [partsB, h1]; rfl
 rw [e]
 exact ⟨h1, h2⟩
theorem cen_inv (fs : List BS) (part : BS) : ∀ (l : List Nat) (s : Int × Int), (0 ≤ s.1 → ∃ n : Nat, s.1 = (n : Int) ∧ s.2 = (mostB fs part n : Int)) →
  (l ≠ [] ∨ 0 ≤ s.1) → ∃ n : Nat, (l.foldl (cenStep fs part) s).1 = (n : Int) ∧ (n ∈ l ∨ s.1 = (n : Int)) ∧ (l.foldl (cenStep fs part) s).2 = (mostB fs part n : Int) ∧ (∀ m ∈ l, mostB fs part n ≤ mostB fs part m) ∧ (0 ≤ s.1 → (mostB fs part n : Int) ≤ s.2)
 | [], s, h, h0 => by
  have h1 := h0.resolve_left (by simp)
  obtain ⟨n, h2, h3⟩ := h h1
  exact ⟨n, h2, .inr h2, h3, by simp, fun _ => by omega⟩
 | m :: l, s, h, _ => by
  rw [List.foldl_cons]
  by_cases hc : s.1 < 0 ∨ (mostB fs part m : Int) < s.2
  ·have e : cenStep fs part s m = ((m : Int), (mostB fs part m : Int)) := if_pos hc
   obtain ⟨n, h1, h2, h3, h4, h5⟩ := cen_inv fs part l (cenStep fs part s m) (fun _ => ⟨m, by rw [e], by rw [e]⟩) (.inr (by rw [e]; exact Int.natCast_nonneg m))
   have h5' := h5 (by rw [e]; exact Int.natCast_nonneg m)
   rw [e] at h5' h2
   refine ⟨n, h1, .inl ?_, h3, fun x hx => ?_, fun h0 => ?_⟩
   ·rcases h2 with h2 | h2
    ·exact List.mem_cons_of_mem _ h2
    ·simp only at h2
     have : n = m := by omega
     subst this; simp
   ·rcases List.mem_cons.1 hx with rfl | hx
    ·simp only at h5'; omega
    ·exact h4 x hx
   ·simp only at h5'; omega
  ·have e : cenStep fs part s m = s := if_neg hc
   have h0 : 0 ≤ s.1 := by omega
   have hs : ¬(mostB fs part m : Int) < s.2 := fun h => hc (.inr h)
   rw [e]
   obtain ⟨n, h1, h2, h3, h4, h5⟩ := cen_inv fs part l s h (.inr h0)
   have := h5 h0
   refine ⟨n, h1, h2.imp (List.mem_cons_of_mem _) id, h3, fun x hx => ?_, fun _ => this⟩
   rcases List.mem_cons.1 hx with rfl | hx
   ·omega
   ·exact h4 x hx
theorem cen_ok {p : Nat} (hp : part.getLsbD p = true) : part.getLsbD (cenB fs part) = true ∧ (cenTo fs part (elems part)).1 = (cenB fs part : Int) ∧ ∀ m, part.getLsbD m = true → mostB fs part (cenB fs part) ≤ mostB fs part m := by
 have hpe := mem_elems.2 ⟨bit_lt hp, hp⟩
 obtain ⟨n, h1, h2, h3, h4, _⟩ := cen_inv fs part (elems part) (-1, 0) (fun h => by simp at h) (.inl (List.ne_nil_of_mem hpe))
 have e : cenB fs part = n := by
  show (List.foldl (cenStep fs part) (-1, 0) (elems part)).1.toNat = n
  rw [h1]; exact Int.toNat_natCast n
 rw [e]
 refine ⟨?_, h1, fun m hm => h4 m (mem_elems.2 ⟨bit_lt hm, hm⟩)⟩
 rcases h2 with h2 | h2
 ·exact (mem_elems.1 h2).2
 ·simp only at h2; omega
end
end Go.Mono

namespace Go.Mono

section
variable {fs : List BS} {T : Tr} {part : BS}

theorem outTo_bit (i : Nat) : ∀ (s : List Nat) (r : BS), (s.foldl (fun r n => r ||| sg fs n) r).getLsbD i = true ↔ r.getLsbD i = true ∨ ∃ n ∈ s, (sg fs n).getLsbD i = true
 | [], r => by simp
 | n :: s, r => by
  rw [List.foldl_cons, outTo_bit i s, bit_or]
  constructor
  ·rintro ((h | h) | ⟨m, hm, h⟩)
   ·exact .inl h
   ·exact .inr ⟨n, by simp, h⟩
   ·exact .inr ⟨m, by simp [hm], h⟩
  ·rintro (h | ⟨m, hm, h⟩)
   ·exact .inl (.inl h)
   ·rcases List.mem_cons.1 hm with rfl | hm
    ·exact .inl (.inr h)
    ·exact .inr ⟨m, hm, h⟩
theorem out_bit (F : Fo fs T) (hin : ∀ i, part.getLsbD i = true → i < T.n) (i : Nat) : (outM fs part).getLsbD i = true ↔ i < T.n ∧ ¬part.getLsbD i = true ∧ ∃ j, part.getLsbD j = true ∧ T.adj j i := by
 rw [outM, bit_diff, outTo, outTo_bit]
 constructor
 ·rintro ⟨h | ⟨j, hj, h⟩, h2⟩
  ·exact absurd h (bit_zero i)
  ·have hj' := (mem_elems.1 hj).2
   have := (F.adj (hin j hj')).1 h
   exact ⟨this.1, h2, j, hj', this.2⟩
 ·rintro ⟨h1, h2, j, hj, h⟩
  exact ⟨.inr ⟨j, mem_elems.2 ⟨bit_lt hj, hj⟩, (F.adj (hin j hj)).2 ⟨h1, h⟩⟩, h2⟩
theorem end_ok (F : Fo fs T) (hin : ∀ i, part.getLsbD i = true → i < T.n) (hC : T.conn (bits part)) {b : Nat} (hb : (outM fs part).getLsbD b = true) :
  part.getLsbD (endB fs part b) = true ∧ T.adj (endB fs part b) b ∧ ∀ j, part.getLsbD j = true → T.adj j b → j = endB fs part b := by
 obtain ⟨hbn, hbp, j, hj, hjb⟩ := (out_bit F hin b).1 hb
 have hbit : (sg fs b &&& part).getLsbD j = true := (bit_and _ _ j).2 ⟨(F.adj hbn).2 ⟨hin j hj, hjb.symm⟩, hj⟩
 obtain ⟨k, hk, _⟩ := minOf_is hbit
 have hk2 := (bit_and _ _ k).1 (minOf_mem hk)
 have e : endB fs part b = k := by rw [endB, hk]; rfl
 rw [e]
 have hkb : T.adj k b := ((F.adj hbn).1 hk2.1).2.symm
 exact ⟨hk2.2, hkb, fun x hx hxb => hC.nb hbn hbp (hin x hx) (hin k hk2.2) hx hk2.2 hxb hkb⟩
theorem card_two {S : BS} (h : ¬card S < 2) : ∃ a b l, elems S = a :: b :: l ∧ a ≠ b ∧ S.getLsbD a = true ∧ S.getLsbD b = true := by
 rw [← card_elems] at h
 have hn : (elems S).Nodup := List.Nodup.sublist List.filter_sublist List.nodup_range
 match hl : elems S with
 | [] => rw [hl] at h; simp at h
 | [a] => rw [hl] at h; simp at h
 | a :: b :: l =>
  rw [hl] at hn
  exact ⟨a, b, l, rfl, fun e => by subst e; simp at hn, (mem_elems.1 (by rw [hl]; simp)).2, (mem_elems.1 (by rw [hl]; simp)).2⟩
structure Spl (fs : List BS) (T : Tr) (part : BS) (s : Nat) : Prop where
 mem : part.getLsbD s = true
 one : card (outM fs part) < 2 → s = cenB fs part
 two : ∀ {a b l}, elems (outM fs part) = a :: b :: l → T.P s (endB fs part a) (endB fs part b) ∧ T.P s (endB fs part a) (cenB fs part) ∧ T.P s (endB fs part b) (cenB fs part)
theorem card_sub_one {S : BS} {a b : Nat} (h : card S = 1) (ha : S.getLsbD a = true) (hb : S.getLsbD b = true) : a = b := by
 rw [← card_elems] at h
 match hl : elems S with
 | [] => rw [hl] at h; simp at h
 | [x] =>
  have h1 := mem_elems.2 ⟨bit_lt ha, ha⟩
  have h2 := mem_elems.2 ⟨bit_lt hb, hb⟩
  rw [hl] at h1 h2
  simp at h1 h2
  omega
 | x :: y :: l => rw [hl] at h; simp at h
theorem near_card (F : Fo fs T) (hin : ∀ i, part.getLsbD i = true → i < T.n) (hC : T.conn (bits part)) {x y c m n : Nat} (hx : part.getLsbD x = true) (hy : part.getLsbD y = true) (hc : part.getLsbD c = true)
  (h1 : T.P m x y) (h2 : T.P m x c) (h3 : T.P m y c) (hn : part.getLsbD n = true) : splP fs part (pathB fs part x y) c n = true ↔ n = m := by
 have hxn := hin x hx
 have hyn := hin y hy
 have hcn := hin c hc
 have hm : part.getLsbD m = true := Tr.P.mem hC hxn hyn hx hy h1
 have pb := fun i => (path_some F hin hC hx hy).2 i
 rw [splP, Bool.and_eq_true, decide_eq_true_eq, pb]
 constructor
 ·rintro ⟨h4, h5⟩
  have hmn : T.P m n c := Tr.near hxn hyn hcn h1 h2 h3 h4
  exact card_sub_one h5 ((bit_and _ _ n).2 ⟨((path_some F hin hC hc hn).2 n).2 Tr.P.right, (pb n).2 h4⟩) ((bit_and _ _ m).2 ⟨((path_some F hin hC hc hn).2 m).2 hmn.symm, (pb m).2 h1⟩)
 ·rintro rfl
  refine ⟨h1, card_one (p := n) fun i => ?_⟩
  rw [bit_and, (path_some F hin hC hc hn).2 i, pb]
  constructor
  ·rintro ⟨h4, h5⟩
   have := Tr.near hxn hyn hcn h1 h2 h3 h5
   exact (Tr.P.meet hcn (hin n hn) h4 this.symm Tr.P.right).symm
  ·rintro rfl
   exact ⟨Tr.P.right, h1⟩
theorem spl_ok (F : Fo fs T) (hin : ∀ i, part.getLsbD i = true → i < T.n) (hC : T.conn (bits part)) {p : Nat} (hp : part.getLsbD p = true) : Spl fs T part (splB fs part (outM fs part)) := by
 obtain ⟨hc, _, _⟩ := cen_ok (fs := fs) hp
 by_cases hcard : card (outM fs part) < 2
 ·have e : splB fs part (outM fs part) = cenB fs part := by rw [splB, if_pos hcard]
  rw [e]
  refine ⟨hc, fun _ => rfl, fun {a b l} h => ?_⟩
  have := card_elems (outM fs part)
  rw [h] at this
  simp at this
  omega
 ·obtain ⟨a, b, l, he, hab, ha, hb⟩ := card_two hcard
  obtain ⟨a1, a2, a3⟩ := end_ok F hin hC ha
  obtain ⟨b1, b2, b3⟩ := end_ok F hin hC hb
  obtain ⟨m, m1, m2, m3⟩ := Tr.median (hin _ a1) (hin _ b1) (hin _ hc)
  have hm : part.getLsbD m = true := Tr.P.mem hC (hin _ a1) (hin _ b1) a1 b1 m1
  have hf : (elems (pathB fs part (cenB fs part) (endB fs part a))).find? (splP fs part (pathB fs part (endB fs part a) (endB fs part b)) (cenB fs part)) = some m := by
   have hpm : (pathB fs part (cenB fs part) (endB fs part a)).getLsbD m = true := ((path_some F hin hC hc a1).2 m).2 m2.symm
   refine find_one (mem_elems.2 ⟨bit_lt hpm, hpm⟩) ((near_card F hin hC a1 b1 hc m1 m2 m3 hm).2 rfl) fun n hn hpn => ?_
   have hn' := path_in F hin hC hc a1 (mem_elems.1 hn).2
   exact (near_card F hin hC a1 b1 hc m1 m2 m3 hn').1 hpn
  have e : splB fs part (outM fs part) = m := by
   rw [splB, if_neg hcard, he]
   simp only [List.map_cons, hf, Option.getD_some]
  rw [e]
  refine ⟨hm, fun h => absurd h hcard, fun {a' b' l'} h => ?_⟩
  rw [he] at h
  cases h
  exact ⟨m1, m2, m3⟩

structure Sub (fs : List BS) (T : Tr) (part : BS) (s : Nat) (C : BS) : Prop where
 ne : ∃ k, C.getLsbD k = true
 sub : ∀ i, C.getLsbD i = true → part.getLsbD i = true ∧ i ≠ s
 conn : T.conn (bits C)
 clo : ∀ i j, C.getLsbD i = true → part.getLsbD j = true → j ≠ s → T.adj i j → C.getLsbD j = true
theorem parts_sub (F : Fo fs T) (hin : ∀ i, part.getLsbD i = true → i < T.n) {s : Nat} (hs : s < T.n) {C : BS} (h : C ∈ partsB fs (del part (s : Int))) : Sub fs T part s C := by
 have hle := F.le
 have hdel : ∀ i, (del part (s : Int)).getLsbD i = true ↔ part.getLsbD i = true ∧ i ≠ s := fun i => bit_del part (by omega)
 obtain ⟨k, hk, rfl⟩ := (parts_some F (del_in (part := part) hin (s : Int))).2.2.1 C h
 have hb := (comp_some F (del_in hin _) hk).2
 refine ⟨⟨k, comp_self F (del_in hin _) hk⟩, fun i hi => (hdel i).1 (comp_sub F (del_in hin _) hk i hi), ?_, fun i j hi hj hjs hij => ?_⟩
 ·have := Tr.conn_comp (T := T) (A := bits (del part (s : Int))) (x := k)
  have e : (fun y => T.cn (bits (del part (s : Int))) k y) = bits (compB fs (del part (s : Int)) k) := by
   funext y
   exact propext (hb y).symm
  rwa [e] at this
 ·have h1 := (hb i).1 hi
  exact (hb j).2 (h1.trans (Tr.cn.of_adj h1.2.1 (hin j hj) h1.2.2.2.1 ((hdel j).2 ⟨hj, hjs⟩) hij))
theorem sub_out (F : Fo fs T) (hin : ∀ i, part.getLsbD i = true → i < T.n) {s : Nat} {C : BS} (h : Sub fs T part s C) {i : Nat} (hi : (outM fs C).getLsbD i = true) : i = s ∨ (outM fs part).getLsbD i = true := by
 obtain ⟨h1, h2, j, hj, hji⟩ := (out_bit F (fun i hi => hin i (h.sub i hi).1) i).1 hi
 by_cases his : i = s
 ·exact .inl his
 ·refine .inr ((out_bit F hin i).2 ⟨h1, fun hp => h2 (h.clo j i hj hp his hji), j, (h.sub j hj).1, hji⟩)
theorem sub_end (F : Fo fs T) (hin : ∀ i, part.getLsbD i = true → i < T.n) (hC : T.conn (bits part)) {s : Nat} {C : BS} (h : Sub fs T part s C) {b : Nat} (hb : (outM fs part).getLsbD b = true) (hb' : (outM fs C).getLsbD b = true) : C.getLsbD (endB fs part b) = true := by
 obtain ⟨h1, h2, j, hj, hji⟩ := (out_bit F (fun i hi => hin i (h.sub i hi).1) b).1 hb'
 rw [← (end_ok F hin hC hb).2.2 j (h.sub j hj).1 hji]; exact hj
theorem card_union_le {S A : BS} {s : Nat} (hs : s < 1024) (h : ∀ i, S.getLsbD i = true → i = s ∨ A.getLsbD i = true) : card S ≤ card A + 1 := by
 by_cases hA : A.getLsbD s = true
 ·have : card S ≤ card A := card_mono fun i hi => by
   rcases h i hi with rfl | h
   ·exact hA
   ·exact h
  omega
 ·have hone : ∀ i, (ins 0 (s : Int)).getLsbD i = true ↔ i = s := fun i => by
   rw [bit_ins 0 hs]; exact ⟨fun h => h.resolve_left (bit_zero i), .inr⟩
  have h1 := card_add (S := A) (T := ins 0 (s : Int)) (U := A ||| ins 0 (s : Int)) (bit_or _ _) (by
   rintro i ⟨h1, h2⟩
   rw [(hone i).1 h2] at h1
   exact hA h1)
  rw [card_one hone] at h1
  rw [← h1]
  exact card_mono fun i hi => (bit_or _ _ i).2 ((h i hi).elim (fun h => .inr ((hone i).2 h)) .inl)
theorem sub_two (F : Fo fs T) (hin : ∀ i, part.getLsbD i = true → i < T.n) (hC : T.conn (bits part)) (h2 : card (outM fs part) ≤ 2) {s : Nat} (S : Spl fs T part s) {C : BS} (h : Sub fs T part s C) : card (outM fs C) ≤ 2 := by
 have hle := F.le
 have hs1 : s < 1024 := by have := hin s S.mem; omega
 have hsub := fun i => sub_out F hin h (i := i)
 by_cases hc : card (outM fs part) < 2
 ·have := card_union_le hs1 fun i hi => hsub i hi
  omega
 ·obtain ⟨a, b, l, he, hab, ha, hb⟩ := card_two hc
  have hl : l = [] := by
   have := card_elems (outM fs part)
   rw [he] at this
   simp at this
   exact List.eq_nil_of_length_eq_zero (by omega)
  have hall : ∀ i, (outM fs part).getLsbD i = true → i = a ∨ i = b := fun i hi => by
   have := mem_elems.2 ⟨bit_lt hi, hi⟩
   rw [he, hl] at this
   simpa using this
  have hnot : ¬((outM fs C).getLsbD a = true ∧ (outM fs C).getLsbD b = true) := by
   rintro ⟨h1, h2⟩
   have c1 := sub_end F hin hC h ha h1
   have c2 := sub_end F hin hC h hb h2
   have := h.conn _ _ (hin _ (h.sub _ c1).1) (hin _ (h.sub _ c2).1) c1 c2
   refine (S.two he).1 (this.mono fun i hi hh => ⟨hi, (h.sub i hh).2⟩)
  have hone : ∀ x, (outM fs part).getLsbD x = true → ∀ i, (ins 0 (x : Int)).getLsbD i = true ↔ i = x := fun x hx i => by
   rw [bit_ins 0 (bit_lt hx)]; exact ⟨fun h => h.resolve_left (bit_zero i), .inr⟩
  by_cases hCa : (outM fs C).getLsbD a = true
  ·have := card_union_le (S := outM fs C) (A := ins 0 (a : Int)) hs1 fun i hi => by
    rcases hsub i hi with h | h
    ·exact .inl h
    ·rcases hall i h with rfl | rfl
     ·exact .inr ((hone i ha i).2 rfl)
     ·exact absurd ⟨hCa, hi⟩ hnot
   rw [card_one (hone a ha)] at this
   omega
  ·have := card_union_le (S := outM fs C) (A := ins 0 (b : Int)) hs1 fun i hi => by
    rcases hsub i hi with h | h
    ·exact .inl h
    ·rcases hall i h with rfl | rfl
     ·exact absurd hi hCa
     ·exact .inr ((hone i hb i).2 rfl)
   rw [card_one (hone b hb)] at this
   omega
end
end Go.Mono

namespace Go.Mono
def bl : Nat → Nat → Nat
 | 0, _ => 0
 | f + 1, n => if n = 0 then 0 else bl f (n / 2) + 1
def splitter (fs : List BS) (part : BS) : Nat := splB fs part (outM fs part)
def subs (fs : List BS) (part : BS) : List BS := partsB fs (del part (splitter fs part : Int))
section
variable {fs : List BS} {T : Tr}
structure Pt (fs : List BS) (T : Tr) (part : BS) : Prop where
 inn : ∀ i, part.getLsbD i = true → i < T.n
 conn : T.conn (bits part)
 ne : ∃ k, part.getLsbD k = true
 two : card (outM fs part) ≤ 2
theorem Pt.spl {part : BS} (F : Fo fs T) (h : Pt fs T part) : Spl fs T part (splitter fs part) := by
 obtain ⟨k, hk⟩ := h.ne
 exact spl_ok F h.inn h.conn hk
theorem Pt.sub {part : BS} (F : Fo fs T) (h : Pt fs T part) {C : BS} (hC : C ∈ subs fs part) : Sub fs T part (splitter fs part) C := parts_sub F h.inn (h.inn _ (h.spl F).mem) hC
theorem Pt.step {part : BS} (F : Fo fs T) (h : Pt fs T part) {C : BS} (hC : C ∈ subs fs part) : Pt fs T C ∧ card C < card part := by
 have S := h.sub F hC
 exact ⟨⟨fun i hi => h.inn i (S.sub i hi).1, S.conn, S.ne, sub_two F h.inn h.conn h.two (h.spl F) S⟩, card_lt (fun i hi => (S.sub i hi).1) (h.spl F).mem fun hh => (S.sub _ hh).2 rfl⟩
structure BNd (fs : List BS) (T : Tr) (L : List (Int × BS)) (i : Nat) (up : Int) (P : BS) : Prop where
 at' : L[i]? = some (up, P)
 pt : Pt fs T P
 kid : ∀ C ∈ subs fs P, ∃ k, i < k ∧ L[k]? = some ((i : Int), C)
theorem BNd.app {i : Nat} {L M : List (Int × BS)} {up : Int} {P : BS} (h : BNd fs T L i up P) : BNd fs T (L ++ M) i up P := by
 have k1 : ∀ {k : Nat} {x : Int × BS}, L[k]? = some x → (L ++ M)[k]? = some x := fun {k x} h => by
  rw [List.getElem?_append_left (List.getElem?_eq_some_iff.1 h).1]; exact h
 exact ⟨k1 h.at', h.pt, fun C hC => by obtain ⟨k, h1, h2⟩ := h.kid C hC; exact ⟨k, h1, k1 h2⟩⟩
def Ab (fs : List BS) (L : List (Int × BS)) (i : Nat) (up : Int) (P : BS) : Prop := ∃ p u Q, up = ((p : Nat) : Int) ∧ p < i ∧ L[p]? = some (u, Q) ∧ P ∈ subs fs Q
theorem Ab.app {i : Nat} {L M : List (Int × BS)} {up : Int} {P : BS} (h : Ab fs L i up P) : Ab fs (L ++ M) i up P := by
 obtain ⟨p, u, Q, h1, h2, h3, h4⟩ := h
 exact ⟨p, u, Q, h1, h2, by rw [List.getElem?_append_left (List.getElem?_eq_some_iff.1 h3).1]; exact h3, h4⟩
end
section
variable {fs : List BS} {T : Tr}
end
end Go.Mono

namespace Go.Mono
open Go Go.Proofs Go.RowKit

end Go.Mono

namespace Go.Mono
open Go Go.Proofs Go.RowKit

end Go.Mono

namespace Go.Mono
open Go Go.Proofs Go.RowKit

end Go.Mono

namespace Go.Mono
open Go Go.Proofs Go.RowKit

end Go.Mono

namespace Go.Mono
open Go Go.Proofs Go.RowKit

end Go.Mono

namespace Go.Mono
open Go Go.Proofs Go.RowKit

def belowB (n : Nat) : BS := BitVec.ofNat 1024 (2 ^ n - 1)
theorem below_bit (n i : Nat) (hi : i < 1024) : (belowB n).getLsbD i = decide (i < n) := by
 rw [belowB, BitVec.getLsbD_ofNat, Nat.testBit_two_pow_sub_one]
 simp [hi]
end Go.Mono

namespace Go.Mono
open Go Go.Proofs Go.RowKit

theorem adjL_len (t : List (Int × BS)) : (adjL t).length = t.length := by simp [adjL]
end Go.Mono

namespace Go.Mono
open Go Go.Proofs Go.RowKit

theorem below_bit' (n i : Nat) (hn : n ≤ 1024) : (belowB n).getLsbD i = true ↔ i < n := by
 by_cases hi : i < 1024
 ·rw [below_bit _ _ hi, decide_eq_true_eq]
 ·constructor
  ·intro h; exact absurd (bit_lt h) hi
  ·intro h; omega
theorem Pt.all {t : List (Int × BS)} {T : Tr} (F : Fo (adjL t) T) (h0 : 0 < t.length) : Pt (adjL t) T (belowB t.length) ∧ card (belowB t.length) ≤ t.length := by
 have hn : T.n = t.length := by rw [← F.len, adjL_len]
 have hle := F.le
 have hb : ∀ i, (belowB t.length).getLsbD i = true ↔ i < T.n := fun i => by rw [below_bit' _ _ (by omega), hn]
 have hbits : bits (belowB t.length) = fun i => i < T.n := by funext i; exact propext (hb i)
 refine ⟨⟨fun i hi => (hb i).1 hi, by rw [hbits]; exact Tr.conn_all, ⟨0, (hb 0).2 (by omega)⟩, ?_⟩, card_le_n fun i hi => by rw [← hn]; exact (hb i).1 hi⟩
 have : outM (adjL t) (belowB t.length) = 0 := set_ext' fun k => by
  rw [out_bit F (fun i hi => (hb i).1 hi)]
  constructor
  ·rintro ⟨h1, h2, _⟩; exact absurd ((hb k).2 h1) h2
  ·intro h; exact absurd h (bit_zero k)
 rw [this, card_zero]; omega

end Go.Mono

namespace Go.Mono

end Go.Mono

namespace Go.Mono

section
variable {fs : List BS} {T : Tr}
end
end Go.Mono

namespace Go.Mono
open Go Go.Proofs Go.RowKit

end Go.Mono

namespace Go.Mono

section
variable {t : List (Int × BS)} {T : Tr}
end
end Go.Mono

namespace Go.Mono

inductive Und (o : List (Int × BS)) : Nat → Nat → Prop
 | refl (k : Nat) : Und o k k
 | step {k p i : Nat} (h : (bg o k).1 = (p : Int)) (hu : Und o p i) : Und o k i
theorem Und.trans {o : List (Int × BS)} {k j i : Nat} (h : Und o k j) (h' : Und o j i) : Und o k i := by
 induction h with
 | refl => exact h'
 | step h _ ih => exact .step h (ih h')
section
variable {t : List (Int × BS)} {T : Tr}
end
end Go.Mono

namespace Go.Mono

section
variable {t : List (Int × BS)}
end
end Go.Mono

namespace Go.Mono

theorem elems_pair (S : BS) : (elems S).Pairwise (· < ·) := List.Pairwise.filter _ (List.pairwise_lt_range (n := 1024))
section
variable {t : List (Int × BS)} {S : BS}
end
end Go.Mono

namespace Go.Mono
open Go Go.Proofs Go.RowKit Go.Gr

theorem sorted_eq : ∀ (l m : List Int), l.Pairwise (· < ·) → m.Pairwise (· < ·) → (∀ x, x ∈ l ↔ x ∈ m) → l = m
 | [], [], _, _, _ => rfl
 | [], b :: m, _, _, h => absurd ((h b).2 (List.mem_cons_self ..)) (by simp)
 | a :: l, [], _, _, h => absurd ((h a).1 (List.mem_cons_self ..)) (by simp)
 | a :: l, b :: m, hl, hm, h => by
  obtain ⟨l1, l2⟩ := List.pairwise_cons.1 hl
  obtain ⟨m1, m2⟩ := List.pairwise_cons.1 hm
  have hab : a = b := by
   rcases List.mem_cons.1 ((h a).1 (List.mem_cons_self ..)) with h1 | h1
   ·exact h1
   rcases List.mem_cons.1 ((h b).2 (List.mem_cons_self ..)) with h2 | h2
   ·exact h2.symm
   have := m1 _ h1; have := l1 _ h2; omega
  subst hab
  rw [sorted_eq l m l2 m2 fun x => ?_]
  constructor
  ·intro hx
   rcases List.mem_cons.1 ((h x).1 (List.mem_cons_of_mem _ hx)) with h1 | h1
   ·have := l1 _ hx; omega
   ·exact h1
  ·intro hx
   rcases List.mem_cons.1 ((h x).2 (List.mem_cons_of_mem _ hx)) with h1 | h1
   ·have := m1 _ hx; omega
   ·exact h1
section
variable {g : GT} {th : List Int}
theorem mem_ids (G : Gr.Ok g) {x : Int} : x ∈ idsG g ↔ ∃ u : Nat, x = (u : Int) ∧ (vset g.1).getLsbD u = true := by
 constructor
 ·intro h
  obtain ⟨y, hy, rfl⟩ := List.mem_map.1 h
  have h3 := idOk_r (G.rv y hy).1
  exact ⟨y.1.toNat, by omega, (mem_vset G).2 ⟨y, hy, by omega⟩⟩
 ·rintro ⟨u, rfl, hu⟩
  obtain ⟨y, hy, h⟩ := (mem_vset G).1 hu
  exact List.mem_map.2 ⟨y, hy, h⟩
theorem ids_sorted (G : Gr.Ok g) : (idsG g).Pairwise (· < ·) := List.pairwise_map.2 (G.sv.imp fun h => by simpa [lt1] using h)
theorem natE_sorted (S : BS) : (natE (elems S)).Pairwise (· < ·) := List.pairwise_map.2 ((elems_pair S).imp fun h => by omega)
def setN (S : BS) (l : List Nat) : BS := l.foldl (fun (s : BS) (v : Nat) => ins s (v : Int)) S
theorem setN_cons (S : BS) (v : Nat) (l : List Nat) : setN S (v :: l) = setN (ins S (v : Int)) l := by rw [setN, setN, List.foldl_cons]
theorem setN_bit : ∀ (l : List Nat) (S : BS), (∀ v ∈ l, v < 1024) → ∀ u, (setN S l).getLsbD u = true ↔ S.getLsbD u = true ∨ u ∈ l
 | [], S, _, u => by simp [setN]
 | v :: l, S, h, u => by
  rw [setN_cons, setN_bit l _ (fun x hx => h x (List.mem_cons_of_mem _ hx)) u, bit_ins S (h v (List.mem_cons_self ..)), List.mem_cons, or_assoc]
theorem widL_app (nb : Int → BS) (v : Nat) : ∀ (l : List Nat) (S : BS), widL nb S (l ++ [v]) = max (widL nb S l) (rn nb (setN S l) v)
 | [], S => by
  rw [List.nil_append, widL, widL, widL, setN, List.foldl_nil, Int.max_comm]
 | u :: l, S => by
  rw [List.cons_append, widL, widL_app nb v l, widL, setN_cons, Int.max_assoc]
end
end Go.Mono

namespace Go.Mono
open Go Go.Proofs Go.RowKit Go.Gr
def twG (g : GT) : Int := rsR (nbA g) (vset g.1) 0
theorem tw_lo (g : GT) : -1 ≤ twG g := (rsR_bd (nb := nbA g) (all := vset g.1) 0).1
section
variable {nb nb' : Int → BS} {C S S' : BS}
theorem reB_sub (h : ∀ i j : Nat, (nb' (i : Int)).getLsbD j = true → (nb (i : Int)).getLsbD j = true ∧ C.getLsbD j = true) (hS : ∀ u, S'.getLsbD u = true ↔ S.getLsbD u = true ∧ C.getLsbD u = true) {v : Nat} (hv : v < 1024) :
  rn nb' S' v ≤ rn nb S v := by
 have hm : card (reB nb' S' (v : Int)) ≤ card (reB nb S (v : Int)) := card_mono fun u hu => by
  obtain ⟨k1, k2, k3⟩ := (reB_bit hv).1 hu
  have hC : C.getLsbD u = true := by
   cases k1 with
   | one h1 => exact (h _ _ h1).2
   | step _ _ h1 => exact (h _ _ h1).2
  have k1' : Via nb S v u := by
   clear hu k2 k3 hC
   induction k1 with
   | one h1 => exact .one (h _ _ h1).1
   | step _ ht h1 ih => exact .step ih ((hS _).1 ht).1 (h _ _ h1).1
  exact (reB_bit hv).2 ⟨k1', fun hh => k2 ((hS u).2 ⟨hh, hC⟩), k3⟩
 rw [rn, rn]; omega
theorem ins_meet {v : Nat} (hv : v < 1024) (hS : ∀ u, S'.getLsbD u = true ↔ S.getLsbD u = true ∧ C.getLsbD u = true) (hC : C.getLsbD v = true) : ∀ u, (ins S' (v : Int)).getLsbD u = true ↔ (ins S (v : Int)).getLsbD u = true ∧ C.getLsbD u = true := fun u => by
 rw [bit_ins _ hv, bit_ins _ hv, hS]
 constructor
 ·rintro (⟨h1, h2⟩ | rfl)
  ·exact ⟨.inl h1, h2⟩
  ·exact ⟨.inr rfl, hC⟩
 ·rintro ⟨h1 | h1, h2⟩
  ·exact .inl ⟨h1, h2⟩
  ·exact .inr h1
theorem ins_miss {v : Nat} (hv : v < 1024) (hS : ∀ u, S'.getLsbD u = true ↔ S.getLsbD u = true ∧ C.getLsbD u = true) (hC : ¬C.getLsbD v = true) : ∀ u, S'.getLsbD u = true ↔ (ins S (v : Int)).getLsbD u = true ∧ C.getLsbD u = true := fun u => by
 rw [hS, bit_ins _ hv]
 constructor
 ·rintro ⟨h1, h2⟩; exact ⟨.inl h1, h2⟩
 ·rintro ⟨h1 | rfl, h2⟩
  ·exact ⟨h1, h2⟩
  ·exact absurd h2 hC
theorem widL_sub (h : ∀ i j : Nat, (nb' (i : Int)).getLsbD j = true → (nb (i : Int)).getLsbD j = true ∧ C.getLsbD j = true) : ∀ (l : List Nat) (S S' : BS), (∀ v ∈ l, v < 1024) → (∀ u, S'.getLsbD u = true ↔ S.getLsbD u = true ∧ C.getLsbD u = true) →
  widL nb' S' (l.filter fun v => C.getLsbD v) ≤ widL nb S l
 | [], S, S', _, _ => Int.le_refl _
 | v :: l, S, S', hl, hS => by
  have hv := hl v (List.mem_cons_self ..)
  have hl' := fun x hx => hl x (List.mem_cons_of_mem v hx)
  by_cases hC : C.getLsbD v = true
  ·have h1 := widL_sub h l (ins S (v : Int)) (ins S' (v : Int)) hl' (ins_meet hv hS hC)
   have h2 := reB_sub h hS hv
   rw [List.filter_cons, if_pos hC, widL, widL]; omega
  ·have h1 := widL_sub h l (ins S (v : Int)) S' hl' (ins_miss hv hS hC)
   rw [List.filter_cons, if_neg hC, widL]; omega
end
section
variable {g h : GT}
theorem tw_sub (G : Gr.Ok g) (H : Gr.Ok h) (hl : g.1.length ≤ 12) (hl' : h.1.length ≤ 12) (hV : ∀ i, (vset h.1).getLsbD i = true → (vset g.1).getLsbD i = true) (hE : ∀ i j : Nat, Adj h i j → Adj g i j) : twG h ≤ twG g := by
 obtain ⟨o1, o2, o3⟩ := widO_ok G hl
 have h1 := widL_sub (nb := nbA g) (nb' := nbA h) (C := vset h.1) (fun i j hij => ⟨(nbA_bit G).2 (hE i j ((nbA_bit H).1 hij)), (((nbA_bit H).1 hij).inn H).2.1⟩) (widO g) 0 0 (fun v hv => bit_lt ((o2 v).1 hv)) fun u => ⟨fun h => absurd h (bit_zero u), fun h => absurd h.1 (bit_zero u)⟩
 have h2 := rsR_low (nb := nbA h) (all := vset h.1) ((widO g).filter fun v => (vset h.1).getLsbD v) 0 (o1.filter _) fun i => by
  rw [diff_zero, List.mem_filter, o2]
  exact ⟨fun h => h.2, fun h => ⟨hV i h, h⟩⟩
 rw [twG, twG, ← o3]; omega
structure Part (g : GT) (C : BS) (h : GT) : Prop where
 ok : Gr.Ok h
 vs : ∀ i, (vset h.1).getLsbD i = true ↔ (vset g.1).getLsbD i = true ∧ C.getLsbD i = true
 es : ∀ i j : Nat, Adj h i j ↔ Adj g i j ∧ C.getLsbD i = true ∧ C.getLsbD j = true
 len : h.1.length ≤ g.1.length
theorem Part.le {C : BS} (P : Part g C h) (G : Gr.Ok g) (hl : g.1.length ≤ 12) : twG h ≤ twG g :=
 tw_sub G P.ok hl (Nat.le_trans P.len hl) (fun i hi => ((P.vs i).1 hi).1) fun i j hij => ((P.es i j).1 hij).1
end
end Go.Mono

namespace Go.Mono
open Go Go.Proofs Go.RowKit Go.Gr

section
variable {g h : GT}
theorem ids_elems (G : Gr.Ok g) : natE (elems (vset g.1)) = idsG g := sorted_eq _ _ (natE_sorted _) (ids_sorted G) fun x => by
 rw [mem_ids G, natE, List.mem_map]
 exact ⟨fun ⟨u, h1, h2⟩ => ⟨u, h2.symm, (mem_elems.1 h1).2⟩, fun ⟨u, h1, h2⟩ => ⟨u, mem_elems.2 ⟨bit_lt h2, h2⟩, h1.symm⟩⟩
theorem card_vs (G : Gr.Ok g) : card (vset g.1) = g.1.length := by
 have h := congrArg List.length (ids_elems G)
 rw [natE, List.length_map, card_elems, idsG, List.length_map] at h
 exact h
theorem widL_off {nb nb' : Int → BS} {a : Nat} (ha : a < 1024) (hn : ∀ i j : Nat, i ≠ a → j ≠ a → (nb' (i : Int)).getLsbD j = true → (nb (i : Int)).getLsbD j = true) : ∀ (l : List Nat) (S S' : BS), (∀ v ∈ l, v < 1024) → (∀ u, S'.getLsbD u = true ↔ S.getLsbD u = true ∧ u ≠ a) →
  widL nb' S' (l.filter fun v => decide (v ≠ a)) ≤ widL nb S l + 1
 | [], S, S', _, _ => by show (-1 : Int) ≤ -1 + 1; omega
 | v :: l, S, S', hl, hS => by
  have hv := hl v (List.mem_cons_self ..)
  have hl' := fun x hx => hl x (List.mem_cons_of_mem v hx)
  by_cases hva : v = a
  ·have h1 := widL_off ha hn l (ins S (v : Int)) S' hl' fun u => by
    rw [hS, bit_ins S hv]
    constructor
    ·rintro ⟨h1, h2⟩; exact ⟨.inl h1, h2⟩
    ·rintro ⟨h1 | h1, h2⟩
     ·exact ⟨h1, h2⟩
     ·exact absurd (h1.trans hva) h2
   rw [List.filter_cons, if_neg (by simpa using hva), widL]; omega
  ·have h1 := widL_off ha hn l (ins S (v : Int)) (ins S' (v : Int)) hl' fun u => by
    rw [bit_ins S' hv, bit_ins S hv, hS]
    constructor
    ·rintro (⟨h1, h2⟩ | rfl)
     ·exact ⟨.inl h1, h2⟩
     ·exact ⟨.inr rfl, hva⟩
    ·rintro ⟨h1 | h1, h2⟩
     ·exact .inl ⟨h1, h2⟩
     ·exact .inr h1
   have h2 : card (reB nb' S' (v : Int)) ≤ card (ins (reB nb S (v : Int)) (a : Int)) := card_mono fun u hu => by
    rw [bit_ins _ ha]
    by_cases hua : u = a
    ·exact .inr hua
    obtain ⟨k1, k2, k3⟩ := (reB_bit hv).1 hu
    refine .inl ((reB_bit hv).2 ⟨?_, fun hh => k2 ((hS u).2 ⟨hh, hua⟩), k3⟩)
    clear hu k2 k3
    induction k1 with
    | one h1 => exact .one (hn _ _ hva hua h1)
    | @step t u _ ht h1 ih => exact .step (ih ((hS t).1 ht).2) ((hS t).1 ht).1 (hn _ _ ((hS t).1 ht).2 hua h1)
   have h3 := card_ins_le (reB nb S (v : Int)) (a : Int)
   rw [List.filter_cons, if_pos (by simpa using hva), widL, widL, rn, rn]; omega
theorem tw_edge (G : Gr.Ok g) (H : Gr.Ok h) (hl : g.1.length ≤ 12) (hl' : h.1.length ≤ 12) (hV : ∀ i, (vset h.1).getLsbD i = true ↔ (vset g.1).getLsbD i = true) {a b : Nat} (hE : ∀ i j : Nat, Adj h i j ↔ Adj g i j ∨ (i = a ∧ j = b) ∨ (i = b ∧ j = a)) (ha : (vset g.1).getLsbD a = true) :
  twG g ≤ twG h ∧ twG h ≤ twG g + 1 := by
 refine ⟨tw_sub H G hl' hl (fun i hi => (hV i).2 hi) fun i j hij => (hE i j).2 (.inl hij), ?_⟩
 obtain ⟨o1, o2, o3⟩ := widO_ok G hl
 have hal := bit_lt ha
 have h1 := widL_off (nb := nbA g) (nb' := nbA h) hal (fun i j hi hj hij => by
  rcases (hE i j).1 ((nbA_bit H).1 hij) with h1 | ⟨h1, _⟩ | ⟨_, h1⟩
  ·exact (nbA_bit G).2 h1
  ·exact absurd h1 hi
  ·exact absurd h1 hj) (widO g) 0 0 (fun v hv => bit_lt ((o2 v).1 hv)) fun u => ⟨fun h => absurd h (bit_zero u), fun h => absurd h.1 (bit_zero u)⟩
 obtain ⟨l, hll⟩ : ∃ l, l = (widO g).filter fun v => decide (v ≠ a) := ⟨_, rfl⟩
 have hm : ∀ i, i ∈ l ↔ (vset g.1).getLsbD i = true ∧ i ≠ a := fun i => by rw [hll, List.mem_filter, o2, decide_eq_true_eq]
 have hnd : l.Nodup := by rw [hll]; exact o1.filter _
 rw [← hll] at h1
 have h2 := rsR_low (nb := nbA h) (all := vset h.1) (l ++ [a]) 0 (by
  rw [List.nodup_append]
  exact ⟨hnd, by simp, fun x hx y hy e => by
   rw [List.mem_singleton] at hy
   exact ((hm x).1 hx).2 (e.trans hy)⟩) fun i => by
  rw [diff_zero, hV, List.mem_append, hm, List.mem_singleton]
  constructor
  ·rintro (h | rfl)
   ·exact h.1
   ·exact ha
  ·intro h
   by_cases hia : i = a
   ·exact .inr hia
   ·exact .inl ⟨h, hia⟩
 have h3 : rn (nbA h) (setN 0 l) a ≤ 0 := by
  have h4 : card (reB (nbA h) (setN 0 l) (a : Int)) ≤ card 0 := card_mono fun u hu => by
   obtain ⟨k1, k2, k3⟩ := (reB_bit hal).1 hu
   have huV := (hV u).1 (k1.inn fun i j hij => (((nbA_bit H).1 hij).inn H).2.1)
   exact absurd ((setN_bit l 0 (fun v hv => bit_lt ((hm v).1 hv).1) u).2 (.inr ((hm u).2 ⟨huV, k3⟩))) k2
  rw [card_zero] at h4
  rw [rn]; omega
 rw [widL_app] at h2
 rw [o3] at h1
 have h5 := tw_lo g
 have h6 : twG h ≤ max (widL (nbA h) 0 l) (rn (nbA h) (setN 0 l) a) := h2
 have h7 : widL (nbA h) 0 l ≤ twG g + 1 := h1
 clear h1 h2
 omega
theorem tw_low (G : Gr.Ok g) (hl : g.1.length ≤ 12) {C : BS} {k : Nat} (hC : ∀ i, C.getLsbD i = true → (vset g.1).getLsbD i = true ∧ k ≤ card (nbA g (i : Int) &&& C)) {c : Nat} (hc : C.getLsbD c = true) : (k : Int) ≤ twG g := by
 obtain ⟨o1, o2, o3⟩ := widO_ok G hl
 have key : ∀ (l : List Nat) (S : BS), (∀ i, C.getLsbD i = true → i ∈ l ∧ ¬S.getLsbD i = true) → (∀ v ∈ l, v < 1024) → (k : Int) ≤ widL (nbA g) S l := by
  intro l
  induction l with
  | nil => intro S h _; exact absurd (h c hc).1 (by simp)
  | cons v l ih =>
   intro S h hv1
   have hv := hv1 v (List.mem_cons_self ..)
   rw [widL]
   by_cases hCv : C.getLsbD v = true
   ·have h1 : card (nbA g (v : Int) &&& C) ≤ card (reB (nbA g) S (v : Int)) := card_mono fun u hu => by
     obtain ⟨k1, k2⟩ := (bit_and _ _ _).1 hu
     exact (reB_bit hv).2 ⟨.one k1, (h u k2).2, fun e => (((nbA_bit G).1 k1).inn G).2.2 e.symm⟩
    have h2 := (hC v hCv).2
    rw [rn]; omega
   ·have h1 := ih (ins S (v : Int)) (fun i hi => by
     obtain ⟨k1, k2⟩ := h i hi
     have hiv : i ≠ v := fun e => hCv (e ▸ hi)
     refine ⟨(List.mem_cons.1 k1).resolve_left hiv, fun hh => ?_⟩
     rcases (bit_ins S hv).1 hh with h' | h'
     ·exact k2 h'
     ·exact hiv h') fun x hx => hv1 x (List.mem_cons_of_mem v hx)
    omega
 have h1 := key (widO g) 0 (fun i hi => ⟨(o2 i).2 (hC i hi).1, bit_zero i⟩) fun v hv => bit_lt ((o2 v).1 hv)
 rw [o3] at h1
 exact h1
theorem nb_in (G : Gr.Ok g) : ∀ i j : Nat, (nbA g (i : Int)).getLsbD j = true → (vset g.1).getLsbD j = true := fun i j h => (((nbA_bit G).1 h).inn G).2.1
theorem rn_le (G : Gr.Ok g) {S : BS} {v : Nat} (hv : (vset g.1).getLsbD v = true) : rn (nbA g) S v ≤ (g.1.length : Nat) - 1 := by
 have h1 : card (reB (nbA g) S (v : Int)) < card (vset g.1) := card_lt (z := v) (fun u hu => ((reB_bit (bit_lt hv)).1 hu).1.inn (nb_in G)) hv fun h => ((reB_bit (bit_lt hv)).1 h).2.2 rfl
 rw [card_vs G] at h1
 rw [rn]; omega
theorem widL_le {nb : Int → BS} {b : Int} (hb : -1 ≤ b) : ∀ (l : List Nat) (S : BS), (∀ v ∈ l, ∀ S, rn nb S v ≤ b) → widL nb S l ≤ b
 | [], S, _ => hb
 | v :: l, S, h => by
  have h1 := h v (List.mem_cons_self ..) S
  have h2 := widL_le hb l (ins S (v : Int)) fun x hx => h x (List.mem_cons_of_mem v hx)
  rw [widL]; omega
theorem tw_most (G : Gr.Ok g) (hl : g.1.length ≤ 12) : twG g ≤ (g.1.length : Nat) - 1 := by
 obtain ⟨o1, o2, o3⟩ := widO_ok G hl
 have h := widL_le (nb := nbA g) (b := (g.1.length : Nat) - 1) (by omega) (widO g) 0 fun v hv S => rn_le G ((o2 v).1 hv)
 rw [o3] at h
 exact h
theorem tw_full (G : Gr.Ok g) (hl : g.1.length ≤ 12) (h : ∀ i j : Nat, (vset g.1).getLsbD i = true → (vset g.1).getLsbD j = true → i ≠ j → Adj g i j) : twG g = (g.1.length : Nat) - 1 := by
 have h1 := tw_most G hl
 have h2 := tw_lo g
 by_cases h0 : g.1.length = 0
 ·rw [h0] at h1 ⊢; omega
 obtain ⟨c, hc⟩ : ∃ c, (vset g.1).getLsbD c = true := by
  cases hg : g.1 with
  | nil => rw [hg] at h0; exact absurd rfl h0
  | cons x l =>
   obtain ⟨u, _, hu⟩ := (mem_ids G (x := x.1)).1 (List.mem_map.2 ⟨x, by rw [hg]; exact List.mem_cons_self .., rfl⟩)
   rw [hg] at hu
   exact ⟨u, hu⟩
 have h3 := tw_low G hl (C := vset g.1) (k := g.1.length - 1) (fun i hi => ⟨hi, by
  have h4 : card (vset g.1) ≤ card (ins (nbA g (i : Int) &&& vset g.1) (i : Int)) := card_mono fun u hu => by
   rw [bit_ins _ (bit_lt hi), bit_and]
   by_cases hui : u = i
   ·exact .inr hui
   ·exact .inl ⟨(nbA_bit G).2 (h i u hi hu (Ne.symm hui)), hu⟩
  have h5 := card_ins_le (nbA g (i : Int) &&& vset g.1) (i : Int)
  rw [card_vs G] at h4
  omega⟩) hc
 omega
theorem tw_none (G : Gr.Ok g) (hl : g.1.length ≤ 12) : twG g ≤ 0 ↔ g.2 = [] := by
 constructor
 ·intro h
  cases hg : g.2 with
  | nil => rfl
  | cons x l =>
   exfalso
   have hx : x ∈ g.2 := by rw [hg]; exact List.mem_cons_self ..
   obtain ⟨q1, q2, q3, _⟩ := G.re x hx
   have r1 := inV_r G q2
   have r2 := inV_r G q3
   obtain ⟨i, hi⟩ : ∃ i : Nat, x.1.1 = (i : Int) := ⟨x.1.1.toNat, by omega⟩
   obtain ⟨j, hj⟩ : ∃ j : Nat, x.1.2 = (j : Int) := ⟨x.1.2.toNat, by omega⟩
   have hA : Adj g i j := ⟨x, hx, .inl (Prod.ext hi hj)⟩
   have hil : i < 1024 := by omega
   have hjl : j < 1024 := by omega
   have hb : ∀ u, (ins (ins 0 (i : Int)) (j : Int)).getLsbD u = true ↔ u = i ∨ u = j := fun u => by
    rw [bit_ins _ hjl, bit_ins _ hil]
    exact ⟨fun h => h.elim (fun h => h.elim (fun h => absurd h (bit_zero u)) .inl) .inr, fun h => h.elim (fun h => .inl (.inr h)) .inr⟩
   have h3 := tw_low G hl (C := ins (ins 0 (i : Int)) (j : Int)) (k := 1) (fun u hu => by
    rcases (hb u).1 hu with rfl | rfl
    ·exact ⟨(hA.inn G).1, card_pos ((bit_and _ _ _).2 ⟨(nbA_bit G).2 hA, (hb j).2 (.inr rfl)⟩)⟩
    ·exact ⟨(hA.inn G).2.1, card_pos ((bit_and _ _ _).2 ⟨(nbA_bit G).2 hA.symm, (hb i).2 (.inl rfl)⟩)⟩) ((hb i).2 (.inl rfl))
   omega
 ·intro h
  obtain ⟨o1, o2, o3⟩ := widO_ok G hl
  have h1 := widL_le (nb := nbA g) (b := 0) (by omega) (widO g) 0 fun v hv S => by
   have h4 : card (reB (nbA g) S (v : Int)) ≤ card 0 := card_mono fun u hu => by
    obtain ⟨k1, _⟩ := (reB_bit (bit_lt ((o2 v).1 hv))).1 hu
    have hno : ∀ i j : Nat, ¬(nbA g (i : Int)).getLsbD j = true := fun i j hij => by
     obtain ⟨x, hx, _⟩ := (nbA_bit G).1 hij
     rw [h] at hx; cases hx
    cases k1 with
    | one h1 => exact absurd h1 (hno _ _)
    | step _ _ h1 => exact absurd h1 (hno _ _)
   rw [card_zero] at h4
   rw [rn]; omega
  rw [o3] at h1
  exact h1
theorem tw_one (G : Gr.Ok g) (h : ∀ C : BS, (∀ i, C.getLsbD i = true → (vset g.1).getLsbD i = true) → C ≠ 0 → ∃ v, C.getLsbD v = true ∧ card (nbA g (v : Int) &&& C) ≤ 1) : twG g ≤ 1 := by
 have key : ∀ (n : Nat) (S : BS), card (vset g.1 &&& ~~~S) = n → (∀ i j : Nat, (vset g.1 &&& ~~~S).getLsbD i = true → (vset g.1 &&& ~~~S).getLsbD j = true → i ≠ j → Via (nbA g) S i j → (nbA g (i : Int)).getLsbD j = true) → rsR (nbA g) (vset g.1) S ≤ 1 := by
  intro n
  induction n with
  | zero =>
   intro S hn _
   rw [rsR_all fun i hi => by have := card_pos hi; omega]; omega
  | succ n ih =>
   intro S hn hS
   have hne : vset g.1 &&& ~~~S ≠ 0 := fun h0 => by rw [h0, card_zero] at hn; omega
   obtain ⟨v, hv, hc⟩ := h (vset g.1 &&& ~~~S) (fun i hi => ((bit_diff _ _ _).1 hi).1) hne
   have hvl := bit_lt hv
   have h1 := rsR_le (nb := nbA g) (all := vset g.1) (S := S) (v := v) hv
   have h2 : card (reB (nbA g) S (v : Int)) ≤ card (nbA g (v : Int) &&& (vset g.1 &&& ~~~S)) := card_mono fun u hu => by
    obtain ⟨k1, k2, k3⟩ := (reB_bit hvl).1 hu
    have huR : (vset g.1 &&& ~~~S).getLsbD u = true := (bit_diff _ _ _).2 ⟨k1.inn (nb_in G), k2⟩
    exact (bit_and _ _ _).2 ⟨hS v u hv huR (Ne.symm k3) k1, huR⟩
   have h3 := ih (ins S (v : Int)) (by have := card_diff hv; omega) fun i j hi hj hij k => by
    obtain ⟨hi1, hi2⟩ := (diff_ins hvl i).1 hi
    obtain ⟨hj1, hj2⟩ := (diff_ins hvl j).1 hj
    rcases (Via.ins hvl).1 k with k | ⟨k1, k2⟩
    ·exact hS i j hi1 hj1 hij k
    ·exfalso
     have a1 := hS i v hi1 hv hi2 k1
     have a2 := hS v j hv hj1 (Ne.symm hj2) k2
     have a1' := nb_symm G i v a1
     have b1 : (nbA g (v : Int) &&& (vset g.1 &&& ~~~S)).getLsbD i = true := (bit_and _ _ _).2 ⟨a1', hi1⟩
     have b2 : (nbA g (v : Int) &&& (vset g.1 &&& ~~~S)).getLsbD j = true := (bit_and _ _ _).2 ⟨a2, hj1⟩
     have b3 := card_lt (S := nbA g (v : Int) &&& (vset g.1 &&& ~~~S) &&& ~~~(ins 0 (i : Int))) (T := nbA g (v : Int) &&& (vset g.1 &&& ~~~S)) (z := i) (fun u hu => ((bit_diff _ _ _).1 hu).1) b1 fun hh => ((bit_diff _ _ _).1 hh).2 ((bit_ins 0 (bit_lt hi1)).2 (.inr rfl))
     have b4 : 0 < card (nbA g (v : Int) &&& (vset g.1 &&& ~~~S) &&& ~~~(ins 0 (i : Int))) := card_pos (p := j) ((bit_diff _ _ _).2 ⟨b2, fun hh => by
      rcases (bit_ins 0 (bit_lt hi1)).1 hh with h' | h'
      ·exact bit_zero _ h'
      ·exact hij h'.symm⟩)
     omega
   have h4 : rn (nbA g) S v ≤ 1 := by rw [rn]; omega
   omega
 refine key _ 0 rfl fun i j hi hj hij k => ?_
 cases k with
 | one h1 => exact h1
 | step _ ht _ => exact absurd ht (bit_zero _)
end
end Go.Mono

namespace Go.Mono
open Go Go.Proofs Go.RowKit Go.Gr

def nxN (nb : Int → BS) (at' : BS) : BS := (elems at').foldl (fun (s : BS) (i : Nat) => s ||| nb (i : Int)) 0
theorem nxTo_bit (nb : Int → BS) {j : Nat} : ∀ (l : List Nat) (s : BS), (l.foldl (fun (s : BS) (i : Nat) => s ||| nb (i : Int)) s).getLsbD j = true ↔ s.getLsbD j = true ∨ ∃ i ∈ l, (nb (i : Int)).getLsbD j = true
 | [], s => by simp
 | i :: l, s => by
  rw [List.foldl_cons, nxTo_bit nb l, bit_or]
  constructor
  ·rintro ((h | h) | ⟨k, hk, h⟩)
   ·exact .inl h
   ·exact .inr ⟨i, List.mem_cons_self .., h⟩
   ·exact .inr ⟨k, List.mem_cons_of_mem _ hk, h⟩
  ·rintro (h | ⟨k, hk, h⟩)
   ·exact .inl (.inl h)
   ·rcases List.mem_cons.1 hk with rfl | hk
    ·exact .inl (.inr h)
    ·exact .inr ⟨k, hk, h⟩
theorem nxN_bit {nb : Int → BS} {at' : BS} {j : Nat} : (nxN nb at').getLsbD j = true ↔ ∃ i, at'.getLsbD i = true ∧ (nb (i : Int)).getLsbD j = true := by
 rw [nxN, nxTo_bit]
 constructor
 ·rintro (h | ⟨i, hi, h⟩)
  ·exact absurd h (bit_zero j)
  ·exact ⟨i, (mem_elems.1 hi).2, h⟩
 ·rintro ⟨i, hi, h⟩; exact .inr ⟨i, mem_elems.2 ⟨bit_lt hi, hi⟩, h⟩
def lvF (nb : Int → BS) : Nat → BS → BS → List BS
 | 0, _, _ => []
 | f + 1, at', seen => if at' = 0 then [] else at' :: lvF nb f (nxN nb at' &&& ~~~seen) (seen ||| (nxN nb at' &&& ~~~seen))
def unL (l : List BS) : BS := l.foldl (fun s r => s ||| r) 0
theorem unTo_bit {j : Nat} : ∀ (l : List BS) (s : BS), (l.foldl (fun s r => s ||| r) s).getLsbD j = true ↔ s.getLsbD j = true ∨ ∃ r ∈ l, r.getLsbD j = true
 | [], s => by simp
 | r :: l, s => by
  rw [List.foldl_cons, unTo_bit l, bit_or, or_assoc]
  constructor
  ·rintro (h | h | ⟨k, hk, h⟩)
   ·exact .inl h
   ·exact .inr ⟨r, List.mem_cons_self .., h⟩
   ·exact .inr ⟨k, List.mem_cons_of_mem _ hk, h⟩
  ·rintro (h | ⟨k, hk, h⟩)
   ·exact .inl h
   ·rcases List.mem_cons.1 hk with rfl | hk
    ·exact .inr (.inl h)
    ·exact .inr (.inr ⟨k, hk, h⟩)
theorem unL_bit {l : List BS} {j : Nat} : (unL l).getLsbD j = true ↔ ∃ r ∈ l, r.getLsbD j = true := by
 rw [unL, unTo_bit]
 exact ⟨fun h => h.resolve_left (bit_zero j), .inr⟩
theorem card_le_1024 (S : BS) : card S ≤ 1024 := by
 rw [← card_elems, elems]
 have := List.length_filter_le (fun i => S.getLsbD i) (List.range 1024)
 rwa [List.length_range] at this
theorem lv_ok {nb : Int → BS} : ∀ (f : Nat) (at' seen : BS), 1024 < f + card seen ∨ at' = 0 → (∀ i, at'.getLsbD i = true → seen.getLsbD i = true) → (∀ i j : Nat, seen.getLsbD i = true → ¬at'.getLsbD i = true → (nb (i : Int)).getLsbD j = true → seen.getLsbD j = true) →
  (∀ i j : Nat, (seen.getLsbD i = true ∨ (unL (lvF nb f at' seen)).getLsbD i = true) → (nb (i : Int)).getLsbD j = true → seen.getLsbD j = true ∨ (unL (lvF nb f at' seen)).getLsbD j = true) ∧
  ∀ K : BS, (∀ i, seen.getLsbD i = true → K.getLsbD i = true) → (∀ i j : Nat, K.getLsbD i = true → (nb (i : Int)).getLsbD j = true → K.getLsbD j = true) → ∀ i, (unL (lvF nb f at' seen)).getLsbD i = true → K.getLsbD i = true := by
 intro f
 induction f with
 | zero =>
  intro at' seen hf hin hcl
  have h0 : at' = 0 := by
   rcases hf with h | h
   ·have := card_le_1024 seen; omega
   ·exact h
  have hno : ∀ i, ¬(unL (lvF nb 0 at' seen)).getLsbD i = true := fun i h => by
   obtain ⟨r, hr, _⟩ := unL_bit.1 h
   cases hr
  refine ⟨fun i j hi hij => ?_, fun K _ _ i h => absurd h (hno i)⟩
  rcases hi with hi | hi
  ·exact .inl (hcl i j hi (by rw [h0]; exact bit_zero i) hij)
  ·exact absurd hi (hno i)
 | succ f ih =>
  intro at' seen hf hin hcl
  by_cases h0 : at' = 0
  ·have hl : lvF nb (f + 1) at' seen = [] := by rw [lvF, if_pos h0]
   rw [hl]
   have hno : ∀ i, ¬(unL []).getLsbD i = true := fun i h => by
    obtain ⟨r, hr, _⟩ := unL_bit.1 h
    cases hr
   refine ⟨fun i j hi hij => ?_, fun K _ _ i h => absurd h (hno i)⟩
   rcases hi with hi | hi
   ·exact .inl (hcl i j hi (by rw [h0]; exact bit_zero i) hij)
   ·exact absurd hi (hno i)
  ·have hl : lvF nb (f + 1) at' seen = at' :: lvF nb f (nxN nb at' &&& ~~~seen) (seen ||| (nxN nb at' &&& ~~~seen)) := by rw [lvF, if_neg h0]
   rw [hl]
   obtain ⟨a2, ha2⟩ : ∃ a2, a2 = nxN nb at' &&& ~~~seen := ⟨_, rfl⟩
   have hb : ∀ j, a2.getLsbD j = true ↔ (∃ i, at'.getLsbD i = true ∧ (nb (i : Int)).getLsbD j = true) ∧ ¬seen.getLsbD j = true := fun j => by rw [ha2, bit_diff, nxN_bit]
   rw [← ha2]
   have hU : ∀ i, (unL (at' :: lvF nb f a2 (seen ||| a2))).getLsbD i = true ↔ at'.getLsbD i = true ∨ (unL (lvF nb f a2 (seen ||| a2))).getLsbD i = true := fun i => by
    rw [unL_bit, unL_bit]
    constructor
    ·rintro ⟨r, hr, h⟩
     rcases List.mem_cons.1 hr with rfl | hr
     ·exact .inl h
     ·exact .inr ⟨r, hr, h⟩
    ·rintro (h | ⟨r, hr, h⟩)
     ·exact ⟨at', List.mem_cons_self .., h⟩
     ·exact ⟨r, List.mem_cons_of_mem _ hr, h⟩
   have hfu : 1024 < f + card (seen ||| a2) ∨ a2 = 0 := by
    by_cases h2 : a2 = 0
    ·exact .inr h2
    ·left
     obtain ⟨z, hz⟩ : ∃ z, a2.getLsbD z = true := Classical.byContradiction fun hn => h2 (set_ext' fun k => ⟨fun h => absurd ⟨k, h⟩ hn, fun h => absurd h (bit_zero k)⟩)
     have := card_lt (S := seen) (T := seen ||| a2) (z := z) (fun i hi => (bit_or _ _ _).2 (.inl hi)) ((bit_or _ _ _).2 (.inr hz)) ((hb z).1 hz).2
     rcases hf with h | h
     ·omega
     ·exact absurd h h0
   obtain ⟨k1, k2⟩ := ih a2 (seen ||| a2) hfu (fun i hi => (bit_or _ _ _).2 (.inr hi)) fun i j hi hni hij => by
    rcases (bit_or _ _ _).1 hi with hi | hi
    ·by_cases hat : at'.getLsbD i = true
     ·by_cases hs : seen.getLsbD j = true
      ·exact (bit_or _ _ _).2 (.inl hs)
      ·exact (bit_or _ _ _).2 (.inr ((hb j).2 ⟨⟨i, hat, hij⟩, hs⟩))
     ·exact (bit_or _ _ _).2 (.inl (hcl i j hi hat hij))
    ·exact absurd hi hni
   have hsub : ∀ i, a2.getLsbD i = true → (unL (lvF nb f a2 (seen ||| a2))).getLsbD i = true := fun i hi => by
    have hne : a2 ≠ 0 := fun h => by rw [h] at hi; exact bit_zero _ hi
    cases f with
    | zero =>
     rcases hfu with h | h
     ·have := card_le_1024 (seen ||| a2); omega
     ·exact absurd h hne
    | succ f => rw [lvF, if_neg hne, unL_bit]; exact ⟨a2, List.mem_cons_self .., hi⟩
   constructor
   ·intro i j hi hij
    rw [hU] at hi ⊢
    have h3 : (seen ||| a2).getLsbD i = true ∨ (unL (lvF nb f a2 (seen ||| a2))).getLsbD i = true := by
     rcases hi with h | h | h
     ·exact .inl ((bit_or _ _ _).2 (.inl h))
     ·exact .inl ((bit_or _ _ _).2 (.inl (hin i h)))
     ·exact .inr h
    rcases k1 i j h3 hij with h | h
    ·rcases (bit_or _ _ _).1 h with h | h
     ·exact .inl h
     ·exact .inr (.inr (hsub j h))
    ·exact .inr (.inr h)
   ·intro K hK hKc i hi
    rcases (hU i).1 hi with h | h
    ·exact hK i (hin i h)
    ·refine k2 K (fun u hu => ?_) hKc i h
     rcases (bit_or _ _ _).1 hu with hu | hu
     ·exact hK u hu
     ·obtain ⟨⟨x, hx, hxu⟩, _⟩ := (hb u).1 hu
      exact hKc x u (hK x (hin x hx)) hxu
def lvB (nb : Int → BS) (a : Nat) : List BS := lvF nb 1025 (ins 0 (a : Int)) (ins 0 (a : Int))
theorem lvB_ok {nb : Int → BS} {a : Nat} (ha : a < 1024) : (unL (lvB nb a)).getLsbD a = true ∧ (∀ i j : Nat, (unL (lvB nb a)).getLsbD i = true → (nb (i : Int)).getLsbD j = true → (unL (lvB nb a)).getLsbD j = true) ∧
  ∀ K : BS, K.getLsbD a = true → (∀ i j : Nat, K.getLsbD i = true → (nb (i : Int)).getLsbD j = true → K.getLsbD j = true) → ∀ i, (unL (lvB nb a)).getLsbD i = true → K.getLsbD i = true := by
 have h1 : ∀ i, (ins 0 (a : Int)).getLsbD i = true ↔ i = a := fun i => by
  rw [bit_ins _ ha]
  exact ⟨fun h => h.resolve_left (bit_zero i), .inr⟩
 have hne : ins 0 (a : Int) ≠ 0 := fun h => by
  have := (h1 a).2 rfl
  rw [h] at this; exact bit_zero _ this
 obtain ⟨k1, k2⟩ := lv_ok (nb := nb) 1025 (ins 0 (a : Int)) (ins 0 (a : Int)) (.inl (by omega)) (fun i h => h) fun i j h h' => absurd h h'
 have h2 : (unL (lvB nb a)).getLsbD a = true := by
  rw [lvB, lvF, if_neg hne, unL_bit]; exact ⟨_, List.mem_cons_self .., (h1 a).2 rfl⟩
 refine ⟨h2, fun i j hi hij => ?_, fun K hK hKc => k2 K (fun i hi => by rw [(h1 i).1 hi]; exact hK) hKc⟩
 rcases k1 i j (.inr hi) hij with h | h
 ·rw [(h1 j).1 h]; exact h2
 ·exact h
end Go.Mono

namespace Go.Mono
open Go Go.Proofs Go.RowKit Go.Gr

theorem lvF_zero (nb : Int → BS) (f : Nat) (seen : BS) : lvF nb f 0 seen = [] := by
 cases f with
 | zero => rfl
 | succ f => rw [lvF, if_pos rfl]
theorem lv_step {nb : Int → BS} {at' seen : BS} {r : Nat} (h0 : at' ≠ 0) (hf : 1024 < r + card seen ∨ at' = 0) :
  ∃ f, r = f + 1 ∧ lvF nb r at' seen = at' :: lvF nb f (nxN nb at' &&& ~~~seen) (seen ||| (nxN nb at' &&& ~~~seen)) ∧ (1024 < f + card (seen ||| (nxN nb at' &&& ~~~seen)) ∨ nxN nb at' &&& ~~~seen = 0) := by
 have h1 := hf.resolve_right h0
 have h2 := card_le_1024 seen
 obtain ⟨f, rfl⟩ : ∃ f, r = f + 1 := ⟨r - 1, by omega⟩
 refine ⟨f, rfl, by rw [lvF, if_neg h0], ?_⟩
 generalize ha2 : nxN nb at' &&& ~~~seen = a2
 by_cases h3 : a2 = 0
 ·exact .inr h3
 ·left
  obtain ⟨z, hz⟩ : ∃ z, a2.getLsbD z = true := Classical.byContradiction fun hn => h3 (set_ext' fun k => ⟨fun h => absurd ⟨k, h⟩ hn, fun h => absurd h (bit_zero k)⟩)
  have := card_lt (S := seen) (T := seen ||| a2) (z := z) (fun i hi => (bit_or _ _ _).2 (.inl hi)) ((bit_or _ _ _).2 (.inr hz)) (by
   rw [← ha2] at hz; exact ((bit_diff _ _ _).1 hz).2)
  omega
def nxP (nb : Int → BS) (s : List Nat) : BS := s.foldl (fun (s : BS) (i : Nat) => s ||| nb (i : Int)) 0
theorem nxP_app (nb : Int → BS) (s : List Nat) (y : Nat) : nxP nb (s ++ [y]) = nxP nb s ||| nb (y : Int) := by rw [nxP, List.foldl_append]; rfl
theorem Ds.gro {D : List Nat} {w w' : World} {row : Option Nat} (h : Ds D w) (hg : w.grownBy w' row) (hb : ∀ d ∈ D, row ≠ some d) : Ds D w' := ⟨h.1, fun d hd => (hg.block d (h.lt hd) (fun he => hb d hd he.symm)).trans (h.2 d hd)⟩
structure LvK (W : World) (N0 N : Nat) (S0 : BS) (mq : Value) (l : List (Int × BS)) (b2 b5 b6 : Nat) (u : Value) (out : List BS) (at' seen : BS) (D : List Nat) (w : World) : Prop where
 e : Ext W w
 t : Tab w
 hv : (Dv (mpE sKV N0) (GB W Go.Mono.G0) l).p mq w
 b2 : Blk w b2 (adC S0 mq) 80
 b5 : Blk w b5 (setC at') 39
 b6 : Blk w b6 (setC seen) 39
 o : OwR setE 39 N Go.Mono.G0 w out u
 ds : Ds D w
theorem LvK.kp {W : World} {N0 N : Nat} {S0 : BS} {mq : Value} {l : List (Int × BS)} {b2 b5 b6 : Nat} {u : Value} {out : List BS} {at' seen : BS} {D : List Nat} {B : Nat} {w w' : World} (h : LvK W N0 N S0 mq l b2 b5 b6 u out at' seen D w) (k : Kp B w w') (hW : W.heap.size ≤ B) (h0 : 0 < B) (l2 : b2 < B) (l5 : b5 < B) (l6 : b6 < B) (lu : ∀ g, u.ownBlock = some g → g < B) (hD : ∀ d ∈ D, d < B) :
  LvK W N0 N S0 mq l b2 b5 b6 u out at' seen D w' :=
 have no : ∀ {b}, b < B → ¬Hole B b := fun h hh => by have := hh.1; omega
 ⟨h.e.kp k hW, h.t.kp k h0, Dv.ch h.hv k.chg (fun b hb => .inr (by have := hb.1; omega)), h.b2.kp k (no l2), h.b5.kp k (no l5), h.b6.kp k (no l6), h.o.chE k.chg fun g hg => no (lu g hg), h.ds.ch k.chg fun d hd => no (hD d hd)⟩
theorem levels_spec {G : Nat → Prop} {N0 : Nat} (l : List (Int × BS)) (S0 : BS) (mq : Value) (x : Nat) (W : World) (hT : Tab W) (h : (Dv (mpE sKV N0) G l).p mq W) (hx : x < 1024) :
  Calls Tryz.prog 56 #[.agg (adC S0 mq), I (x : Nat)] W (Post (OwA setE 39 W.heap.size Go.Mono.G0 (lvB (lkS l) x)) W) := by
 have HV : (Dv (mpE sKV N0) (GB W Go.Mono.G0) l).p mq W := Dv.toB (Dv.weak h fun b _ hb => hb.elim)
 clear h
 have hT0 := hT.lt
 refine enterM (args := [.agg (adC S0 mq), I (x : Nat)]) (As := [E (.agg (adC S0 mq)), E (I (x : Nat))]) Tryz.func56 rfl Tryz.ntmps56 (Nat.le_of_ble_eq_true rfl) ?_ (fun a hf => ?_) (Nat.le_of_ble_eq_true rfl)
 ·exact arg2 rfl rfl
 dsimp only [params, Nat.reduceAdd] at hf
 have e := Ext.rfl' W
 repeat refine seq ?_
 refine regn0 ?_
 refine tl_box hf rfl (by decide) fun a b2 w v2 hv2 e' hb2 hs2 B2 hf => ?_
 have hle2 := Nat.le_trans e.size (Nat.le_of_eq hb2.symm)
 replace hT := hT.ext e'
 replace HV := Dv.ex HV e'
 replace e := e.tr e'
 refine tl_as hf rfl (by decide) fun a hf => ?_
 refine tl_nil ?_
 cases hv2
 replace B2 : Blk w b2 (adC S0 mq) 80 := B2
 replace hf := hf.kp [1, 2]
 repeat refine seq ?_
 refine regn 6 hf (by decide +kernel) ?_
 refine st (mv rfl) ?_
 refine st (bsl1 (e := intE) (G := Go.Mono.G0) Tryz.underlying26 I3 rfl (by decide) rfl (fun b hb => hb.elim) (isI rfl)) ?_
 refine st ((call1 En10 rfl (fun v w he h => of_spec [(x : Int)] v w h (by simp))).eq (congrArg setV (fold1 (x : Int) 0))) ?_
 refine st (mv rfl) ?_
 refine st (bsl1 (e := intE) (G := Go.Mono.G0) Tryz.underlying26 I3 rfl (by decide) rfl (fun b hb => hb.elim) (isI rfl)) ?_
 refine st ((call1 En10 rfl (fun v w he h => of_spec [(x : Int)] v w h (by simp))).eq (congrArg setV (fold1 (x : Int) 0))) ?_
 refine en fun a w e' hf => ?_
 replace hT := hT.ext e'
 replace HV := Dv.ex HV e'
 replace e := e.tr e'
 replace B2 := B2.ext e'
 clear e'
 refine tl_alloc I39 hf (by decide) fun a b5 w e' hb5 hs5 B5 hf => ?_
 have hle5 := Nat.le_trans e.size (Nat.le_of_eq hb5.symm)
 have lt5_B2 := B2.lt
 replace hT := hT.ext e'
 replace HV := Dv.ex HV e'
 replace e := e.tr e'
 replace B2 := B2.ext e'
 clear e'
 refine tl_alloc I39 hf (by decide) fun a b6 w e' hb6 hs6 B6 hf => ?_
 have hle6 := Nat.le_trans e.size (Nat.le_of_eq hb6.symm)
 have lt6_B2 := B2.lt
 have lt6_B5 := B5.lt
 replace hT := hT.ext e'
 replace HV := Dv.ex HV e'
 replace e := e.tr e'
 replace B2 := B2.ext e'
 replace B5 := B5.ext e'
 clear e'
 replace hf := hf.kp [2, 5, 6, 12, 15]
 refine tl_stW T39 hf rfl rfl (wordsC_one _) B5 rfl (setC_size _) fun w hg hsz B5 hf => ?_
 replace e := e.gr hg (by omega); replace hT := hT.gr hg (by omega); replace HV := Dv.gr HV hg (.inr (by omega)); replace B2 := B2.gr hg (by omega); replace B6 := B6.gr hg (by omega); clear hg
 refine tl_stW T39 hf rfl rfl (wordsC_one _) B6 rfl (setC_size _) fun w hg hsz B6 hf => ?_
 replace e := e.gr hg (by omega); replace hT := hT.gr hg (by omega); replace HV := Dv.gr HV hg (.inr (by omega)); replace B2 := B2.gr hg (by omega); replace B5 := B5.gr hg (by omega); clear hg
 refine tl_nil ?_
 replace hf := hf.kp [2, 5, 6]
 have n6 : b2 ≠ b5 ∧ b2 ≠ b6 ∧ b5 ≠ b6 ∧ W.heap.size ≤ b2 ∧ W.heap.size ≤ b5 ∧ W.heap.size ≤ b6 := by omega
 repeat refine seq ?_
 refine regn0 ?_
 refine tl_as hf rfl (by decide) fun a hf => ?_
 refine tl_nil ?_
 obtain ⟨N, hN⟩ : ∃ N, N = w.heap.size := ⟨_, rfl⟩
 have Ho : OwR setE 39 N Go.Mono.G0 w [] (.slice none 0 0) := OwR.nil setE _ (Nat.le_of_eq hN) (fun b hb => hb.elim)
 have hlN : b2 < N ∧ b5 < N ∧ b6 < N ∧ W.heap.size ≤ N := by have h1 := B2.lt; have h2 := B5.lt; have h3 := B6.lt; omega
 clear hN
 have hfu0 : 1024 < 1025 + card (ins 0 (x : Int)) ∨ ins 0 (x : Int) = 0 := .inl (by omega)
 replace hf := hf.kp [2, 5, 6, 7]
 repeat refine seq ?_
 refine blk (loopN (fun r0 a w => ∃ (at' seen : BS) (out : List BS) (u : Value) (D : List Nat), (1024 < r0 + card seen ∨ at' = 0) ∧ out.length + r0 ≤ 1025 ∧ out ++ lvF (lkS l) r0 at' seen = lvB (lkS l) x ∧ FrD 39 (marks D) a w [(2, E (ptr b2)), (5, E (ptr b5)), (6, E (ptr b6)), (7, E u)] ∧
  LvK W N0 N S0 mq l b2 b5 b6 u out at' seen D w ∧ ∀ d ∈ D, W.heap.size ≤ d) 1025 ⟨ins 0 (x : Int), ins 0 (x : Int), [], .slice none 0 0, [], hfu0, by simp, by rw [List.nil_append, lvB], hf, ⟨e, hT, HV, B2, B5, B6, Ho, Ds.nil _⟩, fun d hd => by cases hd⟩ ?_)
 clear hf e hT HV B2 B5 B6 Ho hfu0
 rintro r0 a w ⟨at', seen, out, u, D, hfu, hle, hR, hf, ⟨e, hT, HV, B2, B5, B6, Ho, hD⟩, hDW⟩
 repeat refine seq ?_
 refine regn 3 hf (by decide +kernel) ?_
 refine st ((ldW T39 rfl B5 rfl).eq ((rfl : _ = setV at'))) ?_
 refine st (call1 (A := E (B (at' == 0))) En91 rfl (fun v w he h => by cases h; exact isEmpty_spec _ w)) ?_
 refine st (notp rfl) ?_
 refine en fun a w e' hf => ?_
 replace hT := hT.ext e'
 replace HV := Dv.ex HV e'
 replace e := e.tr e'
 replace B2 := B2.ext e'
 replace B5 := B5.ext e'
 replace B6 := B6.ext e'
 replace hD := hD.ext e'
 replace Ho := Ho.ext e'
 refine tl_nil ?_
 repeat refine seq ?_
 refine ifc hf rfl (fun hc => wskip ?_) (fun hc => wexit ?_)
 rotate_left
 ·have h0 : at' = 0 := by simpa using hc
  subst h0
  simp only [Exit.then, Exit.inBlock, ↓reduceIte]
  rw [lvF_zero, List.append_nil] at hR
  replace hf := hf.kp [7]
  repeat refine seq ?_
  refine regn 1 hf (by decide +kernel) ?_
  refine st (mv rfl) ?_
  refine en fun a w e' hf => ?_
  replace e := e.tr e'
  replace hD := hD.ext e'
  replace Ho := Ho.ext e'
  refine tl_as hf rfl (by decide) fun a hf => ?_
  refine tl_nil ?_
  refine wret ?_
  try simp only [Exit.then, Exit.inBlock]
  refine ret1M rfl hf rfl hD ⟨_, rfl, e.shut hDW, ?_⟩
  rw [← hR]
  exact (Ho.chE (chg_shut D w) fun b hb hm => Ho.neDs hD hm hb).low (by omega) fun b hb => hb.elim
 have hne : at' ≠ 0 := by
  intro h
  simp [h] at hc
 obtain ⟨f, rfl, hst, hfu2⟩ := lv_step (nb := lkS l) hne hfu
 rw [hst] at hR
 clear hc hst hfu
 simp only [Exit.then, Exit.inBlock, ↓reduceIte]
 repeat refine seq ?_
 refine blk ?_
 replace hf := hf.kp [2, 5, 6, 7]
 repeat refine seq ?_
 refine regn 3 hf (by decide +kernel) ?_
 refine st (mv rfl) ?_
 refine st ((ldW T39 rfl B5 rfl).eq ((rfl : _ = setV at'))) ?_
 refine st (bsl1 Tryz.underlying78 I39 rfl (by decide) rfl Ho.avs (isS rfl)) ?_
 refine en fun a w e' hf => ?_
 replace hT := hT.ext e'
 replace HV := Dv.ex HV e'
 replace B2 := B2.ext e'
 replace B5 := B5.ext e'
 replace B6 := B6.ext e'
 replace hD := hD.ext e'
 replace Ho := Ho.ext e'
 replace e := e.tr e'
 clear e'
 haveI hin : ∀ G0, InR (GB W G0) _ := OwR.inGB (W := W) Ho (by omega)
 refine tl_app Tryz.underlying78 I39 rfl rfl hf (by decide) rfl Ho (isR rfl) (by simp only [List.length_singleton]; omega) (by simp only [List.length_singleton, maxLen]; omega) fun a v w hg hat Hn hf => ?_
 replace e := e.gro hg (Ho.row (W := W) (by omega))
 have hrow := Ho.row (W := W) (by omega)
 replace hT := hT.gro hg (fun b hb => by have := hrow b hb; omega)
 replace HV := Dv.gro HV hg (fun b hb => .inr (hrow b hb))
 replace B2 := B2.gro hg (Ho.neLt (by omega))
 replace B5 := B5.gro hg (Ho.neLt (by omega))
 replace B6 := B6.gro hg (Ho.neLt (by omega))
 replace hD := hD.gro hg fun d hd => Ho.neDs hD hd
 replace Ho := Hn
 clear hrow
 replace Ho := Hn; clear Hn hg hat hin
 refine tl_as hf rfl (by decide) fun a hf => ?_
 refine tl_nil ?_
 replace hf := hf.kp [2, 5, 6, 7]
 repeat refine seq ?_
 refine regn0 ?_
 refine tl_alloc I39 hf (by decide) fun a b8 w e' hb8 hs8 B8 hf => ?_
 have hle8 := Nat.le_trans e.size (Nat.le_of_eq hb8.symm)
 have ne8_Ho := Ho.ne_new hb8
 have lt8_B2 := B2.lt
 have lt8_B5 := B5.lt
 have lt8_B6 := B6.lt
 replace hT := hT.ext e'
 replace HV := Dv.ex HV e'
 replace e := e.tr e'
 replace B2 := B2.ext e'
 replace B5 := B5.ext e'
 replace B6 := B6.ext e'
 replace hD := hD.ext e'
 replace Ho := Ho.ext e'
 refine tl_nil ?_
 simp only [Value.cells, zeroC] at B8
 have hW8 : W.heap.size ≤ b8 := hle8
 have n8 : b2 ≠ b8 ∧ b5 ≠ b8 ∧ b6 ≠ b8 := by have := B2.lt; have := B5.lt; have := B6.lt; omega
 have hu8 := ne8_Ho
 have hD8 : ¬ b8 ∈ D := hD.ne B8
 replace hf := hf.kp [2, 5, 6, 7, 8]
 obtain ⟨Nz, hNz⟩ : ∃ Nz, Nz = w.heap.size := ⟨_, rfl⟩
 repeat refine seq ?_
 refine regn 2 hf (by decide +kernel) ?_
 refine st ((ldW T39 rfl B5 rfl).eq ((rfl : _ = setV at'))) ?_
 refine st (call1 (A := SeqA Nz at') En25 rfl (fun v w' he h => by cases h; exact Calls.mono (all_spec _ w') (fun en w2 ⟨u, h1, h2, b', h3, h4, h5⟩ => ⟨u, h1, h2, b', by have := he.size; omega, h4, h5⟩))) ?_
 refine en fun a w e' hf => ?_
 replace hT := hT.ext e'
 replace HV := Dv.ex HV e'
 replace e := e.tr e'
 replace B2 := B2.ext e'
 replace B5 := B5.ext e'
 replace B6 := B6.ext e'
 replace B8 := B8.ext e'
 replace hD := hD.ext e'
 replace Ho := Ho.ext e'
 refine tl_nil ?_
 obtain ⟨vv, ⟨b24, h24, rfl, BS⟩, hf⟩ := hf.fix 24 rfl
 replace hf := hf.kp [2, 5, 6, 7, 8, 24]
 have l2 := B2.lt
 have l5 := B5.lt
 have l6 := B6.lt
 have l8 := B8.lt
 have lu : ∀ g, v.ownBlock = some g → g < w.heap.size := fun g hg => (Ho.lt hg).2
 have lD : ∀ d ∈ D, d < w.heap.size := fun d hd => hD.lt hd
 have hBW : W.heap.size ≤ w.heap.size := e.size
 have h0w : 0 < w.heap.size := hT.lt
 repeat refine seq ?_
 refine blk ?_
 refine range_all3 (S := at') hf rfl BS (by decide) (fun s w1 => LvK W N0 N S0 mq l b2 b5 b6 v (out ++ [at']) at' seen D w1 ∧ Blk w1 b8 (setC (nxP (lkS l) s)) 39) (fun _ _ => False) (fun s w1 h => h.1.t)
  ⟨⟨e, hT, HV, B2, B5, B6, Ho, hD⟩, B8⟩ (fun s w1 w2 h hs k => ⟨h.1.kp k hBW h0w l2 l5 l6 lu lD, h.2.kp k (fun hh => by have := hh.1; omega)⟩) (fun _ _ _ h => h.elim) ?_ ?_ (fun _ _ _ _ _ _ h => h.elim)
 ·intro lp s y rest a1 w1 hs hJ hlw hf
  have hy1024 : y < 1024 := (mem_elems.1 (by rw [hs]; simp)).1
  generalize hBz : w.heap.size = Bz at *
  refine regn0 ?_
  refine tl_as hf rfl (by decide) fun a hf => ?_
  refine tl_nil ?_
  simp only [Exit.then]
  refine ⟨Kh.rfl' _ _, fun w3 k3 hsz3 => ?_⟩
  have hJ3 := hJ.1.kp k3 hBW h0w l2 l5 l6 lu lD
  have hJ8 := hJ.2.kp k3 (fun hh => by have := hh.1; omega)
  clear e hT HV B2 B5 B6 B8 Ho hD BS hJ
  replace hf := hf.pure w3
  obtain ⟨e, hT, HV, B2, B5, B6, Ho, hD⟩ := hJ3
  have B8 := hJ8
  clear hJ8
  have kh := Kh.rfl' Bz w3
  obtain ⟨X, hX⟩ : ∃ X, X = nxP (lkS l) s := ⟨_, rfl⟩
  rw [← hX] at B8
  replace hf := hf.kp [2, 5, 6, 7, 8, 9]
  repeat refine seq ?_
  refine blk ?_
  repeat refine seq ?_
  refine regn 6 hf (by decide +kernel) ?_
  refine st ((ldW T39 rfl B8 rfl).eq ((rfl : _ = setV X))) ?_
  refine st (fldA Tryz.underlying80 rfl T66 (by decide) rfl) ?_
  refine st (ld1 (v := mq) T66 rfl B2 (adC_map _ _)) ?_
  refine st (mv rfl) ?_
  refine st (lkM (l := l) (i := (y : Int)) Tryz.underlying66 zero_set (isE rfl HV) rfl (wf64 (by omega) (by omega))) ?_
  refine st (call2 (A := E (setV (X ||| lkS l (y : Int)))) En52 rfl rfl (fun v u w he h h' => by cases h; cases h'; exact union_spec X _ w)) ?_
  refine en fun a w e' hf => ?_
  replace hT := hT.ext e'
  replace HV := Dv.ex HV e'
  replace kh := kh.tr (Kh.ext e')
  replace e := e.tr e'
  replace B2 := B2.ext e'
  replace B5 := B5.ext e'
  replace B6 := B6.ext e'
  replace B8 := B8.ext e'
  replace hD := hD.ext e'
  replace Ho := Ho.ext e'
  clear e'
  refine tl_stW T39 hf rfl rfl (wordsC_one _) B8 rfl (setC_size _) fun w hg hsz B8 hf => ?_
  replace e := e.gr hg (by omega); replace hT := hT.gr hg (by omega); replace HV := Dv.gr HV hg (.inr (by omega)); replace B2 := B2.gr hg (by omega); replace B5 := B5.gr hg (by omega); replace B6 := B6.gr hg (by omega); replace Ho := Ho.grE hg hu8; replace hD := hD.gr hg hD8
  replace kh := kh.tr (Kh.gr hg (fun hh => by have := hh.1; omega))
  clear hg
  refine tl_nil ?_
  simp only [Exit.inBlock]
  exact ⟨⟨⟨e, hT, HV, B2, B5, B6, Ho, hD⟩, by rw [nxP_app, ← hX]; exact B8⟩, kh⟩
 ·intro a' w' hf' hJ hsz hDn
  simp only [Exit.inBlock, ↓reduceIte, Exit.then]
  have hD2 : Ds (w.heap.size :: D) w' := hJ.1.ds.cons hDn fun hm => Nat.lt_irrefl _ (lD _ hm)
  have hf : FrD 39 (marks (w.heap.size :: D)) a' w' [(2, E (ptr b2)), (5, E (ptr b5)), (6, E (ptr b6)), (7, E v), (8, E (ptr b8))] := hf'.keep [2, 5, 6, 7, 8]
  have hDW2 : ∀ d ∈ w.heap.size :: D, W.heap.size ≤ d := fun d hd => by
   rcases List.mem_cons.1 hd with rfl | hd
   ·exact hBW
   ·exact hDW d hd
  clear hf' e hT HV B2 B5 B6 B8 Ho BS hD hDn hDW lu lD l2 l5 l6 l8 hBW h0w
  obtain ⟨⟨e, hT, HV, B2, B5, B6, Ho, _⟩, B8⟩ := hJ
  replace hD := hD2
  clear hD2
  generalize w.heap.size :: D = D2 at *
  generalize w' = w at *
  replace B8 : Blk w b8 (setC (nxN (lkS l) at')) 39 := B8
  obtain ⟨nx, hnx⟩ : ∃ nx, nx = nxN (lkS l) at' := ⟨_, rfl⟩
  rw [← hnx] at B8 hR hfu2
  obtain ⟨a2, ha2⟩ : ∃ a2, a2 = nx &&& ~~~seen := ⟨_, rfl⟩
  rw [← ha2] at hR hfu2
  repeat refine seq ?_
  refine regn 3 hf (by decide +kernel) ?_
  refine st ((ldW T39 rfl B8 rfl).eq ((rfl : _ = setV nx))) ?_
  refine st ((ldW T39 rfl B6 rfl).eq ((rfl : _ = setV seen))) ?_
  refine st (call2 (A := E (setV a2)) En24 rfl rfl (fun v u w he h h' => by cases h; cases h'; rw [ha2]; exact minus_spec nx seen w)) ?_
  refine en fun a w e' hf => ?_
  replace hT := hT.ext e'
  replace HV := Dv.ex HV e'
  replace e := e.tr e'
  replace B2 := B2.ext e'
  replace B5 := B5.ext e'
  replace B6 := B6.ext e'
  replace B8 := B8.ext e'
  replace hD := hD.ext e'
  replace Ho := Ho.ext e'
  clear e'
  have hD5 := hD.ne B5
  have hD6 := hD.ne B6
  have hu5 : v.ownBlock ≠ some b5 := Ho.neLt (by omega)
  have hu6 : v.ownBlock ≠ some b6 := Ho.neLt (by omega)
  refine tl_stW T39 hf rfl rfl (wordsC_one _) B5 (setC_size _) (setC_size _) fun w hg hsz B5 hf => ?_
  replace e := e.gr hg (by omega); replace hT := hT.gr hg (by omega); replace HV := Dv.gr HV hg (.inr (by omega)); replace B2 := B2.gr hg (by omega); replace B6 := B6.gr hg (by omega); replace Ho := Ho.grE hg hu5; replace hD := hD.gr hg hD5
  clear hg B8
  refine tl_nil ?_
  replace hf := hf.kp [2, 5, 6, 7]
  repeat refine seq ?_
  refine regn 3 hf (by decide +kernel) ?_
  refine st ((ldW T39 rfl B6 rfl).eq ((rfl : _ = setV seen))) ?_
  refine st ((ldW T39 rfl B5 rfl).eq ((rfl : _ = setV a2))) ?_
  refine st (call2 (A := E (setV (seen ||| a2))) En52 rfl rfl (fun v u w he h h' => by cases h; cases h'; exact union_spec seen a2 w)) ?_
  refine en fun a w e' hf => ?_
  replace hT := hT.ext e'
  replace HV := Dv.ex HV e'
  replace e := e.tr e'
  replace B2 := B2.ext e'
  replace B5 := B5.ext e'
  replace B6 := B6.ext e'
  replace hD := hD.ext e'
  replace Ho := Ho.ext e'
  clear e'
  refine tl_stW T39 hf rfl rfl (wordsC_one _) B6 (setC_size _) (setC_size _) fun w hg hsz B6 hf => ?_
  replace e := e.gr hg (by omega); replace hT := hT.gr hg (by omega); replace HV := Dv.gr HV hg (.inr (by omega)); replace B2 := B2.gr hg (by omega); replace B5 := B5.gr hg (by omega); replace Ho := Ho.grE hg hu6; replace hD := hD.gr hg hD6
  clear hg
  refine tl_nil ?_
  replace hf := hf.kp [2, 5, 6, 7]
  exact ⟨f, Nat.lt_succ_self _, a2, seen ||| a2, out ++ [at'], v, D2, hfu2, by rw [List.length_append, List.length_singleton]; omega, by rw [List.append_assoc]; exact hR, hf, ⟨e, hT, HV, B2, B5, B6, Ho, hD⟩, hDW2⟩
end Go.Mono

namespace Go.Mono
open Go Go.Proofs Go.RowKit Go.Gr

theorem lvF_len (nb : Int → BS) : ∀ (f : Nat) (a s : BS), (lvF nb f a s).length ≤ f := by
 intro f
 induction f with
 | zero => intro a s; exact Nat.le_refl _
 | succ f ih =>
  intro a s
  rw [lvF]
  split
  ·exact Nat.zero_le _
  ·rw [List.length_cons]; exact Nat.succ_le_succ (ih _ _)
theorem lvB_len (nb : Int → BS) (a : Nat) : (lvB nb a).length ≤ 1025 := lvF_len nb 1025 _ _
def AdjA (l : List (Int × BS)) (S : BS) (N0 : Nat) : VA := ⟨fun v w => ∃ mq, v = .agg (adC S mq) ∧ (Dv (mpE sKV N0) Go.Mono.G0 l).p mq w, fun v w w' e ⟨mq, h1, h2⟩ => ⟨mq, h1, Dv.ex h2 e⟩⟩
end Go.Mono

namespace Go.Mono
open Go Go.Proofs Go.RowKit Go.Gr
def WidA (g : GT) : VA := Tup [E (I (twG g)), Dv (slE intE) Go.Mono.G0 (natL (widO g)), E (I 0)]
theorem wid_spec {G : Nat → Prop} {N : Nat} (g : GT) (ok : Gr.Ok g) (hl1 : g.1.length ≤ 12) (hl2 : g.2.length ≤ 100000) (hN : N ≤ 1000000) (v : Value) (W : World) (hT : Tab W) (h : (Dv (ptE (grE N)) G (some g)).p v W) : Calls Tryz.prog 7 #[v] W (Post (WidA g) W) :=
 widthG_spec g v W hT h ok.sv ok.se hl1 hl2 hN (sml_ok ok hl1 (all := vset g.1) fun i h => h) (Nat.le_trans (card_vset g) hl1) (K := Go.Mono.G0) fun b hb => hb.elim
end Go.Mono

namespace Go.Mono
open Go Go.Proofs Go.RowKit
def GOpD (P : Program) (ops : Array Oper) (w0 : World) (fr : Bool) (L : Env) (o : Oper) (A : VA) : Prop :=
 ∀ (a : Act) w, Ext w0 w → (∀ x ∈ o.op.operands, ∀ B, opd L x = some B → B.p (a.eval x) w) → (∀ d B, gdst ops o = some d → look L d = some B → B.p (a.eval (.tmp d)) w) →
  if Region.wanted o (yielded ops a.tmps) then OpR P o a.eval w (fun v w' => Ext w w' ∧ A.p v w' ∧ (fr = true → ∀ b, v = .map (some b) → w.heap.size ≤ b ∧ b < w'.heap.size)) else A.p undef w
def frF' (fr : List Bool) (j : Nat) : Bool := fr.getD j false
def RegD (P : Program) (ops : Array Oper) (w0 : World) : List Bool → List Oper → (Env → Prop) → Env → Prop
 | _, [], K, L => K L
 | fr, o :: rest, K, L => ∃ A, GOpD P ops w0 (fr.headD false) L o A ∧ RegD P ops w0 fr.tail rest K (push o.dst A L)
def DisD (ops : Array Oper) (m : Nat) (fr : Nat → Bool) (a : Act) : Prop :=
 ∀ i j, i < m → j < m → i ≠ j → fr i = true → fr j = true → ∀ d d', dstOf ops i = some d → dstOf ops j = some d' → ∀ b, a.eval (.tmp d) = .map (some b) → a.eval (.tmp d') ≠ .map (some b)
section reg
variable {P : Program} {ops : Array Oper} {Q : Exit → Act → World → Prop} {w0 : World} {n : Nat} {ds : List Deferred} {r : Option Nat}
theorem frF_tail (fr : List Bool) (j : Nat) : frF' fr.tail j = frF' fr (j + 1) := by cases fr <;> simp [frF']
theorem RegD_As {K : Env → Prop} : ∀ (M : List Oper) (fr : List Bool) (k : Nat) (L : Env), (∀ j, j < M.length → ops[k + j]? = M[j]?) → RegD P ops w0 fr M K L →
  ∃ As : Nat → VA, (∀ j o, j < M.length → ops[k + j]? = some o → GOpD P ops w0 (frF' fr j) (envF ops L As k j) o (As j)) ∧ K (envF ops L As k M.length)
 | [], fr, k, L, _, h => ⟨fun _ => Any, fun j o hj => by simp at hj, h⟩
 | o :: M, fr, k, L, hM, ⟨A, hA, hr⟩ => by
  have h0 : ops[k]? = some o := by simpa using hM 0 (by simp)
  have hd : dstOf ops k = o.dst := by simp [dstOf, h0]
  obtain ⟨As, h1, h2⟩ := RegD_As M fr.tail (k + 1) (push o.dst A L) (fun j hj => by
   have := hM (j + 1) (by simpa using hj)
   rw [show k + 1 + j = k + (j + 1) by omega]
   simpa using this) hr
  refine ⟨consF A As, ?_, ?_⟩
  ·intro j o' hj ho'
   cases j with
   | zero =>
    rw [Nat.add_zero, h0] at ho'
    obtain rfl := Option.some.inj ho'
    have : frF' fr 0 = fr.headD false := by cases fr <;> rfl
    rw [this]
    exact hA
   | succ j =>
    rw [envF_cons, hd, ← frF_tail]
    exact h1 j o' (by simpa using hj) (by rw [show k + 1 + j = k + (j + 1) by omega]; exact ho')
  ·rw [List.length_cons, envF_cons, hd]
   exact h2

structure InvD (ops : Array Oper) (m n : Nat) (fr : Nat → Bool) (ds : List Deferred) (w0 : World) (L : Env) (As : Nat → VA) (listed : Array Bool) (a : Act) (w : World) : Prop where
 ext : Ext w0 w
 size : a.tmps.size = n
 defers : a.defers = ds
 hL : ∀ t A, look L t = some A → (∀ j, j < m → dstOf ops j ≠ some t) → A.p (a.eval (.tmp t)) w
 hA : ∀ i, i < m → listed.getD i false = true → ∀ d, dstOf ops i = some d → (As i).p (a.eval (.tmp d)) w
 hF : ∀ i, i < m → fr i = true → listed.getD i false = true → ∀ d, dstOf ops i = some d → ∀ b, a.eval (.tmp d) = .map (some b) → b < w.heap.size
 hD : ∀ i j, i < m → j < m → i ≠ j → fr i = true → fr j = true → listed.getD i false = true → listed.getD j false = true → ∀ d d', dstOf ops i = some d → dstOf ops j = some d' → ∀ b, a.eval (.tmp d) = .map (some b) → a.eval (.tmp d') ≠ .map (some b)

theorem wpAny_mainD {m : Nat} {fr : Nat → Bool} {L : Env} {As : Nat → VA} (hm : m ≤ ops.size) (hchk : ∀ i, i < m → chkOp ops m n i = true) (hchk2 : ∀ i, m ≤ i → i < ops.size → chkTail ops i = true)
  (hops : ∀ j o, j < m → ops[j]? = some o → GOpD P ops w0 (fr j) (envF ops L As 0 j) o (As j))
  (hend : ∀ a w, Ext w0 w → FrD n ds a w (envF ops L As 0 m) → DisD ops m fr a → wpListIn (FW r) 0 P ops Q (ops.toList.drop m) a w) :
  ∀ (c : Nat) (listed : Array Bool) (a : Act) (w : World), (List.range m).countP (fun i => !listed.getD i true) = c → listed.size = ops.size →
   (∀ j, m ≤ j → j < ops.size → listed.getD j true = false) → LD ops listed → InvD ops m n fr ds w0 L As listed a w → wpAnyIn (FW r) 0 P .any ops Q (c + (ops.size - m)) listed a w
 | 0, listed, a, w, hc, hsz, hun, hld, hi => by
  have hall : ∀ j, j < m → listed.getD j false = true := by
   intro j hj
   have := (List.countP_eq_zero.1 hc) j (List.mem_range.2 hj)
   have hjl : j < listed.size := by omega
   simpa [hjl] using this
  rw [Nat.zero_add]
  refine wpAny_tail m hchk2 (ops.size - m) m (by omega) (Nat.le_refl _) listed a w hall hun hsz hld (hend a w hi.ext ⟨hi.size, hi.defers, fun t A ht => ?_⟩ fun i j h1 h2 h3 h4 h5 => hi.hD i j h1 h2 h3 h4 h5 (hall i h1) (hall j h2))
  rcases look_envF L As t A m ht with ⟨j, hj, hd, rfl⟩ | ⟨hn, hl⟩
  ·exact hi.hA j hj (hall j hj) t hd
  ·exact hi.hL t A hl hn
 | c + 1, listed, a, w, hc, hsz, hun, hld, hi => by
  have facts : ∀ i o, i < m → ops[i]? = some o → (∀ e ∈ o.after, Region.binds .any e = true → e.on < i) ∧ (∀ d, o.dst = some d → d < n) ∧
    (∀ t, t ∈ tmpsOf o ∨ gdst ops o = some t → ∀ j, j < m → dstOf ops j = some t → bnd ops i j = true) ∧ (∀ j, j < m → j ≠ i → ∀ d, o.dst = some d → dstOf ops j ≠ some d) := by
   intro i o hlt ho
   have := hchk i hlt
   simp only [chkOp, ho, Bool.and_eq_true, Array.all_eq_true_iff_forall_mem, Bool.or_eq_true, Bool.not_eq_true', List.all_eq_true, List.mem_range, List.mem_append, Option.mem_toList] at this
   obtain ⟨⟨⟨h1, h2⟩, h3⟩, h4⟩ := this
   refine ⟨fun e he hb => ?_, fun d hd => ?_, fun t ht j hj hd => ?_, fun j hj hne d hd hd' => ?_⟩
   ·rcases h1 e he with h | h
    ·rw [hb] at h; cases h
    ·simpa [Nat.blt_eq] using h
   ·simpa [hd, Nat.blt_eq] using h2
   ·have := h3 t ht j hj
    rcases this with h | h
    ·rw [hd] at h; simp at h
    ·exact h
   ·have := h4 j hj
    rcases this with h | h
    ·exact hne (Nat.eq_of_beq_eq_true h)
    ·rw [hd, hd'] at h; simp at h
  have prog : ∃ i, i < m ∧ listed.getD i true = false ∧ ∀ j, j < i → listed.getD j true = true := by
   have hex : ∃ i, i < m ∧ listed.getD i true = false := by
    have hpos : 0 < (List.range m).countP (fun i => !listed.getD i true) := by omega
    obtain ⟨i, hi, hb⟩ := List.countP_pos_iff.1 hpos
    exact ⟨i, List.mem_range.1 hi, by simpa using hb⟩
   obtain ⟨i, hlt, hb⟩ := hex
   induction i using Nat.strongRecOn with
   | _ i ih =>
    by_cases h : ∃ j, j < i ∧ listed.getD j true = false
    ·obtain ⟨j, hj, hjb⟩ := h
     exact ih j hj (by omega) hjb
    ·refine ⟨i, hlt, hb, fun j hj => ?_⟩
     cases hjb : listed.getD j true with
     | true => rfl
     | false => exact absurd ⟨j, hj, hjb⟩ h
  obtain ⟨i0, hi0, hu0, hbelow⟩ := prog
  have hready : i0 ∈ Region.ready .any ops listed := by
   have ho : ops[i0]? = some (ops[i0]'(by omega)) := by simp
   refine mem_ready.2 ⟨hu0, _, ho, fun e he hb => ?_⟩
   have hlt := (facts i0 _ hi0 ho).1 e he hb
   have := hbelow _ hlt
   have hjl : e.on < listed.size := by omega
   simpa [hjl] using this
  rw [show c + 1 + (ops.size - m) = (c + (ops.size - m)) + 1 by omega]
  refine ⟨fun h0 => (by rw [h0] at hready; cases hready), fun i hir => ?_⟩
  obtain ⟨hu, o, ho, hall⟩ := mem_ready.1 hir
  have hilt : i < ops.size := (Array.getElem?_eq_some_iff.1 ho).1
  have listed_of_bnd : ∀ j, bnd ops i j = true → listed.getD j false = true := by
   intro j hb
   simp only [bnd, ho] at hb
   obtain ⟨e, he, hb⟩ := Array.any_eq_true'.1 hb
   simp only [Bool.and_eq_true] at hb
   have := hall e he hb.1
   rwa [Nat.eq_of_beq_eq_true hb.2] at this
  have him : i < m := by
   rcases Nat.lt_or_ge i m with h | h
   ·exact h
   ·have hc := hchk2 i h hilt
    simp only [chkTail, ho, Bool.and_eq_true, List.all_eq_true, List.mem_range] at hc
    have := cov hld 12 i i0 (hc.2 i0 (by omega)) (fun o' ho' e he hb => by
     rw [ho] at ho'
     obtain rfl := Option.some.inj ho'
     exact hall e he hb)
    rw [not_listed hu0] at this
    cases this
  obtain ⟨f1, f2, f3, f4⟩ := facts i o him ho
  have byLook : ∀ t, (t ∈ tmpsOf o ∨ gdst ops o = some t) → ∀ B, look (envF ops L As 0 i) t = some B → B.p (a.eval (.tmp t)) w := by
   intro t ht B hB
   rcases look_envF L As t B i hB with ⟨j, hj, hd, rfl⟩ | ⟨hn, hl⟩
   ·exact hi.hA j (by omega) (listed_of_bnd j (f3 t ht j (by omega) hd)) t hd
   ·refine hi.hL t B hl fun j hj hd => ?_
    have hb := f3 t ht j hj hd
    simp only [bnd, ho] at hb
    obtain ⟨e, he, hb⟩ := Array.any_eq_true'.1 hb
    simp only [Bool.and_eq_true] at hb
    have hlt := f1 e he hb.1
    rw [Nat.eq_of_beq_eq_true hb.2] at hlt
    exact hn j hlt hd
  have hg := hops i o him ho a w hi.ext (fun x hx B hB => by
   cases x with
   | tmp t => exact byLook t (.inl (List.mem_filterMap.2 ⟨.tmp t, by simpa using hx, rfl⟩)) B hB
   | const v => simp [opd] at hB; subst hB; rfl
   | global g => simp [opd] at hB; subst hB; rfl
   | func f => simp [opd] at hB; subst hB; rfl) (fun d B hd hB => byLook d (.inr hd) B hB)
  have hdst : dstOf ops i = o.dst := by simp [dstOf, ho]
  have step : ∀ v w', Ext w w' → (As i).p v w' → (fr i = true → ∀ b, v = .map (some b) → w.heap.size ≤ b ∧ b < w'.heap.size) → wpAnyIn (FW r) 0 P .any ops Q (c + (ops.size - m)) (listed.setIfInBounds i true) (a.put o.dst v) w' := by
   intro v w' hx hv hfr
   have oth : ∀ j, j < m → j ≠ i → ∀ d, dstOf ops j = some d → (a.put o.dst v).eval (.tmp d) = a.eval (.tmp d) := fun j hj hji d hd => by
    cases hod : o.dst with
    | none => rfl
    | some d' =>
     have : d' ≠ d := fun e => f4 j hj hji d' hod (by rw [hd, e])
     rw [eval_put_ne this]
   refine wpAny_mainD hm hchk hchk2 hops hend c _ _ _ ?_ (by simpa using hsz) ?_ ?_ ?_
   ·have := countP_upd m (fun j => !listed.getD j true) (fun j => !(listed.setIfInBounds i true).getD j true) i him (by simp only [hu, Bool.not_false])
     (by
       have hjl : i < listed.size := by omega
       simp [hjl]) (fun j hj => by simp only [getD_set_ne true (Ne.symm hj)])
    omega
   ·intro j hj hj'
    rw [getD_set_ne true (by omega)]
    exact hun j hj hj'
   ·exact hld.set fun o' ho' e he hb => by
     rw [ho] at ho'
     obtain rfl := Option.some.inj ho'
     exact hall e he hb
   ·refine ⟨Ext.tr hi.ext hx, by simp [hi.size], by simp [hi.defers], fun t A ht hn => ?_, fun j hj hl d hd => ?_, fun j hj hjf hl d hd b hb => ?_, fun j k hj hk hjk hjf hkf hlj hlk d d' hd hd' b hb hb' => ?_⟩
    ·have h0 := A.st _ _ _ hx (hi.hL t A ht hn)
     cases hod : o.dst with
     | none => exact h0
     | some d =>
      have : d ≠ t := fun e => hn i him (by rw [hdst, hod, e])
      rw [eval_put_ne this]
      exact h0
    ·by_cases hji : j = i
     ·subst hji
      rw [hdst] at hd
      rw [hd, eval_put_same (by rw [hi.size]; exact f2 d hd)]
      exact hv
     ·have hl' : listed.getD j false = true := by rwa [getD_set_ne false (Ne.symm hji)] at hl
      have h0 := (As j).st _ _ _ hx (hi.hA j hj hl' d hd)
      cases hod : o.dst with
      | none => exact h0
      | some d' =>
       have : d' ≠ d := fun e => f4 j hj hji d' hod (by rw [hd, e])
       rw [eval_put_ne this]
       exact h0
    ·by_cases hji : j = i
     ·subst hji
      rw [hdst] at hd
      rw [hd, eval_put_same (by rw [hi.size]; exact f2 d hd)] at hb
      exact (hfr hjf b hb).2
     ·have hl' : listed.getD j false = true := by rwa [getD_set_ne false (Ne.symm hji)] at hl
      rw [oth j hj hji d hd] at hb
      exact Nat.lt_of_lt_of_le (hi.hF j hj hjf hl' d hd b hb) hx.size
    ·by_cases hji : j = i
     ·subst hji
      have hki : k ≠ j := Ne.symm hjk
      have hl' : listed.getD k false = true := by rwa [getD_set_ne false (Ne.symm hki)] at hlk
      rw [oth k hk hki d' hd'] at hb'
      rw [hdst] at hd
      rw [hd, eval_put_same (by rw [hi.size]; exact f2 d hd)] at hb
      have h1 := (hfr hjf b hb).1
      have h2 := hi.hF k hk hkf hl' d' hd' b hb'
      omega
     ·have hlj' : listed.getD j false = true := by rwa [getD_set_ne false (Ne.symm hji)] at hlj
      rw [oth j hj hji d hd] at hb
      by_cases hki : k = i
      ·subst hki
       rw [hdst] at hd'
       rw [hd', eval_put_same (by rw [hi.size]; exact f2 d' hd')] at hb'
       have h1 := (hfr hkf b hb').1
       have h2 := hi.hF j hj hjf hlj' d hd b hb
       omega
      ·have hlk' : listed.getD k false = true := by rwa [getD_set_ne false (Ne.symm hki)] at hlk
       rw [oth k hk hki d' hd'] at hb'
       exact hi.hD j k hj hk hjk hjf hkf hlj' hlk' d d' hd hd' b hb hb'
  unfold wpOpIn
  simp only [ho]
  split
  ·rename_i hw
   rw [if_pos hw] at hg
   exact (hg.wp fun v w' hv => step v w' hv.1 hv.2.1 hv.2.2)
  ·rename_i hw
   rw [if_neg hw] at hg
   exact ⟨fun _ _ => trivial, step undef w (Ext.rfl' _) hg fun _ b hb => by cases hb⟩
theorem wp_regD {id : Nat} {fr : List Bool} {M S : List Oper} {L : Env} {a : Act} {w : World} (hmix : P.follows .mixedOrders = true) (hchk : chk (M ++ S).toArray M.length n = true) (hf : FrD n ds a w L)
  (h : RegD P (M ++ S).toArray w fr M (fun L' => ∀ a' w', Ext w w' → FrD n ds a' w' L' → DisD (M ++ S).toArray M.length (frF' fr) a' → wpListIn (FW r) 0 P (M ++ S).toArray Q S a' w') L) : (Code.region id (M ++ S).toArray true).wpIn (FW r) 0 P Q a w := by
 simp only [chk, Bool.and_eq_true, List.all_eq_true, List.mem_range, Bool.or_eq_true] at hchk
 obtain ⟨⟨hm, h1⟩, h2⟩ := hchk
 have hm : M.length ≤ (M ++ S).toArray.size := by simp
 refine wpIn_region_any hmix ?_
 obtain ⟨As, hAs, hK⟩ := RegD_As M fr 0 L (fun j hj => by rw [Nat.zero_add, List.getElem?_toArray, List.getElem?_append_left hj]) h
 have hext : Ext w { w with drawn := w.drawn + 1 } := Ext.drew w
 have := wpAny_mainD (P := P) (fr := frF' fr) (ops := (M ++ S).toArray) (Q := Q) (w0 := w) (n := n) (ds := ds) (m := M.length) (L := L) (As := As) hm h1 (fun i hi hi' => by
   rcases h2 i hi' with h | h
   ·simp only [Nat.blt_eq] at h; omega
   ·exact h) (fun j o hj ho => hAs j o hj (by simpa using ho)) (fun a w hx hf hd => by simpa using hK a w hx hf hd) M.length
  (Array.replicate (M ++ S).toArray.size false) a { w with drawn := w.drawn + 1 } ?_ (by simp) ?_ ?_ ⟨hext, hf.size, hf.defers, fun t A ht _ => A.st _ _ _ hext (hf.val t A ht), fun i hi hl => ?_, fun i hi _ hl => ?_, fun i j _ _ _ _ _ hl => ?_⟩
 ·rwa [show M.length + ((M ++ S).toArray.size - M.length) = (M ++ S).toArray.size by simp] at this
 ·have : (List.range M.length).countP (fun i => !(Array.replicate (M ++ S).toArray.size false).getD i true) = (List.range M.length).length := by
   refine List.countP_eq_length.2 fun i hi => ?_
   have := List.mem_range.1 hi
   have hlt : i < M.length + S.length := by omega
   simp [hlt]
  simpa using this
 ·intro j _ hj
  have hlt : j < M.length + S.length := by simpa using hj
  simp [hlt]
 ·intro i o hl
  have : (Array.replicate (M ++ S).toArray.size false).getD i false = false := by
   by_cases hlt : i < M.length + S.length <;> simp [hlt]
  rw [this] at hl; cases hl
 ·have : (Array.replicate (M ++ S).toArray.size false).getD i false = false := by
   by_cases hlt : i < M.length + S.length <;> simp [hlt]
  rw [this] at hl; cases hl
 ·have : (Array.replicate (M ++ S).toArray.size false).getD i false = false := by
   by_cases hlt : i < M.length + S.length <;> simp [hlt]
  rw [this] at hl; cases hl
 ·have : (Array.replicate (M ++ S).toArray.size false).getD i false = false := by
   by_cases hlt : i < M.length + S.length <;> simp [hlt]
  rw [this] at hl; cases hl
theorem regD {id : Nat} {ops : Array Oper} {L : Env} {a : Act} {w : World} (m : Nat) (fr : List Bool) (hmix : P.follows .mixedOrders = true) (hf : FrD n ds a w L) (hchk : chk ops m n = true)
  (h : RegD P ops w fr (ops.toList.take m) (fun L' => ∀ a' w', Ext w w' → FrD n ds a' w' L' → DisD ops m (frF' fr) a' → wpListIn (FW r) 0 P ops Q (ops.toList.drop m) a' w') L) : (Code.region id ops true).wpIn (FW r) 0 P Q a w := by
 have e : (ops.toList.take m ++ ops.toList.drop m).toArray = ops := by simp
 have hl : (ops.toList.take m).length = m := by
  simp only [chk, Bool.and_eq_true, Nat.ble_eq] at hchk
  simp
  omega
 have := wp_regD (P := P) (fr := fr) (Q := Q) (n := n) (ds := ds) (id := id) (M := ops.toList.take m) (S := ops.toList.drop m) (L := L) (a := a) (w := w) hmix (by rw [e, hl]; exact hchk) hf (by rw [e, hl]; exact h)
 rwa [e] at this

end reg
section ops
variable {P : Program} {ops : Array Oper} {w0 : World} {L : Env} {rest : List Oper} {K : Env → Prop} {op : Op} {dd : Nat} {ty : TypeId} {pos : String} {aft : Array Edge} {A : VA} {fr : List Bool}
theorem dm (h : OpC P w0 L ⟨some dd, op, ty, pos, aft, none⟩ A) (k : RegD P ops w0 fr rest K ((dd, A) :: L)) : RegD P ops w0 (false :: fr) (⟨some dd, op, ty, pos, aft, none⟩ :: rest) K L :=
 ⟨A, fun a w he hv _ => by
  simp only [Region.wanted, if_true]
  exact OpR.mono (h.out _ w he hv) fun v w' hv => ⟨hv.1, hv.2, fun hf => by cases hf⟩, k⟩
structure OpN (P : Program) (w0 : World) (L : Env) (o : Oper) (A : VA) : Prop where
 out : ∀ ρ w, Ext w0 w → (∀ x ∈ o.op.operands, ∀ B, opd L x = some B → B.p (ρ x) w) → OpR P o ρ w (fun v w' => Ext w w' ∧ A.p v w' ∧ ∀ b, v = .map (some b) → w.heap.size ≤ b ∧ b < w'.heap.size)
theorem dn (h : OpN P w0 L ⟨some dd, op, ty, pos, aft, none⟩ A) (k : RegD P ops w0 fr rest K ((dd, A) :: L)) : RegD P ops w0 (true :: fr) (⟨some dd, op, ty, pos, aft, none⟩ :: rest) K L :=
 ⟨A, fun a w he hv _ => by
  simp only [Region.wanted, if_true]
  exact OpR.mono (h.out _ w he hv) fun v w' hv => ⟨hv.1, hv.2.1, fun _ => hv.2.2⟩, k⟩
theorem de (h : K L) : RegD P ops w0 [] [] K L := h
theorem call1N {dst : Option Tmp} {g : Option (Nat × Bool)} {f : FuncId} {x : Operand} {tys : Array TypeId} {B : VA} (hf : Proofs.Enters P f) (hx : opd L x = some B)
  (h : ∀ v w, Ext w0 w → B.p v w → Calls P f #[v] w fun en w' => ∃ u, en = .returned u ∧ Ext w w' ∧ A.p u w' ∧ ∀ b, u = .map (some b) → w.heap.size ≤ b ∧ b < w'.heap.size) :
  OpN P w0 L ⟨dst, .call ⟨.value (.func f), #[x], tys⟩, ty, pos, aft, g⟩ A := by
 refine ⟨fun ρ w he hv => ?_⟩
 have hfv : ρ (.func f) = .func (.func f) #[] #[] := hv (.func f) (by simp [Op.operands, Call.operands]) _ rfl
 have hrun : (execOp ρ ⟨dst, .call ⟨.value (.func f), #[x], tys⟩, ty, pos, aft, g⟩).run P w = .ok (.enter f #[ρ x]) w := by
  simp [execOp, resolve, hfv, Deferred.ofValue, invoke, hf #[ρ x] w]
 simp only [OpR, hrun]
 exact h (ρ x) w he (hv x (by simp [Op.operands, Call.operands]) _ hx)
def MpN {α β : Type} [DecidableEq α] (V : KV P α β) (N n : Nat) (l : List (α × β)) : VA := ⟨fun v w => ∃ b, N ≤ b ∧ v = .map (some b) ∧ MpR V w b n l, fun v w w' e ⟨b, h1, h2, h3⟩ => ⟨b, h1, h2, h3.ext e⟩⟩
end ops
end Go.Mono

namespace Go.Proofs
open Go.Shelf
def Tryz.cloneV_ren : Go.Shelf.Ren := ⟨fun | 5 => 39 | 7 => 64 | n => n, fun | 23 => 84 | 25 => 3 | 3 => 89 | 4 => 4 | 20 => 20 | n => n, fun | n => n⟩
theorem Tryz.cloneV : Go.Proofs.SlLaysW.n5 Tryz.prog Tryz.cloneV_ren := {
 mixed := by kernel_rfl
 f5 := ⟨Tryz.f39.name, by decide, Tryz.func39.trans (congrArg some (by kernel_rfl))⟩
 f7 := Tryz.func64.trans (congrArg some (by kernel_rfl))
 t4 := Tryz.underlying4
 a4 := Tryz.isAgg4
 z4 := Tryz.sizeOf4
 v4 := Tryz.zeroValue4
 t20 := Tryz.underlying20
 a20 := Tryz.isAgg20
 z20 := Tryz.sizeOf20
 v20 := Tryz.zeroValue20
 t23 := Tryz.underlying84
 a23 := Tryz.isAgg84
 z23 := Tryz.sizeOf84
 v23 := Tryz.zeroValue84 }
def Tryz.cloneE_ren : Go.Shelf.Ren := ⟨fun | 5 => 40 | 7 => 64 | n => n, fun | 23 => 85 | 25 => 92 | 3 => 89 | 4 => 4 | 20 => 20 | n => n, fun | n => n⟩
theorem Tryz.cloneE : Go.Proofs.SlLaysW.n5 Tryz.prog Tryz.cloneE_ren := {
 mixed := by kernel_rfl
 f5 := ⟨Tryz.f40.name, by decide, Tryz.func40.trans (congrArg some (by kernel_rfl))⟩
 f7 := Tryz.func64.trans (congrArg some (by kernel_rfl))
 t4 := Tryz.underlying4
 a4 := Tryz.isAgg4
 z4 := Tryz.sizeOf4
 v4 := Tryz.zeroValue4
 t20 := Tryz.underlying20
 a20 := Tryz.isAgg20
 z20 := Tryz.sizeOf20
 v20 := Tryz.zeroValue20
 t23 := Tryz.underlying85
 a23 := Tryz.isAgg85
 z23 := Tryz.sizeOf85
 v23 := Tryz.zeroValue85 }
end Go.Proofs

namespace Go.Mono
open Go Go.Proofs Go.RowKit Go.Gr
theorem clV_spec (b n : Nat) (l : List VT) (W : World) (h : MpR vKV W b n l) : Calls Tryz.prog 39 #[.map (some b)] W fun en w' => ∃ u, en = .returned u ∧ Ext W w' ∧ (MpN vKV W.heap.size n l).p u w' ∧ ∀ b', u = .map (some b') → W.heap.size ≤ b' ∧ b' < w'.heap.size := by
 obtain ⟨es, h1, h2, h3, h4⟩ := h
 exact (AnyW.maps_Clone_owns Tryz.cloneV vKV.k vKV.R b n (.map es) W h1).mono fun en w' ⟨k1, k2, k3, k4⟩ => ⟨_, k1, k4, ⟨_, Nat.le_refl _, rfl, es, k2, h2, h3, h4⟩, fun b' hb => by cases hb; exact ⟨Nat.le_refl _, k2.lt⟩⟩
theorem clE_spec (b n : Nat) (l : List ET) (W : World) (h : MpR eKV W b n l) : Calls Tryz.prog 40 #[.map (some b)] W fun en w' => ∃ u, en = .returned u ∧ Ext W w' ∧ (MpN eKV W.heap.size n l).p u w' ∧ ∀ b', u = .map (some b') → W.heap.size ≤ b' ∧ b' < w'.heap.size := by
 obtain ⟨es, h1, h2, h3, h4⟩ := h
 exact (AnyW.maps_Clone_owns Tryz.cloneE eKV.k eKV.R b n (.map es) W h1).mono fun en w' ⟨k1, k2, k3, k4⟩ => ⟨_, k1, k4, ⟨_, Nat.le_refl _, rfl, es, k2, h2, h3, h4⟩, fun b' hb => by cases hb; exact ⟨Nat.le_refl _, k2.lt⟩⟩
theorem clone_spec {G : Nat → Prop} {N : Nat} (g : GT) (v : Value) (W : World) (h : (Dv (ptE (grE N)) G (some g)).p v W) :
  Calls Tryz.prog 12 #[v] W fun en w' => ∃ bg bv be, en = .returned (.pointer (some ⟨bg, 0, none⟩)) ∧ Ext W w' ∧ W.heap.size ≤ bg ∧ W.heap.size ≤ bv ∧ W.heap.size ≤ be ∧ GrR w' bg bv be N g := by
 have hv : (Dv (ptE (grE N)) Go.Mono.G0 (some g)).p v W := Dv.weak h fun b _ hb => hb.elim
 clear h
 refine enter (args := [v]) (As := [E v]) Tryz.func12 rfl Tryz.ntmps12 (Nat.le_of_ble_eq_true rfl) ?_ (fun a hf => ?_) (Nat.le_of_ble_eq_true rfl)
 rotate_left
 dsimp only [params, Nat.reduceAdd] at hf
 rotate_right
 ·exact arg1 rfl
 have e := Ext.rfl' W
 repeat refine seq ?_
 refine regn0 ?_
 refine tl_as hf rfl (by decide) fun a hf => ?_
 refine tl_nil ?_
 repeat refine seq ?_
 refine regn 2 hf (by decide +kernel) ?_
 refine st (mv rfl) ?_
 refine st (eqlP Tryz.underlying27 (isE rfl (VA.st _ _ _ _ e hv))) ?_
 refine en fun a w e' hf => ?_
 replace e := e.tr e'
 refine tl_nil ?_
 repeat refine seq ?_
 refine ifc hf rfl (fun h => by cases h) (fun _ => ?_)
 refine wskip ?_
 try simp only [Exit.then, Exit.inBlock, ↓reduceIte]
 replace hf := hf.kp [0]
 repeat refine seq ?_
 refine regD 10 [false, false, false, false, true, false, false, false, false, true] Mix.mix hf (by decide +kernel) ?_
 refine dm (mv rfl) ?_
 refine dm (nilC (isE rfl (VA.st _ _ _ _ e hv))) ?_
 refine dm (fldD Tryz.underlying87 rfl T84 (by decide) (Fld.fst Fld.refl) (isR rfl)) ?_
 refine dm (ldD T84 (isR rfl)) ?_
 refine dn (call1N (A := MpN vKV W.heap.size N g.1) En39 rfl (fun v w he ⟨cs, ⟨bm, nm, hcs, _, hNm, HM⟩, hv⟩ => by subst hcs; cases hv; exact (clV_spec bm nm g.1 w HM).mono fun en w' ⟨u, k1, k2, ⟨b, q1, q2, q3⟩, k4⟩ => ⟨u, k1, k2, ⟨b, Nat.le_trans (Ext.tr e he).size q1, q2, q3.mono hNm⟩, k4⟩)) ?_
 refine dm (mv rfl) ?_
 refine dm (nilC (isE rfl (VA.st _ _ _ _ e hv))) ?_
 refine dm (fldD Tryz.underlying87 rfl T85 (by decide) (Fld.snd Fld.refl rfl) (isR rfl)) ?_
 refine dm (ldD T85 (isR rfl)) ?_
 refine dn (call1N (A := MpN eKV W.heap.size N g.2) En40 rfl (fun v w he ⟨cs, ⟨bm, nm, hcs, _, hNm, HM⟩, hv⟩ => by subst hcs; cases hv; exact (clE_spec bm nm g.2 w HM).mono fun en w' ⟨u, k1, k2, ⟨b, q1, q2, q3⟩, k4⟩ => ⟨u, k1, k2, ⟨b, Nat.le_trans (Ext.tr e he).size q1, q2, q3.mono hNm⟩, k4⟩)) ?_
 refine de ?_
 refine fun a w e' hf hDis => ?_
 try dsimp only [push] at hf
 replace e := e.tr e'
 clear e'
 obtain ⟨v1, ⟨bv, hbv, rfl, MV⟩, hf⟩ := hf.fix 9 rfl
 obtain ⟨v2, ⟨be, hbe, rfl, ME⟩, hf⟩ := hf.fix 14 rfl
 have hne : bv ≠ be := by
  have h9 : a.eval (.tmp 9) = .map (some bv) := hf.val 9 _ rfl
  have h14 : a.eval (.tmp 14) = .map (some be) := hf.val 14 _ rfl
  intro hh
  exact hDis 4 9 (by decide) (by decide) (by decide) rfl rfl 9 14 rfl rfl bv h9 (by rw [h14, hh])
 clear hDis
 replace hf := hf.kp [9, 14]
 refine tl_op hf (by decide) (bldV [(0, _), (1, _)] rfl (bGr (some bv) (some be))) fun a w e' hf => ?_
 replace e := e.tr e'; replace MV := MV.ext e'; replace ME := ME.ext e'; clear e'
 refine tl_box hf rfl (by decide) fun a bg w u hu e' hbg hsg BG hf => ?_
 cases hu
 have hle := Nat.le_trans e.size (Nat.le_of_eq hbg.symm)
 replace e := e.tr e'; replace MV := MV.ext e'; replace ME := ME.ext e'; clear e'
 refine tl_as hf rfl (by decide) fun a hf => ?_
 refine tl_nil ?_
 refine wret ?_
 try simp only [Exit.then, Exit.inBlock]
 refine ret1 rfl hf rfl ?_
 rintro _ rfl
 exact ⟨bg, bv, be, rfl, e, hle, hbv, hbe, BG, MV, ME, hne⟩
end Go.Mono

namespace Go.Mono
open Go Go.Proofs Go.RowKit Go.Gr
def wo (nb : Int → BS) (u v : Nat) : Int → BS := fun x => if x = (u : Int) then del (nb x) (v : Int) else if x = (v : Int) then del (nb x) (u : Int) else nb x
theorem wo_bit {nb : Int → BS} {u v : Nat} (hu : u < 1024) (hv : v < 1024) (huv : u ≠ v) (i j : Nat) : (wo nb u v (i : Int)).getLsbD j = true ↔ (nb (i : Int)).getLsbD j = true ∧ ¬(i = u ∧ j = v) ∧ ¬(i = v ∧ j = u) := by
 rw [wo]
 by_cases h1 : i = u
 ·subst h1
  rw [if_pos rfl, bit_del _ hv]
  exact ⟨fun ⟨a, b⟩ => ⟨a, fun h => b h.2, fun h => huv h.1⟩, fun ⟨a, b, _⟩ => ⟨a, fun h => b ⟨rfl, h⟩⟩⟩
 ·rw [if_neg (by omega)]
  by_cases h2 : i = v
  ·subst h2
   rw [if_pos rfl, bit_del _ hu]
   exact ⟨fun ⟨a, b⟩ => ⟨a, fun h => h1 h.1, fun h => b h.2⟩, fun ⟨a, _, c⟩ => ⟨a, fun h => c ⟨rfl, h⟩⟩⟩
  ·rw [if_neg (by omega)]
   exact ⟨fun a => ⟨a, fun h => h1 h.1, fun h => h2 h.1⟩, fun h => h.1⟩
def nC (nb : Int → BS) (C : BS) (u v : Nat) : Int → BS := fun x => wo nb u v x &&& C
def sdC (nb : Int → BS) (C : BS) (u v : Nat) : BS := unL (lvB (nC nb C u v) v)
theorem sdC_ok (nb : Int → BS) (C : BS) (u : Nat) {v : Nat} (hv : v < 1024) : (sdC nb C u v).getLsbD v = true ∧ (∀ i j : Nat, (sdC nb C u v).getLsbD i = true → (nC nb C u v (i : Int)).getLsbD j = true → (sdC nb C u v).getLsbD j = true) ∧
  ∀ K : BS, K.getLsbD v = true → (∀ i j : Nat, K.getLsbD i = true → (nC nb C u v (i : Int)).getLsbD j = true → K.getLsbD j = true) → ∀ i, (sdC nb C u v).getLsbD i = true → K.getLsbD i = true := by
 rw [sdC]; exact lvB_ok hv
theorem no_core {nb : Int → BS} {C : BS} (hs : ∀ i j : Nat, (nb (i : Int)).getLsbD j = true → (nb (j : Int)).getLsbD i = true) (hi : ∀ i j : Nat, (nb (i : Int)).getLsbD j = true → i ≠ j)
  (hb : ∀ i j : Nat, (nb (i : Int)).getLsbD j = true → ¬(unL (lvB (wo nb i j) i)).getLsbD j = true) (hC : ∀ i, C.getLsbD i = true → 2 ≤ card (nb (i : Int) &&& C)) :
  ∀ (n u v : Nat), C.getLsbD u = true → C.getLsbD v = true → (nb (u : Int)).getLsbD v = true → card (sdC nb C u v) ≤ n → False := by
 intro n
 induction n with
 | zero =>
  intro u v hu hv huv hc
  have := card_pos (sdC_ok nb C u (bit_lt hv)).1
  omega
 | succ n ih =>
  intro u v hu hv huv hc
  have hul := bit_lt hu
  have hvl := bit_lt hv
  obtain ⟨w, hw1, hw2⟩ : ∃ w, (nb (v : Int) &&& C).getLsbD w = true ∧ w ≠ u := Classical.byContradiction fun hn => by
   have h1 : card (nb (v : Int) &&& C) ≤ card (ins 0 (u : Int)) := card_mono fun i hi => (bit_ins 0 hul).2 (.inr (Classical.byContradiction fun h => hn ⟨i, hi, h⟩))
   have h2 := card_ins_le 0 (u : Int)
   rw [card_zero] at h2
   have := hC v hv
   omega
  obtain ⟨hvw, hwC⟩ := (bit_and _ _ _).1 hw1
  have hwl := bit_lt hwC
  have nvw := hi v w hvw
  have nuv := hi u v huv
  obtain ⟨a1, a2, a3⟩ := sdC_ok nb C u hvl
  obtain ⟨b1, b2, b3⟩ := sdC_ok nb C v hwl
  obtain ⟨c1, c2, _⟩ := lvB_ok (nb := wo nb w v) hwl
  have hstep : ∀ (p q : Nat), p < 1024 → q < 1024 → p ≠ q → ∀ i j : Nat, (nC nb C p q (i : Int)).getLsbD j = true ↔ ((nb (i : Int)).getLsbD j = true ∧ ¬(i = p ∧ j = q) ∧ ¬(i = q ∧ j = p)) ∧ C.getLsbD j = true := fun p q hp hq hpq i j => by
   rw [nC, bit_and, wo_bit hp hq hpq i j]
  have hv1 : ¬(sdC nb C v w).getLsbD v = true := fun h => by
   refine hb w v (hs v w hvw) (b3 _ c1 (fun i j hi' hij => ?_) v h)
   obtain ⟨⟨k1, k2, k3⟩, _⟩ := (hstep v w hvl hwl nvw i j).1 hij
   exact c2 i j hi' ((wo_bit hwl hvl (Ne.symm nvw) i j).2 ⟨k1, k3, k2⟩)
  have hsub : ∀ i, (sdC nb C v w).getLsbD i = true → (sdC nb C u v &&& sdC nb C v w).getLsbD i = true := by
   refine b3 _ ((bit_and _ _ _).2 ⟨?_, b1⟩) fun i j hi' hij => ?_
   ·exact a2 v w a1 ((hstep u v hul hvl nuv v w).2 ⟨⟨hvw, fun h => nuv h.1.symm, fun h => hw2 h.2⟩, hwC⟩)
   ·obtain ⟨k1, k2⟩ := (bit_and _ _ _).1 hi'
    have k3 := b2 i j k2 hij
    have hjv : j ≠ v := fun h => hv1 (by rw [h] at k3; exact k3)
    have hiv : i ≠ v := fun h => hv1 (by rw [h] at k2; exact k2)
    obtain ⟨⟨m1, _, _⟩, m4⟩ := (hstep v w hvl hwl nvw i j).1 hij
    exact (bit_and _ _ _).2 ⟨a2 i j k1 ((hstep u v hul hvl nuv i j).2 ⟨⟨m1, fun h => hjv h.2, fun h => hiv h.1⟩, m4⟩), k3⟩
  have hlt := card_lt (S := sdC nb C v w) (T := sdC nb C u v) (z := v) (fun i hi' => ((bit_and _ _ _).1 (hsub i hi')).1) a1 hv1
  exact ih v w hv hwC hvw (by omega)
theorem tw_forest {g : GT} (G : Gr.Ok g) (hb : ∀ i j : Nat, Adj g i j → ¬(unL (lvB (wo (nbA g) i j) i)).getLsbD j = true) : twG g ≤ 1 := by
 refine tw_one G fun C hCV hne => Classical.byContradiction fun hn => ?_
 have hC : ∀ i, C.getLsbD i = true → 2 ≤ card (nbA g (i : Int) &&& C) := fun i hi => by
  have : ¬card (nbA g (i : Int) &&& C) ≤ 1 := fun h => hn ⟨i, hi, h⟩
  omega
 obtain ⟨u, hu⟩ : ∃ u, C.getLsbD u = true := Classical.byContradiction fun h => hne (set_ext' fun k => ⟨fun hk => absurd ⟨k, hk⟩ h, fun hk => absurd hk (bit_zero k)⟩)
 obtain ⟨v, hv⟩ : ∃ v, (nbA g (u : Int) &&& C).getLsbD v = true := Classical.byContradiction fun h => by
  have h1 : card (nbA g (u : Int) &&& C) ≤ card 0 := card_mono fun k hk => absurd ⟨k, hk⟩ h
  rw [card_zero] at h1
  have := hC u hu
  omega
 obtain ⟨h1, h2⟩ := (bit_and _ _ _).1 hv
 exact no_core (nb_symm G) (fun i j hij => (((nbA_bit G).1 hij).inn G).2.2) (fun i j hij => hb i j ((nbA_bit G).1 hij)) hC (card (sdC (nbA g) C u v)) u v hu h2 h1 (Nat.le_refl _)
end Go.Mono

namespace Go.Mono
open Go Go.Proofs Go.RowKit Go.Gr
section
variable {nb : Int → BS}
theorem lvF_nil {at' : BS} (h : at' = 0) (f : Nat) (seen : BS) : lvF nb f at' seen = [] := by
 cases f with
 | zero => rfl
 | succ f => rw [lvF, if_pos h]
theorem lvF_cons {at' : BS} (h : at' ≠ 0) (f : Nat) (seen : BS) : lvF nb (f + 1) at' seen = at' :: lvF nb f (nxN nb at' &&& ~~~seen) (seen ||| (nxN nb at' &&& ~~~seen)) := by rw [lvF, if_neg h]
theorem lv_path : ∀ (f : Nat) (at' seen : BS) (k x : Nat) (S : BS), (lvF nb f at' seen)[k]? = some S → S.getLsbD x = true →
  ∃ p : Nat → Nat, at'.getLsbD (p 0) = true ∧ p k = x ∧ (∀ i, i ≤ k → ∃ T, (lvF nb f at' seen)[i]? = some T ∧ T.getLsbD (p i) = true) ∧ ∀ i, i < k → (nb (p i : Int)).getLsbD (p (i + 1)) = true := by
 intro f
 induction f with
 | zero => intro at' seen k x S hS; rw [lvF] at hS; cases hS
 | succ f ih =>
  intro at' seen k x S hS hx
  by_cases h0 : at' = 0
  ·rw [lvF_nil h0] at hS; cases hS
  rw [lvF_cons h0] at hS ⊢
  cases k with
  | zero =>
   rw [List.getElem?_cons_zero] at hS
   obtain rfl := Option.some.inj hS
   refine ⟨fun _ => x, hx, rfl, fun i hi => ⟨at', ?_, hx⟩, fun i hi => by omega⟩
   rw [show i = 0 by omega, List.getElem?_cons_zero]
  | succ k =>
   rw [List.getElem?_cons_succ] at hS
   obtain ⟨p, p1, p2, p3, p4⟩ := ih _ _ k x S hS hx
   obtain ⟨y, hy, hyp⟩ := nxN_bit.1 ((bit_diff _ _ _).1 p1).1
   refine ⟨fun i => if i = 0 then y else p (i - 1), by simpa using hy, by simpa using p2, fun i hi => ?_, fun i hi => ?_⟩
   ·cases i with
    | zero => exact ⟨at', List.getElem?_cons_zero, by simpa using hy⟩
    | succ i =>
     obtain ⟨T, h1, h2⟩ := p3 i (by omega)
     exact ⟨T, by rw [List.getElem?_cons_succ]; exact h1, by simpa using h2⟩
   ·cases i with
    | zero => simpa using hyp
    | succ i => simpa using p4 i (by omega)
theorem lv_new : ∀ (f : Nat) (at' seen : BS) (k x : Nat) (S : BS), (lvF nb f at' seen)[k + 1]? = some S → S.getLsbD x = true → ¬seen.getLsbD x = true := by
 intro f
 induction f with
 | zero => intro at' seen k x S hS; rw [lvF] at hS; cases hS
 | succ f ih =>
  intro at' seen k x S hS hx
  by_cases h0 : at' = 0
  ·rw [lvF_nil h0] at hS; cases hS
  rw [lvF_cons h0, List.getElem?_cons_succ] at hS
  cases k with
  | zero =>
   cases f with
   | zero => rw [lvF] at hS; cases hS
   | succ f =>
    by_cases h2 : nxN nb at' &&& ~~~seen = 0
    ·rw [lvF_nil h2] at hS; cases hS
    ·rw [lvF_cons h2, List.getElem?_cons_zero] at hS
     obtain rfl := Option.some.inj hS
     exact ((bit_diff _ _ _).1 hx).2
  | succ k => exact fun h => ih _ _ k x S hS hx ((bit_or _ _ _).2 (.inl h))
theorem lv_dis : ∀ (f : Nat) (at' seen : BS), (∀ i, at'.getLsbD i = true → seen.getLsbD i = true) → ∀ (i j x : Nat) (S T : BS), i < j → (lvF nb f at' seen)[i]? = some S → (lvF nb f at' seen)[j]? = some T → S.getLsbD x = true → ¬T.getLsbD x = true := by
 intro f
 induction f with
 | zero => intro at' seen _ i j x S T _ hS; rw [lvF] at hS; cases hS
 | succ f ih =>
  intro at' seen hin i j x S T hij hS hT hx hxT
  by_cases h0 : at' = 0
  ·rw [lvF_nil h0] at hS; cases hS
  cases j with
  | zero => omega
  | succ j =>
   cases i with
   | zero =>
    have h1 := lv_new (f + 1) at' seen j x T hT hxT
    rw [lvF_cons h0, List.getElem?_cons_zero] at hS
    obtain rfl := Option.some.inj hS
    exact h1 (hin x hx)
   | succ i =>
    rw [lvF_cons h0, List.getElem?_cons_succ] at hS hT
    exact ih _ _ (fun k hk => (bit_or _ _ _).2 (.inr hk)) i j x S T (by omega) hS hT hx hxT
structure Cyc (nb : Int → BS) (p : Nat → Nat) (n : Nat) : Prop where
 three : 3 ≤ n
 inj : ∀ i j, i < n → j < n → p i = p j → i = j
 adj : ∀ i, i + 1 < n → (nb (p i : Int)).getLsbD (p (i + 1)) = true
 last : (nb (p (n - 1) : Int)).getLsbD (p 0) = true
theorem cyc_of {u v k : Nat} {S : BS} (hu : u < 1024) (hv : v < 1024) (huv : u ≠ v) (he : (nb (v : Int)).getLsbD u = true) (hS : (lvB (wo nb u v) u)[k]? = some S) (hx : S.getLsbD v = true) : ∃ p, Cyc nb p (k + 1) ∧ p 0 = u ∧ p k = v := by
 rw [lvB] at hS
 obtain ⟨p, p1, p2, p3, p4⟩ := lv_path _ _ _ k v S hS hx
 have h0 : p 0 = u := by
  rcases (bit_ins 0 hu).1 p1 with h | h
  ·exact absurd h (bit_zero _)
  ·exact h
 have hk0 : k ≠ 0 := fun h => huv (by rw [← h0, ← p2, h])
 have hk1 : k ≠ 1 := fun h => by
  have h1 := p4 0 (by omega)
  rw [show (0 : Nat) + 1 = k by omega, p2, h0] at h1
  exact ((wo_bit hu hv huv u v).1 h1).2.1 ⟨rfl, rfl⟩
 refine ⟨p, ⟨by omega, fun i j hi hj hij => ?_, fun i hi => ((wo_bit hu hv huv _ _).1 (p4 i (by omega))).1, ?_⟩, h0, p2⟩
 ·obtain ⟨S1, a1, a2⟩ := p3 i (by omega)
  obtain ⟨S2, b1, b2⟩ := p3 j (by omega)
  rw [← hij] at b2
  rcases Nat.lt_trichotomy i j with h | h | h
  ·exact absurd b2 (lv_dis _ _ _ (fun k hk => hk) i j (p i) S1 S2 h a1 b1 a2)
  ·exact h
  ·exact absurd a2 (lv_dis _ _ _ (fun k hk => hk) j i (p i) S2 S1 h b1 a1 b2)
 ·rw [show k + 1 - 1 = k by omega, p2, h0]; exact he
theorem two_card {S : BS} {a b : Nat} (ha : S.getLsbD a = true) (hb : S.getLsbD b = true) (hab : a ≠ b) : 2 ≤ card S := by
 have h1 := card_lt (S := S &&& ~~~(ins 0 (a : Int))) (T := S) (z := a) (fun u hu => ((bit_diff _ _ _).1 hu).1) ha fun hh => ((bit_diff _ _ _).1 hh).2 ((bit_ins 0 (bit_lt ha)).2 (.inr rfl))
 have h2 : 0 < card (S &&& ~~~(ins 0 (a : Int))) := card_pos (p := b) ((bit_diff _ _ _).2 ⟨hb, fun hh => by
  rcases (bit_ins 0 (bit_lt ha)).1 hh with h' | h'
  ·exact bit_zero _ h'
  ·exact hab h'.symm⟩)
 omega
end
theorem tw_cyc {g : GT} (G : Gr.Ok g) (hl : g.1.length ≤ 12) {p : Nat → Nat} {n : Nat} (h : Cyc (nbA g) p n) : 2 ≤ twG g := by
 have h3 := h.three
 have hs := nb_symm G
 have hadj : ∀ i, i < n → (vset g.1).getLsbD (p i) = true := fun i hi => by
  by_cases hi1 : i + 1 < n
  ·exact (((nbA_bit G).1 (h.adj i hi1)).inn G).1
  ·have := (((nbA_bit G).1 h.last).inn G).1
   rwa [show n - 1 = i by omega] at this
 obtain ⟨C, hC⟩ : ∃ C : BS, C = setN 0 ((List.range n).map p) := ⟨_, rfl⟩
 have hm : ∀ u, C.getLsbD u = true ↔ ∃ i, i < n ∧ p i = u := fun u => by
  rw [hC, setN_bit _ _ (fun v hv => by
   obtain ⟨i, hi, rfl⟩ := List.mem_map.1 hv
   exact bit_lt (hadj i (List.mem_range.1 hi))), List.mem_map]
  constructor
  ·rintro (h | ⟨i, hi, h⟩)
   ·exact absurd h (bit_zero u)
   ·exact ⟨i, List.mem_range.1 hi, h⟩
  ·rintro ⟨i, hi, h⟩; exact .inr ⟨i, List.mem_range.2 hi, h⟩
 refine tw_low G hl (C := C) (k := 2) (fun u hu => ?_) (c := p 0) ((hm _).2 ⟨0, by omega, rfl⟩)
 obtain ⟨i, hi, rfl⟩ := (hm u).1 hu
 refine ⟨hadj i hi, ?_⟩
 have key : ∀ a b, a < n → b < n → a ≠ b → (nbA g (p i : Int)).getLsbD (p a) = true → (nbA g (p i : Int)).getLsbD (p b) = true → 2 ≤ card (nbA g (p i : Int) &&& C) := fun a b ha hb hab k1 k2 =>
  two_card ((bit_and _ _ _).2 ⟨k1, (hm _).2 ⟨a, ha, rfl⟩⟩) ((bit_and _ _ _).2 ⟨k2, (hm _).2 ⟨b, hb, rfl⟩⟩) fun e => hab (h.inj a b ha hb e)
 by_cases h0 : i = 0
 ·subst h0
  exact key 1 (n - 1) (by omega) (by omega) (by omega) (h.adj 0 (by omega)) (hs _ _ h.last)
 ·have hp := h.adj (i - 1) (by omega)
  rw [show i - 1 + 1 = i by omega] at hp
  by_cases h1 : i + 1 < n
  ·exact key (i - 1) (i + 1) (by omega) h1 (by omega) (hs _ _ hp) (h.adj i h1)
  ·have hla := h.last
   rw [show n - 1 = i by omega] at hla
   exact key (i - 1) 0 (by omega) (by omega) (by omega) (hs _ _ hp) hla
theorem tw_bridges {g : GT} (G : Gr.Ok g) (hl : g.1.length ≤ 12) : twG g ≤ 1 ↔ ∀ i j : Nat, Adj g i j → ¬(unL (lvB (wo (nbA g) i j) i)).getLsbD j = true := by
 refine ⟨fun h i j hij hh => ?_, tw_forest G⟩
 obtain ⟨S, hS, hx⟩ := unL_bit.1 hh
 obtain ⟨k, hk, hSk⟩ := List.getElem_of_mem hS
 obtain ⟨hi, hj, hne⟩ := hij.inn G
 obtain ⟨p, hp, _⟩ := cyc_of (bit_lt hi) (bit_lt hj) hne ((nbA_bit G).2 hij.symm) (k := k) (S := S) (by rw [List.getElem?_eq_getElem hk, hSk]) hx
 have := tw_cyc G hl hp
 omega
end Go.Mono
