/-
  Walks and plain facts, in this order: Tw3, TwL, Indu, Trv, MatB, R23a, R23e, MonoC, R23f, R23b, TwC, MonoN, TwO, Elms, Out, Bal3, Bal4, Bal5, Split, Centre, Path, Splitter, Bal, BelowS, Chked, Balance, Bal6, Bal7, Depth3, Bal8, Bal9, BalA, BalB, TwR, TwS, TwU, TwV, Lvls, Prts.
  No condition.
-/
import Derived.Test.YtlfbebmhghpkaaaGreatDoorVE
import Derived.Test.YtlfbebmhghpkaaaGreatDoorVC
import Derived.Test.YtlfbebmhghpkaaaGreatDoorVB
import Derived.ArgAppend
import Derived.Deep.Upon
import Derived.Deep.Slices
import Derived.Test.YtlfbebmhghpkaaaGreatDoorVA
import Derived.Test.YtlfbebmhghpkaaaGreatDoorVD
set_option linter.unusedVariables false
set_option linter.unusedSimpArgs false
namespace Go.Mono
open Go Go.Proofs Go.RowKit Go.Gr

/-- the end of a function: a slot and what a block holds -/
theorem ret2t {P : Program} {fn : Func} {t u s k : Nat} {R : Ending → World → Prop} {n : Nat} {a : Act} {w : World} {L : Env} {b : Nat} {cs : Array Value} {bt : TypeId} {A : VA} (hr : fn.results = #[.tmp s, .cell t u]) (ht : TI P u true k) (hf : Fr n a w L) (h : look L t = some (E (.pointer (some ⟨b, 0, none⟩)))) (h' : look L s = some A)
    (hb : Blk w b cs bt) (hs : cs.size = k) (hR : ∀ x, A.p x w → R (.returned (.tuple #[x, .agg cs])) w) : bodyPost P fn R .ret a w := by
  have hv : a.tmps.getD t undef = .pointer (some ⟨b, 0, none⟩) := hf.val t _ h
  have hv' : a.tmps[t]?.getD undef = .pointer (some ⟨b, 0, none⟩) := by simpa using hv
  obtain ⟨d, h1, h2⟩ := ht.u
  have hl := run_loadVar_row (P := P) w b bt u cs (0, 0) d hb h1 (by cases d <;> simp_all) (by rw [ht.s, hs])
  exact ⟨hf.defers, .tuple #[a.eval (.tmp s), .agg cs], by simp [results, hr, Act.eval, hv', asAddr, hl], hR _ (hf.val s A h')⟩
/-- the program's graph and the reference's: none where the graph is wrong or large -/
def frW (g : GT) (most : Int) : GT × Bool := if (decide (most < (g.1.length : Nat)) || decide ((40 : Int) < (g.2.length : Nat))) = true then (g, false) else if (ofR g.1 g.2).2 ≠ 0 then (g, false) else ((ofR g.1 g.2).1, true)
noncomputable def FrA (g : GT) (most : Int) : VA := ⟨fun v w => ((frW g most).2 = true → (Dv (ptE (grE 2000)) Go.Mono.G0 (some (frW g most).1)).p v w) ∧ ((frW g most).2 = false → v = .pointer none), fun v w w' e h => ⟨fun hc => Dv.ex (h.1 hc) e, h.2⟩⟩
theorem ofR_len {V : List VT} {E : List ET} (h : (ofR V E).2 = 0) : (ofR V E).1.1.length ≤ V.length + E.length ∧ (ofR V E).1.2.length ≤ V.length + E.length := by
  have : ∀ (l : List DT) (g : GT) (m : Nat), g.1.length ≤ m → g.2.length ≤ m → (l.foldl ofS (g, 0)).2 = 0 → (l.foldl ofS (g, 0)).1.1.length ≤ m + l.length ∧ (l.foldl ofS (g, 0)).1.2.length ≤ m + l.length := by
    intro l
    induction l with
    | nil => intro g m h1 h2 _; exact ⟨h1, h2⟩
    | cons d l ih =>
      intro g m h1 h2 h3
      rw [List.foldl_cons] at h3 ⊢
      by_cases hd : (doR g d).2 = 0
      · have e1 : ofS (g, 0) d = ((doR g d).1, 0) := by rw [ofS, if_neg (by simp), if_neg (by simpa using hd)]
        rw [e1] at h3 ⊢
        have := doR_len g d
        have h5 := ih (doR g d).1 (m + 1) (by omega) (by omega) h3
        rw [List.length_cons]; omega
      · have e1 : ofS (g, 0) d = (([], []), (doR g d).2) := by rw [ofS, if_neg (by simp), if_pos hd]
        rw [e1, ofS_stop (s := (([], []), (doR g d).2)) hd] at h3
        exact absurd h3 hd
  have h2 := this (V.map dV ++ E.map dE) ([], []) 0 (Nat.le_refl _) (Nat.le_refl _) h
  simpa [ofR] using h2
theorem ofR_ok {V : List VT} {E : List ET} (hV : ∀ x ∈ V, 0 ≤ x.2.1 ∧ x.2.1 < 256) (hE : ∀ x ∈ E, 0 ≤ x.2.1 ∧ x.2.1 < 256) : Gr.Ok (ofR V E).1 := by
  have z : Gr.Ok (([], []) : GT) := ⟨List.Pairwise.nil, List.Pairwise.nil, by simp, by simp, by simp⟩
  have : ∀ (l : List DT) (s : GT × Int), Gr.Ok s.1 → (∀ d ∈ l, 0 ≤ d.2.2.2.1 ∧ d.2.2.2.1 < 256) → Gr.Ok (l.foldl ofS s).1 := by
    intro l
    induction l with
    | nil => intro s h _; exact h
    | cons d l ih =>
      intro s h hl
      rw [List.foldl_cons]
      refine ih _ ?_ fun d hd => hl d (by simp [hd])
      unfold ofS
      split
      · exact h
      · split
        · exact z
        · exact ok_do h (hl d (by simp))
  refine this _ _ z fun d hd => ?_
  rcases List.mem_append.1 hd with h | h
  · obtain ⟨x, hx, rfl⟩ := List.mem_map.1 h; exact hV x hx
  · obtain ⟨x, hx, rfl⟩ := List.mem_map.1 h; exact hE x hx
/-- Build, at a valid graph -/
theorem build_post {G : Nat → Prop} (g : GT) (hg : Gr.Ok g) (v u : Value) (W : World) (h1 : (Dv (slE vtE) G g.1).p v W) (h2 : (Dv (slE etE) G g.2).p u W) (hl1 : g.1.length ≤ 1000) (hl2 : g.2.length ≤ 1000) {K : Nat → Prop} (hK : ∀ b, K b → b < W.heap.size) :
    Calls Tryz.prog 15 #[v, u] W (Post (Tup [Dv (ptE (grE 2000)) K (some g), E (I 0)]) W) :=
  Calls.mono (build_spec g.1 g.2 v u W h1 h2 (by omega) (by omega) (okD_V hg) (okD_E hg)) fun en w' ⟨e, hq⟩ => by
    obtain ⟨g', k1, k2, k3⟩ := bld_ok hg
    rcases hq with ⟨g2, b1, b2, b3, q1, rfl, q3, q4, q5, q6⟩ | ⟨c, q0, q1, _⟩
    · rw [k1] at q1; cases q1
      exact ⟨_, rfl, e, Tup.two ((q6.perm k2 k3).dv (by omega) (fun h => by have := hK _ h; omega) (fun h => by have := hK _ h; omega) (fun h => by have := hK _ h; omega)) rfl⟩
    · rw [k1] at q1; cases q1
theorem from23_spec {G : Nat → Prop} (g : GT) (most : Int) (v : Value) (W : World) (h : (Dv gtE G g).p v W) (hm : most ≤ 100) (hV : ∀ x ∈ g.1, 0 ≤ x.2.1 ∧ x.2.1 < 256) (hE : ∀ x ∈ g.2, 0 ≤ x.2.1 ∧ x.2.1 < 256) :
    Calls Tryz.prog 5 #[v, I most] W (Post (Tup [FrA g most, Dv gtE Go.Mono.G0 (frW g most).1]) W) := by
  obtain ⟨u1, u2, rfl, h1, h2⟩ := Dv.gt.1 (Dv.weak (G' := Go.Mono.G0) h fun b _ hb => hb.elim)
  have h1b := Dv.toB h1
  have h2b := Dv.toB h2
  have hgb : (Dv gtE (GB W Go.Mono.G0) g).p (.agg #[u1, u2]) W := Dv.gt.2 ⟨_, _, rfl, h1b, h2b⟩
  refine enter (args := [.agg #[u1, u2], I most]) (As := [E (.agg #[u1, u2]), E (I most)]) Tryz.func5 rfl Tryz.ntmps5 (Nat.le_of_ble_eq_true rfl) ?_ (fun a hf => ?_) (Nat.le_of_ble_eq_true rfl)
  rotate_left
  dsimp only [params, Nat.reduceAdd] at hf
  rotate_right
  · exact arg2 rfl rfl
  have e := Ext.rfl' W
  repeat refine seq ?_
  refine regn0 ?_
  refine tl_box hf rfl (by decide) fun a b2 w v2 hv2 e' hb2 hs2 B2 hf => ?_
  have hle2 := Nat.le_trans e.size (Nat.le_of_eq hb2.symm)
  replace e := Ext.tr e e'
  clear e'
  refine tl_as hf rfl (by decide) fun a hf => ?_
  refine tl_alloc I25 hf (by decide) fun a b5 w e' hb5 hs5 B5 hf => ?_
  have hle5 := Nat.le_trans e.size (Nat.le_of_eq hb5.symm)
  have lt5_B2 := B2.lt
  replace e := Ext.tr e e'
  replace B2 := B2.ext e'
  clear e'
  refine tl_nil ?_
  cases hv2
  repeat refine seq ?_
  refine regn 11 hf (by decide +kernel) ?_
  refine st (fldA Tryz.underlying25 rfl T22 (by decide) rfl) ?_
  refine st (ld1 T22 rfl (by assumption) rfl) ?_
  refine st (lenD Tryz.underlying22 (isE rfl (VA.st _ _ _ _ e h1))) ?_
  refine st (mv rfl) ?_
  refine st (gtr rfl rfl) ?_
  refine st (mv rfl) ?_
  refine sgE rfl rfl (.k 2 rfl .n) (fun hgd => fldA Tryz.underlying25 rfl T23 (by decide) rfl) ?_
  refine sgE rfl rfl (.c 20 rfl (fun h => h) .n) (fun hgd => ld1 T23 rfl (by assumption) rfl) ?_
  refine sgE rfl rfl (.c 21 rfl (fun h => h) .n) (fun hgd => lenD Tryz.underlying23 (isE rfl (VA.st _ _ _ _ e h2))) ?_
  refine sgE rfl rfl (.c 22 rfl (fun h => h) .n) (fun hgd => gtr rfl rfl) ?_
  refine st (pkOr rfl rfl (fun h => by rw [h]; rfl)) ?_
  refine en fun a w e' hf => ?_
  replace e := Ext.tr e e'
  replace B2 := B2.ext e'
  replace B5 := B5.ext e'
  clear e'
  refine tl_nil ?_
  repeat refine seq ?_
  refine ifc hf rfl (fun hb => ?_) (fun hb => ?_)
  · have hfw : frW g most = (g, false) := by rw [frW, if_pos hb]
    have hc2 : (#[u1, u2] : Array Value).all (·.oneCell') = true := one2 (slOne h1) (slOne h2)
    replace hf := hf.keep [2, 4, 5]
    dsimp only [keep, List.filterMap, look, Nat.beq, Option.map] at hf
    repeat refine seq ?_
    refine regJ 3 [0, 1] (Chg fun c => c = b5) (RelJ.one _) (fun w => ∃ cs, Blk w b5 cs 25 ∧ (E (.agg #[u1, u2])).p (.agg cs) w) (fun w w1 k h => h.imp fun cs h => ⟨h.1.ext k, h.2⟩) Mix.mix hf (by decide +kernel) (by decide +kernel) ?_
    refine ja ((ldW T25 rfl B2 rfl).eq ((rfl : _ = Value.agg #[u1, u2]))) ?_
    refine jf (fun w1 h1 => asg rfl) ?_
    refine jx (xstB T25 rfl B5 rfl rfl (fun v w hv => ⟨_, hv, rfl, hc2⟩) (fun v w w' hc hv => hv)) ?_
    refine je ?_
    refine fun a w hc HF hf => ?_
    try dsimp only [push] at hf
    obtain ⟨cs, B5, hcs⟩ := HF
    cases hcs
    replace e := e.ch hc (fun b hb => by rw [hb]; omega)
    clear hc
    refine tl_nil ?_
    refine wret (ret2t rfl T25 hf rfl rfl B5 rfl ?_)
    rintro _ rfl
    exact ⟨_, rfl, e, by rw [hfw]; exact Tup.two ⟨fun h => (by rw [hfw] at h; cases h), fun _ => rfl⟩ (VA.st _ _ _ _ e (Dv.weak h fun b _ hb => hb.elim))⟩
  have hfw0 : ¬ (decide (most < (g.1.length : Nat)) || decide ((40 : Int) < (g.2.length : Nat))) = true := by simpa using hb
  clear hb
  refine wskip ?_
  try simp only [Exit.then, Exit.inBlock, ↓reduceIte]
  have hvl : g.1.length ≤ 100 ∧ g.2.length ≤ 40 := by
    rw [Bool.or_eq_true, not_or, decide_eq_true_eq, decide_eq_true_eq] at hfw0
    omega
  replace hf := hf.keep [2, 4, 5]
  dsimp only [keep, List.filterMap, look, Nat.beq, Option.map] at hf
  obtain ⟨N6, hN6⟩ : ∃ N6, N6 = w.heap.size := ⟨_, rfl⟩
  have l5 : b5 < N6 := by rw [hN6]; exact B5.lt
  have l2 : b2 < N6 := by rw [hN6]; exact B2.lt
  have hN6s : N6 ≤ w.heap.size := Nat.le_of_eq hN6
  clear hN6
  have hofl := fun (h0 : (ofR g.1 g.2).2 = 0) => ofR_len h0
  have hofk := ofR_ok hV hE
  repeat refine seq ?_
  refine regn 8 hf (by decide +kernel) ?_
  refine st (fldA Tryz.underlying25 rfl T22 (by decide) rfl) ?_
  refine st (ld1 T22 rfl (by assumption) rfl) ?_
  refine st (fldA Tryz.underlying25 rfl T23 (by decide) rfl) ?_
  refine st (ld1 T23 rfl (by assumption) rfl) ?_
  refine st (call2 (A := Tup [Dv gtE (fun b => b < N6) (ofR g.1 g.2).1, E (I (ofR g.1 g.2).2)]) En14 rfl rfl (fun v u w he k1 k2 => by cases k1; cases k2; exact of05_spec g.1 g.2 _ _ w (VA.st _ _ _ _ (Ext.tr e he) h1) (VA.st _ _ _ _ (Ext.tr e he) h2) (by omega) (by omega) (fun b hb => Nat.lt_of_lt_of_le hb (Nat.le_trans hN6s he.size)))) ?_
  refine st (mv rfl) ?_
  refine st (ext_ rfl rfl) ?_
  refine st (ext_ rfl rfl) ?_
  refine en fun a w e' hf => ?_
  replace e := Ext.tr e e'
  replace B2 := B2.ext e'
  replace B5 := B5.ext e'
  clear e'
  obtain ⟨z, hz, hf⟩ := hf.opn 32 rfl
  obtain ⟨N7, hN7⟩ : ∃ N7, N7 = w.heap.size := ⟨_, rfl⟩
  obtain ⟨GZ, hGZ⟩ : ∃ GZ : Nat → Prop, GZ = fun b => b < N6 ∨ N7 ≤ b := ⟨_, rfl⟩
  have hzz : (Dv gtE GZ (ofR g.1 g.2).1).p z w := by
    rw [hGZ, hN7]; exact Dv.toB (Dv.weak hz fun b _ hb => hb)
  obtain ⟨z1, z2, rfl, hz1, hz2⟩ := Dv.gt.1 hzz
  have hzo : (#[z1, z2] : Array Value).all (·.oneCell') = true := one2 (slOne hz1) (slOne hz2)
  clear hz hzz
  have nZ : ∀ bb, (bb < N6 ∨ N7 ≤ bb) → GZ bb := fun bb hb => by rw [hGZ]; exact hb
  replace hf := hf.keep [2, 4, 5, 32, 33]
  dsimp only [keep, List.filterMap, look, Nat.beq, Option.map] at hf
  refine tl_alloc I25 hf (by decide) fun a b6 w e' hb6 hs6 B6 hf => ?_
  have hle6 := Nat.le_trans e.size (Nat.le_of_eq hb6.symm)
  have lt6_B2 := B2.lt
  have lt6_B5 := B5.lt
  replace hz1 := VA.st _ _ _ _ e' hz1
  replace hz2 := VA.st _ _ _ _ e' hz2
  replace e := Ext.tr e e'
  replace B2 := B2.ext e'
  replace B5 := B5.ext e'
  clear e'
  have l6 : N7 ≤ b6 := by omega
  have l67 : b6 < w.heap.size := B6.lt
  replace hf := hf.keep [2, 4, 5, 6, 32, 33]
  dsimp only [keep, List.filterMap, look, Nat.beq, Option.map] at hf
  refine tl_stW T25 hf rfl rfl hzo B6 rfl rfl fun w hg hsz B6 hf => ?_
  replace e := e.gr hg (by omega); replace B2 := B2.gr hg (by omega); replace B5 := B5.gr hg (by omega); replace hz1 := Dv.grN hz1 hg (fun bb hb => nZ bb (by cases hb; omega)); replace hz2 := Dv.grN hz2 hg (fun bb hb => nZ bb (by cases hb; omega)); clear hg
  refine tl_as hf rfl (by decide) fun a hf => ?_
  refine tl_nil ?_
  replace hf := hf.keep [2, 4, 5, 6, 7]
  dsimp only [keep, List.filterMap, look, Nat.beq, Option.map] at hf
  repeat refine seq ?_
  refine regn 2 hf (by decide +kernel) ?_
  refine st (mv rfl) ?_
  refine st (neq rfl rfl) ?_
  refine en fun a w e' hf => ?_
  replace hz1 := VA.st _ _ _ _ e' hz1
  replace hz2 := VA.st _ _ _ _ e' hz2
  replace e := Ext.tr e e'
  replace B2 := B2.ext e'
  replace B5 := B5.ext e'
  replace B6 := B6.ext e'
  clear e'
  refine tl_nil ?_
  repeat refine seq ?_
  refine ifc hf rfl (fun hb => ?_) (fun hb => ?_)
  · have hne : (ofR g.1 g.2).2 ≠ 0 := by simpa using hb
    have hfw : frW g most = (g, false) := by rw [frW, if_neg hfw0, if_pos hne]
    have hc2 : (#[u1, u2] : Array Value).all (·.oneCell') = true := one2 (slOne h1) (slOne h2)
    replace hf := hf.keep [2, 4, 5]
    dsimp only [keep, List.filterMap, look, Nat.beq, Option.map] at hf
    repeat refine seq ?_
    refine regJ 3 [0, 1] (Chg fun c => c = b5) (RelJ.one _) (fun w => ∃ cs, Blk w b5 cs 25 ∧ (E (.agg #[u1, u2])).p (.agg cs) w) (fun w w1 k h => h.imp fun cs h => ⟨h.1.ext k, h.2⟩) Mix.mix hf (by decide +kernel) (by decide +kernel) ?_
    refine ja ((ldW T25 rfl B2 rfl).eq ((rfl : _ = Value.agg #[u1, u2]))) ?_
    refine jf (fun w1 h1 => asg rfl) ?_
    refine jx (xstB T25 rfl B5 rfl rfl (fun v w hv => ⟨_, hv, rfl, hc2⟩) (fun v w w' hc hv => hv)) ?_
    refine je ?_
    refine fun a w hc HF hf => ?_
    try dsimp only [push] at hf
    obtain ⟨cs, B5, hcs⟩ := HF
    cases hcs
    replace e := e.ch hc (fun b hb => by rw [hb]; omega)
    clear hc
    refine tl_nil ?_
    refine wret (ret2t rfl T25 hf rfl rfl B5 rfl ?_)
    rintro _ rfl
    exact ⟨_, rfl, e, by rw [hfw]; exact Tup.two ⟨fun h => (by rw [hfw] at h; cases h), fun _ => rfl⟩ (VA.st _ _ _ _ e (Dv.weak h fun b _ hb => hb.elim))⟩
  have hof0 : (ofR g.1 g.2).2 = 0 := by simpa using hb
  clear hb
  have hfw : frW g most = ((ofR g.1 g.2).1, true) := by rw [frW, if_neg hfw0, if_neg (by simpa using hof0)]
  have hol := hofl hof0
  obtain ⟨gg, hgg⟩ : ∃ gg, gg = (ofR g.1 g.2).1 := ⟨_, rfl⟩
  rw [← hgg] at hz1 hz2 hofk hol hfw
  clear hgg hof0 hofl hfw0
  refine wskip ?_
  try simp only [Exit.then, Exit.inBlock, ↓reduceIte]
  replace hf := hf.keep [4, 5, 6]
  dsimp only [keep, List.filterMap, look, Nat.beq, Option.map] at hf
  obtain ⟨N8, hN8⟩ : ∃ N8, N8 = w.heap.size := ⟨_, rfl⟩
  have h78 : N7 ≤ N8 := by have := B6.lt; omega
  have h68 : b6 < N8 := by rw [hN8]; exact B6.lt
  have h58 : b5 < N8 := by rw [hN8]; exact B5.lt
  have hW8 : W.heap.size ≤ N8 := by rw [hN8]; exact e.size
  have hN8s : N8 ≤ w.heap.size := Nat.le_of_eq hN8
  clear hN8
  repeat refine seq ?_
  refine regn0 ?_
  refine tl_as hf rfl (by decide) fun a hf => ?_
  refine tl_nil ?_
  repeat refine seq ?_
  refine regn0 ?_
  refine tl_as hf rfl (by decide) fun a hf => ?_
  refine tl_nil ?_
  repeat refine seq ?_
  refine regn0 ?_
  refine tl_as hf rfl (by decide) fun a hf => ?_
  refine tl_nil ?_
  replace hf := hf.keep [4, 5, 6, 8, 9, 10]
  dsimp only [keep, List.filterMap, look, Nat.beq, Option.map] at hf
  repeat refine seq ?_
  refine blk (loopN (fun r0 a w => ∃ (k : Nat) (u : Value), r0 = gg.1.length - k ∧ k ≤ gg.1.length ∧ Fr 75 a w [(4, E (.pointer none)), (5, E (.pointer (some ⟨b5, 0, none⟩))), (6, E (.pointer (some ⟨b6, 0, none⟩))), (8, E u), (9, E (.slice none 0 0)), (10, E (I k))] ∧ Ext W w ∧ Blk w b5 #[.slice none 0 0, .slice none 0 0] 25 ∧ Blk w b6 #[z1, z2] 25 ∧ (Dv (slE vtE) GZ gg.1).p z1 w ∧ (Dv (slE etE) GZ gg.2).p z2 w ∧ OwR vtE 54 N8 Go.Mono.G0 w (gg.1.take k) u) gg.1.length ⟨0, .slice none 0 0, rfl, by omega, hf, e, ⟨B5, B6, hz1, hz2, OwR.nil vtE _ hN8s fun b hb => hb.elim⟩⟩ ?_)
  clear hf e; try clear B5; try clear B6; try clear hz1; try clear hz2; try clear Ho
  rintro r0 a w ⟨k, u, rfl, hk, hf, e, B5, B6, hz1, hz2, Ho⟩
  repeat refine seq ?_
  refine regn 5 hf (by decide +kernel) ?_
  refine st (mv rfl) ?_
  refine st (fldA Tryz.underlying25 rfl T22 (by decide) rfl) ?_
  refine st (ld1 T22 rfl B6 rfl) ?_
  refine st (lenD Tryz.underlying22 (isE rfl hz1)) ?_
  refine st (lss rfl rfl) ?_
  refine en fun a w e' hf => ?_
  replace hz1 := VA.st _ _ _ _ e' hz1
  replace hz2 := VA.st _ _ _ _ e' hz2
  replace e := Ext.tr e e'
  replace B5 := B5.ext e'
  replace B6 := B6.ext e'
  replace Ho := Ho.ext e'
  clear e'
  refine tl_nil ?_
  repeat refine seq ?_
  refine ifc hf rfl (fun hc => wskip ?_) (fun hc => wexit ?_)
  rotate_left
  rotate_left
  · have hlt : k < gg.1.length := by have := of_decide_eq_true hc; (try dsimp only at this); omega
    clear hc
    replace hf := hf.keep [4, 5, 6, 8, 9, 10]
    dsimp only [keep, List.filterMap, look, Nat.beq, Option.map] at hf
    repeat refine seq ?_
    refine blk ?_
    have hg := List.getElem?_eq_getElem hlt
    generalize gg.1[k] = y at hg
    have hlk := List.length_take_le k gg.1
    have n1 := Ho.neLt (b := b6) (by omega)
    have n2 := Ho.neLt (b := b5) (by omega)
    haveI iu : InR GZ u.ownBlock := ⟨fun b hb => nZ b (.inr (Nat.le_trans h78 (Ho.lt hb).1))⟩
    repeat refine seq ?_
    refine regn 7 hf (by decide +kernel) ?_
    refine st (mv rfl) ?_
    refine st (fldA Tryz.underlying25 rfl T22 (by decide) rfl) ?_
    refine st (ld1 T22 rfl B6 rfl) ?_
    refine st (mv rfl) ?_
    refine st (idxD Tryz.underlying22 S48 (isE rfl hz1) rfl (by omega) (hg)) ?_
    refine st (ldVt T48 (isR rfl)) ?_
    refine st (bsl1 Tryz.underlying52 I54 rfl (by decide) rfl Ho.avs (isVt rfl)) ?_
    refine en fun a w e' hf => ?_
    replace hz1 := VA.st _ _ _ _ e' hz1
    replace hz2 := VA.st _ _ _ _ e' hz2
    replace Ho := Ho.ext e'
    replace e := Ext.tr e e'
    replace B5 := B5.ext e'
    replace B6 := B6.ext e'
    clear e'
    haveI hin : ∀ G0, InR (GB W G0) _ := OwR.inGB (W := W) Ho (by omega)
    refine tl_app Tryz.underlying52 I54 rfl rfl hf (by decide) rfl Ho (isR rfl) (by simp only [List.length_singleton]; omega) (by simp only [List.length_singleton, maxLen]; omega) fun a v w hg hat Hn hf => ?_
    replace e := e.gro hg (Ho.row (W := W) (by omega))
    have hrow := Ho.row (W := W) (by omega)
    replace hz1 := Dv.grN hz1 hg (fun bb hb => nZ bb (.inr (Nat.le_trans h78 (Ho.lt hb).1)))
    replace hz2 := Dv.grN hz2 hg (fun bb hb => nZ bb (.inr (Nat.le_trans h78 (Ho.lt hb).1)))
    replace Ho := Hn
    clear hrow
    replace B5 := B5.gro hg (by assumption)
    replace B6 := B6.gro hg (by assumption)
    replace Ho := Hn; clear Hn hg hat hin
    refine tl_as hf rfl (by decide) fun a hf => ?_
    refine tl_nil ?_
    try simp only [Exit.then, Exit.inBlock, ↓reduceIte]
    repeat refine seq ?_
    refine regn 2 hf (by decide +kernel) ?_
    refine st (mv rfl) ?_
    refine st ((add rfl rfl (by omega)).eq (congrArg (Value.int .i64) (show (k : Int) + 1 = ((k + 1 : Nat) : Int) from rfl))) ?_
    refine en fun a w e' hf => ?_
    replace hz1 := VA.st _ _ _ _ e' hz1
    replace hz2 := VA.st _ _ _ _ e' hz2
    replace Ho := Ho.ext e'
    replace e := Ext.tr e e'
    replace B5 := B5.ext e'
    replace B6 := B6.ext e'
    clear e'
    refine tl_as hf rfl (by decide) fun a hf => ?_
    refine tl_nil ?_
    replace hf := hf.keep [4, 5, 6, 8, 9, 10]
    dsimp only [keep, List.filterMap, look, Nat.beq, Option.map] at hf
    refine ⟨_, ?_, k + 1, _, rfl, by omega, hf, e, ?_⟩
    · omega
    rw [take_succ_get hg]
    exact ⟨B5, B6, hz1, hz2, Ho⟩
  · obtain rfl : k = gg.1.length := by have := of_decide_eq_false hc; (try dsimp only at this); omega
    clear hc
    simp only [Exit.then, Exit.inBlock, ↓reduceIte]
    rw [List.take_length] at Ho
    obtain ⟨av, nv, cv, rfl⟩ := Dv.slF Ho.sl
    obtain ⟨NV, hNV⟩ : ∃ NV : Nat → Prop, NV = fun b => (Value.slice av nv cv).ownBlock ≠ some b := ⟨_, rfl⟩
    have HD : (Dv (slE vtE) NV gg.1).p (.slice av nv cv) w := Ho.slN fun b hb => by rw [hNV]; exact fun h => h hb
    obtain ⟨N5, hN5⟩ : ∃ N5, N5 = w.heap.size := ⟨_, rfl⟩
    have h89 : N8 ≤ N5 := by rw [hN5]; exact Ho.base
    have nV : ∀ bb, (bb < N8 ∨ N5 ≤ bb) → NV bb := fun bb hb => by rw [hNV]; intro h; have h3 := Ho.lt h; omega
    have hN5s : N5 ≤ w.heap.size := Nat.le_of_eq hN5
    clear hN5 hNV Ho
    replace hf := hf.keep [4, 5, 6, 8, 9]
    dsimp only [keep, List.filterMap, look, Nat.beq, Option.map] at hf
    repeat refine seq ?_
    refine regn0 ?_
    refine tl_as hf rfl (by decide) fun a hf => ?_
    refine tl_nil ?_
    replace hf := hf.keep [4, 5, 6, 8, 9, 11]
    dsimp only [keep, List.filterMap, look, Nat.beq, Option.map] at hf
    repeat refine seq ?_
    refine blk (loopN (fun r0 a w => ∃ (k : Nat) (u : Value), r0 = gg.2.length - k ∧ k ≤ gg.2.length ∧ Fr 75 a w [(4, E (.pointer none)), (5, E (.pointer (some ⟨b5, 0, none⟩))), (6, E (.pointer (some ⟨b6, 0, none⟩))), (8, E (.slice av nv cv)), (9, E u), (11, E (I k))] ∧ Ext W w ∧ Blk w b5 #[.slice none 0 0, .slice none 0 0] 25 ∧ Blk w b6 #[z1, z2] 25 ∧ (Dv (slE vtE) GZ gg.1).p z1 w ∧ (Dv (slE etE) GZ gg.2).p z2 w ∧ (Dv (slE vtE) NV gg.1).p (.slice av nv cv) w ∧ OwR etE 56 N5 Go.Mono.G0 w (gg.2.take k) u ∧ N5 ≤ w.heap.size) gg.2.length ⟨0, .slice none 0 0, rfl, by omega, hf, e, ⟨B5, B6, hz1, hz2, HD, OwR.nil etE _ hN5s fun b hb => hb.elim, hN5s⟩⟩ ?_)
    clear hf e; try clear B5; try clear B6; try clear hz1; try clear hz2; try clear HD; try clear Ho; try clear hN5s
    rintro r0 a w ⟨k, u, rfl, hk, hf, e, B5, B6, hz1, hz2, HD, Ho, hN5s⟩
    repeat refine seq ?_
    refine regn 5 hf (by decide +kernel) ?_
    refine st (mv rfl) ?_
    refine st (fldA Tryz.underlying25 rfl T23 (by decide) rfl) ?_
    refine st (ld1 T23 rfl B6 rfl) ?_
    refine st (lenD Tryz.underlying23 (isE rfl hz2)) ?_
    refine st (lss rfl rfl) ?_
    refine en fun a w e' hf => ?_
    replace hz1 := VA.st _ _ _ _ e' hz1
    replace hz2 := VA.st _ _ _ _ e' hz2
    replace HD := VA.st _ _ _ _ e' HD
    replace hN5s := Nat.le_trans hN5s e'.size
    replace e := Ext.tr e e'
    replace B5 := B5.ext e'
    replace B6 := B6.ext e'
    replace Ho := Ho.ext e'
    clear e'
    refine tl_nil ?_
    repeat refine seq ?_
    refine ifc hf rfl (fun hc => wskip ?_) (fun hc => wexit ?_)
    rotate_left
    rotate_left
    · have hlt : k < gg.2.length := by have := of_decide_eq_true hc; (try dsimp only at this); omega
      clear hc
      replace hf := hf.keep [4, 5, 6, 8, 9, 11]
      dsimp only [keep, List.filterMap, look, Nat.beq, Option.map] at hf
      repeat refine seq ?_
      refine blk ?_
      have hg := List.getElem?_eq_getElem hlt
      generalize gg.2[k] = y at hg
      have hlk := List.length_take_le k gg.2
      have h79 : N7 ≤ N5 := Nat.le_trans h78 h89
      have n1 := Ho.neLt (b := b6) (by omega)
      have n2 := Ho.neLt (b := b5) (by omega)
      haveI iu : InR GZ u.ownBlock := ⟨fun b hb => nZ b (.inr (Nat.le_trans h79 (Ho.lt hb).1))⟩
      repeat refine seq ?_
      refine regn 7 hf (by decide +kernel) ?_
      refine st (mv rfl) ?_
      refine st (fldA Tryz.underlying25 rfl T23 (by decide) rfl) ?_
      refine st (ld1 T23 rfl B6 rfl) ?_
      refine st (mv rfl) ?_
      refine st (idxD Tryz.underlying23 S57 (isE rfl hz2) rfl (by omega) (hg)) ?_
      refine st (ldEt T57 (isR rfl)) ?_
      refine st (bsl1 Tryz.underlying53 I56 rfl (by decide) rfl Ho.avs (isEt rfl)) ?_
      refine en fun a w e' hf => ?_
      replace hz1 := VA.st _ _ _ _ e' hz1
      replace hz2 := VA.st _ _ _ _ e' hz2
      replace HD := VA.st _ _ _ _ e' HD
      replace hN5s := Nat.le_trans hN5s e'.size
      replace Ho := Ho.ext e'
      replace e := Ext.tr e e'
      replace B5 := B5.ext e'
      replace B6 := B6.ext e'
      clear e'
      haveI hin : ∀ G0, InR (GB W G0) _ := OwR.inGB (W := W) Ho (by omega)
      refine tl_app Tryz.underlying53 I56 rfl rfl hf (by decide) rfl Ho (isR rfl) (by simp only [List.length_singleton]; omega) (by simp only [List.length_singleton, maxLen]; omega) fun a v w hg hat Hn hf => ?_
      replace e := e.gro hg (Ho.row (W := W) (by omega))
      have hrow := Ho.row (W := W) (by omega)
      replace hz1 := Dv.grN hz1 hg (fun bb hb => nZ bb (.inr (Nat.le_trans h79 (Ho.lt hb).1)))
      replace hz2 := Dv.grN hz2 hg (fun bb hb => nZ bb (.inr (Nat.le_trans h79 (Ho.lt hb).1)))
      replace HD := Dv.grN HD hg (fun bb hb => nV bb (.inr (Ho.lt hb).1))
      replace hN5s := Nat.le_trans hN5s hg.size
      replace Ho := Hn
      clear hrow
      replace B5 := B5.gro hg (by assumption)
      replace B6 := B6.gro hg (by assumption)
      replace Ho := Hn; clear Hn hg hat hin
      refine tl_as hf rfl (by decide) fun a hf => ?_
      refine tl_nil ?_
      try simp only [Exit.then, Exit.inBlock, ↓reduceIte]
      repeat refine seq ?_
      refine regn 2 hf (by decide +kernel) ?_
      refine st (mv rfl) ?_
      refine st ((add rfl rfl (by omega)).eq (congrArg (Value.int .i64) (show (k : Int) + 1 = ((k + 1 : Nat) : Int) from rfl))) ?_
      refine en fun a w e' hf => ?_
      replace hz1 := VA.st _ _ _ _ e' hz1
      replace hz2 := VA.st _ _ _ _ e' hz2
      replace HD := VA.st _ _ _ _ e' HD
      replace hN5s := Nat.le_trans hN5s e'.size
      replace Ho := Ho.ext e'
      replace e := Ext.tr e e'
      replace B5 := B5.ext e'
      replace B6 := B6.ext e'
      clear e'
      refine tl_as hf rfl (by decide) fun a hf => ?_
      refine tl_nil ?_
      replace hf := hf.keep [4, 5, 6, 8, 9, 11]
      dsimp only [keep, List.filterMap, look, Nat.beq, Option.map] at hf
      refine ⟨_, ?_, k + 1, _, rfl, by omega, hf, e, ?_⟩
      · omega
      rw [take_succ_get hg]
      exact ⟨B5, B6, hz1, hz2, HD, Ho, hN5s⟩
    · obtain rfl : k = gg.2.length := by have := of_decide_eq_false hc; (try dsimp only at this); omega
      clear hc
      simp only [Exit.then, Exit.inBlock, ↓reduceIte]
      rw [List.take_length] at Ho
      have h65 : b6 < N5 := by omega
      have h55 : b5 < N5 := by omega
      have hlg : gg.1.length ≤ 1000 ∧ gg.2.length ≤ 1000 := by omega
      replace hf := hf.keep [4, 5, 6, 8, 9]
      dsimp only [keep, List.filterMap, look, Nat.beq, Option.map] at hf
      repeat refine seq ?_
      refine regn 6 hf (by decide +kernel) ?_
      refine st (mv rfl) ?_
      refine st (mv rfl) ?_
      refine st (call2 (A := Tup [Dv (ptE (grE 2000)) (fun b => b < N5) (some gg), E (I 0)]) En15 rfl rfl (fun v u w he k1 k2 => by cases k1; cases k2; exact build_post gg hofk _ _ w (VA.st _ _ _ _ he (Dv.weak HD fun b _ hb => hb.elim)) (VA.st _ _ _ _ he Ho.sl) hlg.1 hlg.2 (fun b hb => Nat.lt_of_lt_of_le hb (Nat.le_trans hN5s he.size)))) ?_
      refine st (mv rfl) ?_
      refine st (ext_ rfl rfl) ?_
      refine st (ext_ rfl rfl) ?_
      refine en fun a w e' hf => ?_
      replace hz1 := VA.st _ _ _ _ e' hz1
      replace hz2 := VA.st _ _ _ _ e' hz2
      replace e := Ext.tr e e'
      replace B5 := B5.ext e'
      replace B6 := B6.ext e'
      clear e'
      refine tl_as hf rfl (by decide) fun a hf => ?_
      refine tl_as hf rfl (by decide) fun a hf => ?_
      refine tl_nil ?_
      replace hf := hf.keep [4, 5, 6, 12]
      dsimp only [keep, List.filterMap, look, Nat.beq, Option.map] at hf
      haveI ik : InR (fun b => b < N5) (some b5) := ⟨fun b hb => by cases hb; exact h55⟩
      have hzo : (#[z1, z2] : Array Value).all (·.oneCell') = true := one2 (slOne hz1) (slOne hz2)
      repeat refine seq ?_
      refine regJ 4 [2, 0, 1] (Chg fun c => c = b5) (RelJ.one _) (fun w => ∃ cs, Blk w b5 cs 25 ∧ (E (.agg #[z1, z2])).p (.agg cs) w) (fun w w1 k h => h.imp fun cs h => ⟨h.1.ext k, h.2⟩) Mix.mix hf (by decide +kernel) (by decide +kernel) ?_
      refine jk (mv rfl) ?_
      refine ja ((ldW T25 rfl B6 rfl).eq ((rfl : _ = Value.agg #[z1, z2]))) ?_
      refine jf (fun w1 h1 => asg rfl) ?_
      refine jx (xstB T25 rfl B5 rfl rfl (fun v w hv => ⟨_, hv, rfl, hzo⟩) (fun v w w' hc hv => hv)) ?_
      refine je ?_
      refine fun a w hc HF hf => ?_
      try dsimp only [push] at hf
      obtain ⟨cs, B5, hcs⟩ := HF
      cases hcs
      replace e := e.ch hc (fun b hb => by rw [hb]; omega)
      replace hz1 := Dv.ch hz1 hc (fun b hb => nZ b (.inl (by rw [hb]; exact l5)))
      replace hz2 := Dv.ch hz2 hc (fun b hb => nZ b (.inl (by rw [hb]; exact l5)))
      clear hc
      refine tl_nil ?_
      refine wret (ret2t rfl T25 hf rfl rfl B5 rfl ?_)
      rintro x hx
      exact ⟨_, rfl, e, Tup.two ⟨fun _ => by rw [hfw]; exact Dv.weak hx fun b _ hb => hb.elim, fun h => by rw [hfw] at h; cases h⟩ (by rw [hfw]; exact Dv.gt.2 ⟨_, _, rfl, Dv.weak hz1 fun b _ hb => hb.elim, Dv.weak hz2 fun b _ hb => hb.elim⟩)⟩
end Go.Mono

namespace Go.Mono
open Go Go.Proofs Go.RowKit Go.Gr
theorem insV_len (l : List VT) (x : VT) : (insV l x).length = l.length + 1 := by
  have := (insW_perm (fun y => lt1 x.1 y.1) x l).length_eq
  rw [List.length_cons] at this
  exact this
theorem doR_dV (g : GT) (x : VT) : (doR g (dV x)).1.1.length ≤ g.1.length + 1 := by
  unfold doR
  split
  · exact Nat.le_succ _
  · rw [if_pos (by rfl)]
    dsimp only
    rw [insV_len]
    exact Nat.le_refl _
theorem doR_dE (g : GT) (x : ET) : (doR g (dE x)).1.1 = g.1 := by
  unfold doR
  split
  · rfl
  · rw [if_neg (show ¬((dE x).1 == 0) = true from (by decide : ¬((2 : Int) == 0) = true)), if_pos (by rfl)]
theorem ofV_len : ∀ (l : List VT) (s : GT × Int), ((l.map dV).foldl ofS s).1.1.length ≤ s.1.1.length + l.length := by
  intro l
  induction l with
  | nil => intro s; exact Nat.le_refl _
  | cons x l ih =>
    intro s
    rw [List.map_cons, List.foldl_cons]
    refine Nat.le_trans (ih _) ?_
    have h : (ofS s (dV x)).1.1.length ≤ s.1.1.length + 1 := by
      unfold ofS
      split
      · exact Nat.le_succ _
      · split
        · exact Nat.zero_le _
        · exact doR_dV s.1 x
    rw [List.length_cons]; omega
theorem ofE_len : ∀ (l : List ET) (s : GT × Int), ((l.map dE).foldl ofS s).1.1.length ≤ s.1.1.length := by
  intro l
  induction l with
  | nil => intro s; exact Nat.le_refl _
  | cons x l ih =>
    intro s
    rw [List.map_cons, List.foldl_cons]
    refine Nat.le_trans (ih _) ?_
    unfold ofS
    split
    · exact Nat.le_refl _
    · split
      · exact Nat.zero_le _
      · dsimp only; rw [doR_dE]; exact Nat.le_refl _
theorem ofR_vlen (V : List VT) (E' : List ET) : (ofR V E').1.1.length ≤ V.length := by
  rw [ofR, List.foldl_append]
  refine Nat.le_trans (ofE_len _ _) (Nat.le_trans (ofV_len V _) ?_)
  simp
/-- what is known of a law's graph -/
structure TwOk (gg : GT) (most : Int) : Prop where
  ok : Gr.Ok gg
  l1 : gg.1.length ≤ most
  l2 : gg.2.length ≤ 1000
theorem twOk {g : GT} {most : Int} (h : (frW g most).2 = true) (hV : ∀ x ∈ g.1, 0 ≤ x.2.1 ∧ x.2.1 < 256) (hE : ∀ x ∈ g.2, 0 ≤ x.2.1 ∧ x.2.1 < 256) (hm : most ≤ 100) : TwOk (frW g most).1 most := by
  by_cases h1 : (decide (most < (g.1.length : Nat)) || decide ((40 : Int) < (g.2.length : Nat))) = true
  · rw [frW, if_pos h1] at h; cases h
  · by_cases h2 : (ofR g.1 g.2).2 ≠ 0
    · rw [frW, if_neg h1, if_pos h2] at h; cases h
    · have e : frW g most = ((ofR g.1 g.2).1, true) := by rw [frW, if_neg h1, if_neg h2]
      have h3 := ofR_vlen g.1 g.2
      have h4 := ofR_len (V := g.1) (E := g.2) (Decidable.not_not.1 h2)
      rw [Bool.or_eq_true, not_or, decide_eq_true_eq, decide_eq_true_eq] at h1
      rw [e]
      exact ⟨ofR_ok hV hE, by dsimp only; omega, by dsimp only; omega⟩
end Go.Mono

namespace Go.Mono
open Go Go.Proofs Go.RowKit Go.Gr

theorem putP_new {α β : Type} [DecidableEq α] {l : List (α × β)} {x : α} {c : β} (hx : ∀ c, (x, c) ∉ l) : (putP l x c).Perm (l ++ [(x, c)]) := by
  have hf : l.filter (fun p => !decide (p.1 = x)) = l := by
    rw [List.filter_eq_self]
    intro p hp
    have : p.1 ≠ x := fun e => hx p.2 (by rw [← e]; exact hp)
    simp [this]
  rw [putP, hf]
  exact List.perm_append_comm (l₁ := [(x, c)])
theorem RgR.okn {P : Program} {α β : Type} [DecidableEq α] {V : KV P α β} {w : World} {b r n : Nat} {old rest : List (α × β)} (h : RgR V w b r n old rest) : (∀ p ∈ old ++ rest, V.ok p.1 ∧ V.okv p.2) ∧ (old ++ rest).Pairwise fun p q => p.1 ≠ q.1 := by
  obtain ⟨es, left, cnt, h1, h2, h3, h4, h5⟩ := h
  exact ⟨h3, h4⟩
theorem not_before {α β : Type} {old rest : List (α × β)} (h : (old ++ rest).Pairwise fun p q => p.1 ≠ q.1) {x : α} {c : β} (hm : (x, c) ∈ rest) : ∀ c', (x, c') ∉ old := fun c' hc' => (List.pairwise_append.1 h).2.2 _ hc' _ hm rfl
theorem len_rest {α β : Type} {old rest l : List (α × β)} (hp : (old ++ rest).Perm l) {x : α × β} (hm : x ∈ rest) : old.length + 1 ≤ l.length := by
  have h1 := hp.length_eq; have h2 : 0 < rest.length := List.length_pos_of_mem hm
  rw [List.length_append] at h1; omega
theorem filter_snoc {α : Type} (p : α → Bool) (l : List α) (x : α) : (l ++ [x]).filter p = l.filter p ++ if p x = true then [x] else [] := by
  rw [List.filter_append]
  cases h : p x <;> simp [h]
theorem GrR.gr {w w' : World} {bg bv be n b : Nat} {g : GT} (h : GrR w bg bv be n g) (hg : w.grownBy w' (some b)) (h1 : bg ≠ b) (h2 : bv ≠ b) (h3 : be ≠ b) : GrR w' bg bv be n g :=
  ⟨h.blk.gr hg h1, h.vs.gr hg (fun h => h2 (by cases h; rfl)), h.es.gr hg (fun h => h3 (by cases h; rfl)), h.ne⟩
theorem rest_less {α β : Type} [DecidableEq α] {rest : List (α × β)} {x : α} {c : β} (hm : (x, c) ∈ rest) : (rest.filter fun p => !decide (p.1 = x)).length < rest.length := by
  rw [← List.countP_eq_length_filter]
  refine Nat.lt_of_le_of_ne List.countP_le_length fun h => ?_
  have := List.countP_eq_length.1 h _ hm
  simp at this
theorem induced_spec {G : Nat → Prop} {N : Nat} (g : GT) (C : BS) (v : Value) (W : World) (h : (Dv (ptE (grE N)) G (some g)).p v W) (hl1 : g.1.length ≤ 100000) (hl2 : g.2.length ≤ 100000) (hN : N ≤ 1000000) :
    Calls Tryz.prog 9 #[v, setV C] W fun en w' => ∃ bg bv be, en = .returned (.pointer (some ⟨bg, 0, none⟩)) ∧ Ext W w' ∧ W.heap.size ≤ bg ∧ W.heap.size ≤ bv ∧ W.heap.size ≤ be ∧
      GrR w' bg bv be (g.1.length + g.2.length) (g.1.filter fun x => has C x.1, g.2.filter fun x => has C x.1.1 && has C x.1.2) := by
  have hv : (Dv (ptE (grE N)) (GB W Go.Mono.G0) (some g)).p v W := Dv.toB (Dv.weak h fun b _ hb => hb.elim)
  clear h
  refine enter (args := [v, setV C]) (As := [E v, E (setV C)]) Tryz.func9 rfl Tryz.ntmps9 (Nat.le_of_ble_eq_true rfl) ?_ (fun a hf => ?_) (Nat.le_of_ble_eq_true rfl)
  rotate_left
  dsimp only [params, Nat.reduceAdd] at hf
  rotate_right
  · exact arg2 rfl rfl
  have e := Ext.rfl' W
  repeat refine seq ?_
  refine regn0 ?_
  refine tl_box hf rfl (by decide) fun a b3 w v3 hv3 e' hb3 hs3 B3 hf => ?_
  have hle3 := Nat.le_trans e.size (Nat.le_of_eq hb3.symm)
  replace e := Ext.tr e e'
  clear e'
  refine tl_as hf rfl (by decide) fun a hf => ?_
  refine tl_nil ?_
  cases hv3
  replace B3 : Blk w b3 (setC C) 39 := B3
  replace hf := hf.keep [0, 3]
  dsimp only [keep, List.filterMap, look, Nat.beq, Option.map] at hf
  repeat refine seq ?_
  refine regn 2 hf (by decide +kernel) ?_
  refine st (mv rfl) ?_
  refine st (eqlP Tryz.underlying27 (isE rfl (VA.st _ _ _ _ e hv))) ?_
  refine en fun a w e' hf => ?_
  replace e := Ext.tr e e'
  replace B3 := B3.ext e'
  clear e'
  refine tl_nil ?_
  repeat refine seq ?_
  refine ifc hf rfl (fun h => by cases h) (fun _ => ?_)
  refine wskip ?_
  try simp only [Exit.then, Exit.inBlock, ↓reduceIte]
  replace hf := hf.keep [0, 3]
  dsimp only [keep, List.filterMap, look, Nat.beq, Option.map] at hf
  repeat refine seq ?_
  refine regn0 ?_
  refine tl_callE (S := fun b => False) (F := fun z w' => ∃ bg bv be, z = .pointer (some ⟨bg, 0, none⟩) ∧ W.heap.size ≤ bg ∧ W.heap.size ≤ bv ∧ W.heap.size ≤ be ∧ GrR w' bg bv be 0 ([], [])) hf (by decide) En32 (by simp only [List.map_toArray, List.map_nil]; exact (gnewG_spec _).mono fun en w' ⟨bg, bv, be, k1, k2, k3, k4, k5, k6⟩ => ⟨_, k1, k2.chg _, bg, bv, be, rfl, Nat.le_trans e.size k3, Nat.le_trans e.size k4, Nat.le_trans e.size k5, k6⟩) fun a z w hc hF hf => ?_
  obtain ⟨bg, bv, be, rfl, hbg, hbv, hbe, GK⟩ := hF
  replace e := e.ch hc (fun b hb => hb.elim)
  replace B3 := B3.ch hc (fun hb => hb.elim)
  clear hc
  have n3 : b3 ≠ bg ∧ b3 ≠ bv ∧ b3 ≠ be := ⟨B3.ne GK.blk (by decide), (GK.vs.neB B3).symm, (GK.es.neB B3).symm⟩
  have nvg := GK.n1
  have nve := GK.ne
  obtain ⟨N0, hN0⟩ : ∃ N0, N0 = w.heap.size := ⟨_, rfl⟩
  have hNs : N0 ≤ w.heap.size := Nat.le_of_eq hN0
  have hlt : b3 < N0 ∧ bg < N0 ∧ bv < N0 ∧ be < N0 := by have h1 := B3.lt; have h2 := GK.blk.lt; have h3 := GK.vs.lt; have h4 := GK.es.lt; omega
  clear hN0
  refine tl_as hf rfl (by decide) fun a hf => ?_
  refine tl_nil ?_
  replace hf := hf.keep [0, 3, 5]
  dsimp only [keep, List.filterMap, look, Nat.beq, Option.map] at hf
  repeat refine seq ?_
  refine regn 4 hf (by decide +kernel) ?_
  refine st (mv rfl) ?_
  refine st (nilC (isE rfl (VA.st _ _ _ _ e hv))) ?_
  refine st (fldD Tryz.underlying87 rfl T84 (by decide) (Fld.fst Fld.refl) (isR rfl)) ?_
  refine st (ldD T84 (isR rfl)) ?_
  refine en fun a w e' hf => ?_
  replace GK := GK.ext e'
  replace hNs := Nat.le_trans hNs e'.size
  replace e := Ext.tr e e'
  replace B3 := B3.ext e'
  clear e'
  obtain ⟨_, ⟨cs, ⟨bm, nm, rfl, hGm, hNm, HM⟩, rfl⟩, hf⟩ := hf.fix 16 rfl
  have hbm : bm < W.heap.size := Nat.lt_of_not_le fun h => hGm (.inr h)
  have hbm3 : bm < b3 := by omega
  replace hf := hf.keep [0, 3, 5, 16]
  dsimp only [keep, List.filterMap, look, Nat.beq, Option.map] at hf
  refine tl_range (V := vKV) Tryz.underlying84 hf (by decide) rfl HM fun a r w e' hr hsr HR hf => ?_
  have hrN : N0 ≤ r := by omega
  have hrW : W.heap.size ≤ r := Nat.le_trans e.size (Nat.le_of_eq hr.symm)
  have hNr : r + 1 ≤ w.heap.size := by omega
  replace e := Ext.tr e e'
  replace B3 := B3.ext e'
  replace GK := GK.ext e'
  clear HM e' hr hsr
  refine tl_nil ?_
  replace hf := hf.keep [0, 3, 5, 17]
  dsimp only [keep, List.filterMap, look, Nat.beq, Option.map] at hf
  repeat refine seq ?_
  refine cut (J := fun a w => Fr 59 a w [(0, E v), (3, E (.pointer (some ⟨b3, 0, none⟩))), (5, E (.pointer (some ⟨bg, 0, none⟩)))] ∧ Ext W w ∧ Blk w b3 (setC C) 39 ∧ GrR w bg bv be g.1.length (g.1.filter (fun x => has C x.1), []) ∧ N0 ≤ w.heap.size) ?_ (fun a w hJ => ?_)
  · refine blk (loopN (fun r0 a w => ∃ (old rest : List VT), r0 = rest.length ∧ Fr 59 a w [(0, E v), (3, E (.pointer (some ⟨b3, 0, none⟩))), (5, E (.pointer (some ⟨bg, 0, none⟩))), (17, E (.pointer (some ⟨r, 0, none⟩)))] ∧ Ext W w ∧ Blk w b3 (setC C) 39 ∧ RgR vKV w bm r nm old rest ∧ GrR w bg bv be old.length (old.filter (fun x => has C x.1), []) ∧ r + 1 ≤ w.heap.size ∧ (old ++ rest).Perm g.1) g.1.length ⟨[], g.1, rfl, hf, e, B3, HR, GK, hNr, List.Perm.refl _⟩ ?_)
    clear hf e B3 HR GK hNr
    rintro r0 a w ⟨old, rest, rfl, hf, e, B3, HR, GK, hNr, hp⟩
    obtain ⟨hok, hpw⟩ := HR.okn
    repeat refine seq ?_
    refine regn0 ?_
    refine tl_next hf (by decide) rfl HR (fun a hrest hf => ?_) (fun a w' x c hm hg HR hen hf => ?_)
    · refine tl_exE hf (by decide) rfl rfl fun a hf => ?_
      refine tl_nil ?_
      repeat refine seq ?_
      refine ifc hf rfl (fun h => by cases h) (fun _ => ?_)
      refine wexit ?_
      simp only [Exit.then, Exit.inBlock, ↓reduceIte]
      subst hrest
      rw [List.append_nil] at hp
      replace GK := (GK.perm (g' := (g.1.filter fun x => has C x.1, [])) (hp.filter _) (List.Perm.refl _)).mono (Nat.le_of_eq hp.length_eq)
      have hNs : N0 ≤ w.heap.size := by omega
      replace hf := hf.keep [0, 3, 5]
      dsimp only [keep, List.filterMap, look, Nat.beq, Option.map] at hf
      exact ⟨trivial, hf, e, B3, GK, hNs⟩
    · have hxc := hok (x, c) (List.mem_append_right _ hm)
      have hno := not_before hpw hm
      have hlen := len_rest hp hm
      have hmr := rest_less hm
      have hp' : (old ++ [(x, c)] ++ rest.filter fun p => !decide (p.1 = x)).Perm g.1 := by
        rw [List.append_assoc]; exact (List.Perm.append_left old (filter_one_perm (List.pairwise_append.1 hpw).2.1 hm).symm).trans hp
      have hno' : ∀ c', (x, c') ∉ old.filter (fun x => has C x.1) := fun c' h => hno c' (List.mem_filter.1 h).1
      have hfs := filter_snoc (fun x : VT => has C x.1) old (x, c)
      clear hp hm hok hpw hno
      replace e := e.gr hg hrW; replace B3 := B3.gr hg (by omega); replace GK := GK.gr hg (by omega) (by omega) (by omega); replace hNr := Nat.le_trans hNr hg.size; clear hg
      refine tl_exE hf (by decide) rfl rfl fun a hf => ?_
      refine tl_nil ?_
      repeat refine seq ?_
      refine ifc hf rfl (fun _ => ?_) (fun h => by cases h)
      refine wskip ?_
      try simp only [Exit.then, Exit.inBlock, ↓reduceIte]
      repeat refine seq ?_
      refine blk ?_
      repeat refine seq ?_
      refine regn0 ?_
      refine tl_entry hf (by decide) rfl hen fun a hf => ?_
      clear hen
      replace hf := hf.keep [0, 3, 5, 17, 20]
      dsimp only [keep, List.filterMap, look, Nat.beq, Option.map] at hf
      refine tl_exE hf (by decide) rfl rfl fun a hf => ?_
      refine tl_exE hf (by decide) rfl rfl fun a hf => ?_
      refine tl_alloc I89 hf (by decide) fun a b7 w e' hb7 hs7 B7 hf => ?_
      have hle7 := Nat.le_trans e.size (Nat.le_of_eq hb7.symm)
      have lo7_hNr := Nat.le_trans hNr (Nat.le_of_eq hb7.symm)
      have lt7_B3 := B3.lt
      replace GK := GK.ext e'
      replace HR := HR.ext e'
      replace hNr := Nat.le_trans hNr e'.size
      replace e := Ext.tr e e'
      replace B3 := B3.ext e'
      clear e'
      refine tl_as hf rfl (by decide) fun a hf => ?_
      replace HR : RgR vKV w bm r nm (old ++ [(x, c)]) (rest.filter fun p => !decide (p.1 = x)) := HR
      have h7 : r < b7 := by omega
      refine tl_stW T89 hf rfl rfl (one2 rfl rfl) B7 rfl rfl fun w hg hsz B7 hf => ?_
      replace e := e.gr hg (by omega); replace B3 := B3.gr hg (by omega); replace HR := HR.gr hg (fun h => by cases h; omega) (fun h => by cases h; omega); replace GK := GK.gr hg (by omega) (by omega) (by omega); replace hNr := Nat.le_trans hNr hg.size; clear hg
      refine tl_nil ?_
      replace hf := hf.keep [0, 3, 5, 6, 7, 17]
      dsimp only [keep, List.filterMap, look, Nat.beq, Option.map] at hf
      repeat refine seq ?_
      refine regn 3 hf (by decide +kernel) ?_
      refine st (ldW T39 rfl B3 (setC_size _)) ?_
      refine st (mv rfl) ?_
      refine st (call2 (A := E (B (has C x))) (B := E (setV C)) (C := E (I x)) En33 rfl rfl (fun v u w he h h' => by cases h; cases h'; exact has_spec _ _ w)) ?_
      refine en fun a w e' hf => ?_
      replace GK := GK.ext e'
      replace HR := HR.ext e'
      replace hNr := Nat.le_trans hNr e'.size
      replace e := Ext.tr e e'
      replace B3 := B3.ext e'
      replace B7 := B7.ext e'
      clear e'
      refine tl_nil ?_
      repeat refine seq ?_
      refine ifc hf rfl (fun hb => ?_) (fun hb => ?_)
      · rw [if_pos hb] at hfs
        repeat refine seq ?_
        refine reg 6 Mix.mix hf (by decide +kernel) ?_
        refine st (mv rfl) ?_
        refine st (nilE rfl) ?_
        refine st (fldA Tryz.underlying87 rfl T84 (by decide) rfl) ?_
        refine st (ld1 T84 rfl GK.blk rfl) ?_
        refine st (mv rfl) ?_
        refine st (ldW T89 rfl B7 rfl) ?_
        refine en fun a w e' hf => ?_
        replace GK := GK.ext e'
        replace HR := HR.ext e'
        replace hNr := Nat.le_trans hNr e'.size
        replace e := Ext.tr e e'
        replace B3 := B3.ext e'
        replace B7 := B7.ext e'
        clear e'
        refine tl_mputV (V := vKV) (i := x) (c := c) Tryz.underlying84 hf rfl rfl rfl GK.vs (by simp only [maxLen]; omega) hxc.1 hxc.2 fun w hg MV hf => ?_
        replace e := e.gr hg (by omega); replace B3 := B3.gr hg (by omega); replace HR := HR.gr hg (fun h => by cases h; omega) (fun h => by cases h; omega); replace hNr := Nat.le_trans hNr hg.size
        replace GK : GrR w bg bv be (old.length + 1) ((old ++ [(x, c)]).filter (fun x => has C x.1), []) := by
          rw [hfs]
          exact ⟨GK.blk.gr hg (by omega), MV.perm (putP_new hno'), (GK.es.gr hg (fun h => by cases h; omega)).mono (Nat.le_succ _), GK.ne⟩
        clear hg MV
        refine tl_nil ?_
        try simp only [Exit.then, Exit.inBlock, ↓reduceIte]
        replace hf := hf.keep [0, 3, 5, 17]
        dsimp only [keep, List.filterMap, look, Nat.beq, Option.map] at hf
        exact ⟨_, hmr, old ++ [(x, c)], _, rfl, hf, e, B3, HR, by rw [List.length_append]; exact GK, hNr, hp'⟩
      · rw [if_neg (by rw [hb]; decide), List.append_nil] at hfs
        refine wskip ?_
        try simp only [Exit.then, Exit.inBlock, ↓reduceIte]
        replace hf := hf.keep [0, 3, 5, 17]
        dsimp only [keep, List.filterMap, look, Nat.beq, Option.map] at hf
        exact ⟨_, hmr, old ++ [(x, c)], _, rfl, hf, e, B3, HR, by rw [List.length_append, hfs]; exact GK.mono (Nat.le_succ _), hNr, hp'⟩
  clear hf e B3 GK hNs
  obtain ⟨hf, e, B3, GK, hNs⟩ := hJ
  try simp only [Exit.then]
  clear HR hrN hrW hNr hbm3 hbm hGm hNm
  repeat refine seq ?_
  refine regn 4 hf (by decide +kernel) ?_
  refine st (mv rfl) ?_
  refine st (nilC (isE rfl (VA.st _ _ _ _ e hv))) ?_
  refine st (fldD Tryz.underlying87 rfl T85 (by decide) (Fld.snd Fld.refl rfl) (isR rfl)) ?_
  refine st (ldD T85 (isR rfl)) ?_
  refine en fun a w e' hf => ?_
  replace GK := GK.ext e'
  replace hNs := Nat.le_trans hNs e'.size
  replace e := Ext.tr e e'
  replace B3 := B3.ext e'
  clear e'
  obtain ⟨_, ⟨cs, ⟨bm, nm, rfl, hGm, hNm, HM⟩, rfl⟩, hf⟩ := hf.fix 35 rfl
  have hbm : bm < W.heap.size := Nat.lt_of_not_le fun h => hGm (.inr h)
  have hbm3 : bm < b3 := by omega
  replace hf := hf.keep [0, 3, 5, 35]
  dsimp only [keep, List.filterMap, look, Nat.beq, Option.map] at hf
  refine tl_range (V := eKV) Tryz.underlying85 hf (by decide) rfl HM fun a r w e' hr hsr HR hf => ?_
  have hrN : N0 ≤ r := by omega
  have hrW : W.heap.size ≤ r := Nat.le_trans e.size (Nat.le_of_eq hr.symm)
  have hNr : r + 1 ≤ w.heap.size := by omega
  replace e := Ext.tr e e'
  replace B3 := B3.ext e'
  replace GK := GK.ext e'
  clear HM e' hr hsr
  refine tl_nil ?_
  replace hf := hf.keep [0, 3, 5, 36]
  dsimp only [keep, List.filterMap, look, Nat.beq, Option.map] at hf
  repeat refine seq ?_
  refine cut (J := fun a w => Fr 59 a w [(0, E v), (3, E (.pointer (some ⟨b3, 0, none⟩))), (5, E (.pointer (some ⟨bg, 0, none⟩)))] ∧ Ext W w ∧ Blk w b3 (setC C) 39 ∧ GrR w bg bv be (g.1.length + g.2.length) (g.1.filter (fun x => has C x.1), g.2.filter (fun x => has C x.1.1 && has C x.1.2)) ∧ N0 ≤ w.heap.size) ?_ (fun a w hJ => ?_)
  · refine blk (loopN (fun r0 a w => ∃ (old rest : List ET), r0 = rest.length ∧ Fr 59 a w [(0, E v), (3, E (.pointer (some ⟨b3, 0, none⟩))), (5, E (.pointer (some ⟨bg, 0, none⟩))), (36, E (.pointer (some ⟨r, 0, none⟩)))] ∧ Ext W w ∧ Blk w b3 (setC C) 39 ∧ RgR eKV w bm r nm old rest ∧ GrR w bg bv be (g.1.length + old.length) (g.1.filter (fun x => has C x.1), old.filter (fun x => has C x.1.1 && has C x.1.2)) ∧ r + 1 ≤ w.heap.size ∧ (old ++ rest).Perm g.2) g.2.length ⟨[], g.2, rfl, hf, e, B3, HR, GK, hNr, List.Perm.refl _⟩ ?_)
    clear hf e B3 HR GK hNr
    rintro r0 a w ⟨old, rest, rfl, hf, e, B3, HR, GK, hNr, hp⟩
    obtain ⟨hok, hpw⟩ := HR.okn
    repeat refine seq ?_
    refine regn0 ?_
    refine tl_next hf (by decide) rfl HR (fun a hrest hf => ?_) (fun a w' x c hm hg HR hen hf => ?_)
    · refine tl_exE hf (by decide) rfl rfl fun a hf => ?_
      refine tl_nil ?_
      repeat refine seq ?_
      refine ifc hf rfl (fun h => by cases h) (fun _ => ?_)
      refine wexit ?_
      simp only [Exit.then, Exit.inBlock, ↓reduceIte]
      subst hrest
      rw [List.append_nil] at hp
      replace GK := (GK.perm (g' := (g.1.filter fun x => has C x.1, g.2.filter fun x => has C x.1.1 && has C x.1.2)) (List.Perm.refl _) (hp.filter _)).mono (Nat.add_le_add_left (Nat.le_of_eq hp.length_eq) _)
      have hNs : N0 ≤ w.heap.size := by omega
      replace hf := hf.keep [0, 3, 5]
      dsimp only [keep, List.filterMap, look, Nat.beq, Option.map] at hf
      exact ⟨trivial, hf, e, B3, GK, hNs⟩
    · have hxc := hok (x, c) (List.mem_append_right _ hm)
      have hno := not_before hpw hm
      have hlen := len_rest hp hm
      have hmr := rest_less hm
      have hp' : (old ++ [(x, c)] ++ rest.filter fun p => !decide (p.1 = x)).Perm g.2 := by
        rw [List.append_assoc]; exact (List.Perm.append_left old (filter_one_perm (List.pairwise_append.1 hpw).2.1 hm).symm).trans hp
      have hno' : ∀ c', (x, c') ∉ old.filter (fun x => has C x.1.1 && has C x.1.2) := fun c' h => hno c' (List.mem_filter.1 h).1
      have hfs := filter_snoc (fun x : ET => has C x.1.1 && has C x.1.2) old (x, c)
      clear hp hm hok hpw hno
      replace e := e.gr hg hrW; replace B3 := B3.gr hg (by omega); replace GK := GK.gr hg (by omega) (by omega) (by omega); replace hNr := Nat.le_trans hNr hg.size; clear hg
      refine tl_exE hf (by decide) rfl rfl fun a hf => ?_
      refine tl_nil ?_
      repeat refine seq ?_
      refine ifc hf rfl (fun _ => ?_) (fun h => by cases h)
      refine wskip ?_
      try simp only [Exit.then, Exit.inBlock, ↓reduceIte]
      repeat refine seq ?_
      refine blk ?_
      repeat refine seq ?_
      refine regn0 ?_
      refine tl_entry hf (by decide) rfl hen fun a hf => ?_
      clear hen
      replace hf := hf.keep [0, 3, 5, 36, 39]
      dsimp only [keep, List.filterMap, look, Nat.beq, Option.map] at hf
      refine tl_exE hf (by decide) rfl rfl fun a hf => ?_
      refine tl_exE hf (by decide) rfl rfl fun a hf => ?_
      refine tl_alloc I92 hf (by decide) fun a b8 w e' hb8 hs8 B8 hf => ?_
      have hle8 := Nat.le_trans e.size (Nat.le_of_eq hb8.symm)
      have lo8_hNr := Nat.le_trans hNr (Nat.le_of_eq hb8.symm)
      have lt8_B3 := B3.lt
      replace GK := GK.ext e'
      replace HR := HR.ext e'
      replace hNr := Nat.le_trans hNr e'.size
      replace e := Ext.tr e e'
      replace B3 := B3.ext e'
      clear e'
      refine tl_alloc I89 hf (by decide) fun a b9 w e' hb9 hs9 B9 hf => ?_
      have hle9 := Nat.le_trans e.size (Nat.le_of_eq hb9.symm)
      have lo9_hNr := Nat.le_trans hNr (Nat.le_of_eq hb9.symm)
      have lt9_B3 := B3.lt
      have lt9_B8 := B8.lt
      replace GK := GK.ext e'
      replace HR := HR.ext e'
      replace hNr := Nat.le_trans hNr e'.size
      replace e := Ext.tr e e'
      replace B3 := B3.ext e'
      replace B8 := B8.ext e'
      clear e'
      replace HR : RgR eKV w bm r nm (old ++ [(x, c)]) (rest.filter fun p => !decide (p.1 = x)) := HR
      have h7 : r < b8 ∧ b8 < b9 := by omega
      refine tl_stW T92 hf rfl rfl (one2 rfl rfl) B8 rfl rfl fun w hg hsz B8 hf => ?_
      replace e := e.gr hg (by omega); replace B3 := B3.gr hg (by omega); replace B9 := B9.gr hg (by omega); replace HR := HR.gr hg (fun h => by cases h; omega) (fun h => by cases h; omega); replace GK := GK.gr hg (by omega) (by omega) (by omega); replace hNr := Nat.le_trans hNr hg.size; clear hg
      refine tl_stW T89 hf rfl rfl (one2 rfl rfl) B9 rfl rfl fun w hg hsz B9 hf => ?_
      replace e := e.gr hg (by omega); replace B3 := B3.gr hg (by omega); replace B8 := B8.gr hg (by omega); replace HR := HR.gr hg (fun h => by cases h; omega) (fun h => by cases h; omega); replace GK := GK.gr hg (by omega) (by omega) (by omega); replace hNr := Nat.le_trans hNr hg.size; clear hg
      refine tl_nil ?_
      replace hf := hf.keep [0, 3, 5, 8, 9, 36]
      dsimp only [keep, List.filterMap, look, Nat.beq, Option.map] at hf
      replace B8 : Blk w b8 #[.int .i64 x.1, .int .i64 x.2] 92 := B8
      repeat refine seq ?_
      refine regn 10 hf (by decide +kernel) ?_
      refine st (ldW T39 rfl B3 (setC_size _)) ?_
      refine st (fldA Tryz.underlying92 rfl T3 (by decide) rfl) ?_
      refine st (ld1 T3 rfl B8 rfl) ?_
      refine st (call2 (A := E (B (has C x.1))) (B := E (setV C)) (C := E (I x.1)) En33 rfl rfl (fun v u w he h h' => by cases h; cases h'; exact has_spec _ _ w)) ?_
      refine st (mv rfl) ?_
      refine sgE rfl rfl (.k 3 rfl .n) (fun hgd => ldW T39 rfl B3 (setC_size _)) ?_
      refine sgE rfl rfl (.k 8 rfl .n) (fun hgd => fldA Tryz.underlying92 rfl T3 (by decide) rfl) ?_
      refine sgE rfl rfl (.c 48 rfl (fun h => h) .n) (fun hgd => ld1 T3 rfl B8 rfl) ?_
      refine sgE rfl rfl (.c 47 rfl (fun h => h) (.c 49 rfl (fun h => h) .n)) (fun hgd => call2 (A := E (B (has C x.2))) (B := E (setV C)) (C := E (I x.2)) En33 rfl rfl (fun v u w he h h' => by cases h; cases h'; exact has_spec _ _ w)) ?_
      refine st (pkAnd rfl rfl (fun h => by rw [h]; rfl)) ?_
      refine en fun a w e' hf => ?_
      replace GK := GK.ext e'
      replace HR := HR.ext e'
      replace hNr := Nat.le_trans hNr e'.size
      replace e := Ext.tr e e'
      replace B3 := B3.ext e'
      replace B8 := B8.ext e'
      replace B9 := B9.ext e'
      clear e'
      refine tl_nil ?_
      repeat refine seq ?_
      refine ifc hf rfl (fun hb => ?_) (fun hb => ?_)
      · rw [if_pos hb] at hfs
        replace hf := hf.keep [0, 3, 5, 8, 9, 36]
        dsimp only [keep, List.filterMap, look, Nat.beq, Option.map] at hf
        repeat refine seq ?_
        refine reg 6 Mix.mix hf (by decide +kernel) ?_
        refine st (mv rfl) ?_
        refine st (nilE rfl) ?_
        refine st (fldA Tryz.underlying87 rfl T85 (by decide) rfl) ?_
        refine st (ld1 T85 rfl GK.blk rfl) ?_
        refine st (ldW T92 rfl B8 rfl) ?_
        refine st (ldW T89 rfl B9 rfl) ?_
        refine en fun a w e' hf => ?_
        replace GK := GK.ext e'
        replace HR := HR.ext e'
        replace hNr := Nat.le_trans hNr e'.size
        replace e := Ext.tr e e'
        replace B3 := B3.ext e'
        replace B8 := B8.ext e'
        replace B9 := B9.ext e'
        clear e'
        refine tl_mputV (V := eKV) (i := x) (c := c) Tryz.underlying85 hf rfl rfl rfl GK.es (by simp only [maxLen]; omega) hxc.1 hxc.2 fun w hg ME hf => ?_
        replace e := e.gr hg (by omega); replace B3 := B3.gr hg (by omega); replace HR := HR.gr hg (fun h => by cases h; omega) (fun h => by cases h; omega); replace hNr := Nat.le_trans hNr hg.size
        replace GK : GrR w bg bv be (g.1.length + old.length + 1) (g.1.filter (fun x => has C x.1), (old ++ [(x, c)]).filter (fun x => has C x.1.1 && has C x.1.2)) := by
          rw [hfs]
          exact ⟨GK.blk.gr hg (by omega), (GK.vs.gr hg (fun h => by cases h; omega)).mono (Nat.le_succ _), ME.perm (putP_new hno'), GK.ne⟩
        clear hg ME
        refine tl_nil ?_
        try simp only [Exit.then, Exit.inBlock, ↓reduceIte]
        replace hf := hf.keep [0, 3, 5, 36]
        dsimp only [keep, List.filterMap, look, Nat.beq, Option.map] at hf
        exact ⟨_, hmr, old ++ [(x, c)], _, rfl, hf, e, B3, HR, by rw [List.length_append]; exact GK, hNr, hp'⟩
      · rw [if_neg (by rw [hb]; decide), List.append_nil] at hfs
        refine wskip ?_
        try simp only [Exit.then, Exit.inBlock, ↓reduceIte]
        replace hf := hf.keep [0, 3, 5, 36]
        dsimp only [keep, List.filterMap, look, Nat.beq, Option.map] at hf
        exact ⟨_, hmr, old ++ [(x, c)], _, rfl, hf, e, B3, HR, by rw [List.length_append, hfs]; exact GK.mono (Nat.le_succ _), hNr, hp'⟩
  clear hf e B3 GK hNs
  obtain ⟨hf, e, B3, GK, hNs⟩ := hJ
  try simp only [Exit.then]
  clear HR hrN hrW hNr hbm3 hbm hGm hNm
  replace hf := hf.keep [5]
  dsimp only [keep, List.filterMap, look, Nat.beq, Option.map] at hf
  repeat refine seq ?_
  refine regn 1 hf (by decide +kernel) ?_
  refine st (mv rfl) ?_
  refine en fun a w e' hf => ?_
  replace GK := GK.ext e'
  replace e := Ext.tr e e'
  clear e'
  refine tl_as hf rfl (by decide) fun a hf => ?_
  refine tl_nil ?_
  refine wret ?_
  try simp only [Exit.then, Exit.inBlock]
  refine ret1 rfl hf rfl ?_
  rintro _ rfl
  exact ⟨bg, bv, be, rfl, e, hbg, hbv, hbe, GK⟩
end Go.Mono

namespace Go.Mono
open Go Go.Proofs Go.RowKit Go.Gr

/-- the cells of an adjacency -/
def adC (S : BS) (m : Value) : Array Value := ((setC S).toList ++ [m]).toArray
theorem bAd (bm : Nat) : Tryz.prog.built 80 [(1, .map (some bm))] = some (adC 0 (.map (some bm))) := by kernel_rfl
theorem adC_size (S : BS) (m : Value) : (adC S m).size = 17 := by rw [adC, List.size_toArray, List.length_append, Array.length_toList, setC_size]; rfl
theorem adC_put (S T : BS) (m : Value) : (((adC S m).toList.take 0 ++ (setC T).toList ++ (adC S m).toList.drop (0 + 16)).toArray) = adC T m := by
  rw [List.take_zero, List.nil_append, adC, adC]
  simp only [List.drop_append, Array.length_toList, setC_size]
  simp [setC_size]
theorem adC_one (S : BS) (bm : Nat) : (adC S (.map (some bm))).all (·.oneCell') = true := by
  have h : (setC S).all (·.oneCell') = true := wordsC_one _
  rw [adC, Array.all_eq_true_iff_forall_mem] at *
  intro x hx
  rcases List.mem_append.1 (List.mem_toArray.1 hx) with hx | hx
  · exact h x (by simpa using hx)
  · rw [List.mem_singleton.1 hx]; rfl
theorem adC_map (S : BS) (m : Value) : (adC S m)[16]? = some m := by
  rw [adC, List.getElem?_toArray, List.getElem?_append_right (by rw [Array.length_toList, setC_size]; exact Nat.le_refl _), Array.length_toList, setC_size]; rfl
theorem adC_set (S : BS) (m : Value) : (adC S m).extract 0 (0 + 16) = setC S := by
  apply Array.ext'
  rw [adC, Array.toList_extract]
  simp [List.extract, setC_size]
structure OJ (W : World) (g : GT) (S : BS) (v : Value) (b1 b2 b3 bm : Nat) (c2 : Array Value) (s : List Nat) (w : World) : Prop where
  e : Ext W w
  t : Tab w
  p1 : Blk w b1 #[v] 27
  p2 : Blk w b2 c2 80
  p3 : Blk w b3 (adC S (.map (some bm))) 80
  m : MpR sKV w bm s.length (nbL g s)
theorem OJ.kp {W : World} {g : GT} {S : BS} {v : Value} {b1 b2 b3 bm : Nat} {c2 : Array Value} {s : List Nat} {B : Nat} {w w' : World} (h : OJ W g S v b1 b2 b3 bm c2 s w) (k : Kp B w w') (hW : W.heap.size ≤ B) (h0 : 0 < B) (l1 : b1 < B) (l2 : b2 < B) (l3 : b3 < B) (lm : bm < B) : OJ W g S v b1 b2 b3 bm c2 s w' :=
  ⟨h.e.kp k hW, h.t.kp k h0, h.p1.kp k (fun hh => by have := hh.1; omega), h.p2.kp k (fun hh => by have := hh.1; omega), h.p3.kp k (fun hh => by have := hh.1; omega), h.m.pres (k.same bm h.m.lt (fun hh => by have := hh.1; omega))⟩
theorem of07_spec {G : Nat → Prop} {N : Nat} (g : GT) (v : Value) (W : World) (hT : Tab W) (h : (Dv (ptE (grE N)) G (some g)).p v W) (gs1 : g.1.Pairwise fun x y => lt1 x.1 y.1 = true) (gs2 : g.2.Pairwise fun x y => lt2 x.1 y.1 = true) (hl1 : g.1.length ≤ 100000) (hl2 : g.2.length ≤ 100000) (hN : N ≤ 1000000) :
    Calls Tryz.prog 29 #[v] W fun en w' => Ext W w' ∧ ∃ mv, en = .returned (.agg (adC (vset g.1) mv)) ∧ (Dv (mpE sKV 1024) Go.Mono.G0 (nbL g (elems (vset g.1)))).p mv w' := by
  have hv : (Dv (ptE (grE N)) Go.Mono.G0 (some g)).p v W := Dv.weak h fun b _ hb => hb.elim
  have hT0 := hT.lt
  have h1c : v.cells = #[v] := by
    obtain ⟨ad, rfl, _⟩ := Dv.pt.1 hv
    rfl
  refine enterM (args := [v]) (As := [E v]) Tryz.func29 rfl Tryz.ntmps29 (Nat.le_of_ble_eq_true rfl) ?_ (fun a hf => ?_) (Nat.le_of_ble_eq_true rfl)
  · exact arg1 rfl
  dsimp only [params, Nat.reduceAdd] at hf
  have e := Ext.rfl' W
  repeat refine seq ?_
  refine regn0 ?_
  refine tl_box hf rfl (by decide) fun a b1 w v1 hv1 e' hb1 hs1 B1 hf => ?_
  have hle1 := Nat.le_trans e.size (Nat.le_of_eq hb1.symm)
  replace hT := hT.ext e'
  replace e := Ext.tr e e'
  clear e'
  refine tl_alloc I80 hf (by decide) fun a b2 w e' hb2 hs2 B2 hf => ?_
  have hle2 := Nat.le_trans e.size (Nat.le_of_eq hb2.symm)
  have lt2_B1 := B1.lt
  replace hT := hT.ext e'
  replace e := Ext.tr e e'
  replace B1 := B1.ext e'
  clear e'
  refine tl_nil ?_
  cases hv1
  rw [h1c] at B1
  replace hf := hf.keep [1, 2]
  dsimp only [keep, List.filterMap, look, Nat.beq, Option.map] at hf
  have n12 : b1 ≠ b2 ∧ W.heap.size ≤ b1 ∧ W.heap.size ≤ b2 := by omega
  repeat refine seq ?_
  refine regn0 ?_
  refine tl_mkV sKV hf (by decide) fun a bm w e' hbm hsm HM hf => ?_
  replace e := Ext.tr e e'
  replace hT := hT.ext e'
  have lb1 := B1.lt
  have lb2 := B2.lt
  replace B1 := B1.ext e'
  replace B2 := B2.ext e'
  clear e'
  have lm := HM.lt
  have hWm : W.heap.size ≤ bm := by have := e.size; omega
  have n12m : b1 ≠ bm ∧ b2 ≠ bm := by omega
  have hNm : bm + 1 ≤ w.heap.size := HM.lt
  refine tl_op hf (by decide) (bldV [(1, _)] rfl (bAd bm)) fun a w e' hf => ?_
  replace hT := hT.ext e'
  replace HM := HM.ext e'
  replace hNm := Nat.le_trans hNm e'.size
  replace e := Ext.tr e e'
  replace B1 := B1.ext e'
  replace B2 := B2.ext e'
  clear e'
  refine tl_alloc I80 hf (by decide) fun a b3 w e' hb3 hs3 B3 hf => ?_
  have hle3 := Nat.le_trans e.size (Nat.le_of_eq hb3.symm)
  have lo3_hNm := Nat.le_trans hNm (Nat.le_of_eq hb3.symm)
  have lt3_B1 := B1.lt
  have lt3_B2 := B2.lt
  replace hT := hT.ext e'
  replace HM := HM.ext e'
  replace hNm := Nat.le_trans hNm e'.size
  replace e := Ext.tr e e'
  replace B1 := B1.ext e'
  replace B2 := B2.ext e'
  clear e'
  have n3 : b1 ≠ b3 ∧ b2 ≠ b3 ∧ b3 ≠ bm ∧ W.heap.size ≤ b3 := by omega
  refine tl_stW T80 hf rfl rfl (adC_one _ _) B3 rfl (adC_size _ _) fun w hg hsz B3 hf => ?_
  replace e := e.gr hg (by omega); replace hT := hT.gr hg (by omega); replace B1 := B1.gr hg (by omega); replace B2 := B2.gr hg (by omega); replace HM := HM.gr hg (fun h => by cases h; omega); clear hg
  refine tl_nil ?_
  replace hf := hf.keep [1, 2, 3]
  dsimp only [keep, List.filterMap, look, Nat.beq, Option.map] at hf
  repeat refine seq ?_
  refine regn 2 hf (by decide +kernel) ?_
  refine st (ld1 (v := v) T27 rfl B1 rfl) ?_
  refine st (eqlP Tryz.underlying27 (isE rfl (VA.st _ _ _ _ e hv))) ?_
  refine en fun a w e' hf => ?_
  replace hT := hT.ext e'
  replace HM := HM.ext e'
  replace e := Ext.tr e e'
  replace B1 := B1.ext e'
  replace B2 := B2.ext e'
  replace B3 := B3.ext e'
  clear e'
  refine tl_nil ?_
  repeat refine seq ?_
  refine ifc hf rfl (fun h => by cases h) (fun _ => ?_)
  refine wskip ?_
  try simp only [Exit.then, Exit.inBlock, ↓reduceIte]
  obtain ⟨S, hS⟩ : ∃ S, S = vset g.1 := ⟨_, rfl⟩
  have e0 := e
  repeat refine seq ?_
  refine regn 3 hf (by decide +kernel) ?_
  refine st (ld1 (v := v) T27 rfl B1 rfl) ?_
  refine st (call1 (A := E (setV S)) En22 rfl (fun v w he k => by cases k; rw [hS]; exact vertexSet_spec g _ w (VA.st _ _ _ _ (Ext.tr e0 he) hv) gs1 hl1 hN)) ?_
  refine st (fldA Tryz.underlying80 rfl T39 (by decide) rfl) ?_
  refine en fun a w e' hf => ?_
  replace hT := hT.ext e'
  replace HM := HM.ext e'
  replace e := Ext.tr e e'
  replace B1 := B1.ext e'
  replace B2 := B2.ext e'
  replace B3 := B3.ext e'
  clear e'
  refine tl_stP T39 hf rfl rfl (wordsC_one _) B3 (setC_size _) (by rw [adC_size]; decide) fun w hg hsz B3 hf => ?_
  have B3' : Blk w b3 (((adC 0 (.map (some bm))).toList.take 0 ++ (setC S).toList ++ (adC 0 (.map (some bm))).toList.drop (0 + 16)).toArray) 80 := B3
  rw [adC_put] at B3'
  replace B3 := B3'
  clear B3'
  replace e := e.gr hg (by omega); replace hT := hT.gr hg (by omega); replace B1 := B1.gr hg (by omega); replace B2 := B2.gr hg (by omega); replace HM := HM.gr hg (fun h => by cases h; omega); clear hg
  refine tl_nil ?_
  replace hf := hf.keep [1, 2, 3]
  dsimp only [keep, List.filterMap, look, Nat.beq, Option.map] at hf
  obtain ⟨Nz, hNz⟩ : ∃ Nz, Nz = w.heap.size := ⟨_, rfl⟩
  have e1 := e
  have l1 := B1.lt
  have l2 := B2.lt
  have l3 := B3.lt
  have lm2 := HM.lt
  clear hNm
  repeat refine seq ?_
  refine regn 3 hf (by decide +kernel) ?_
  refine st (fldA Tryz.underlying80 rfl T39 (by decide) rfl) ?_
  refine st ((ldP T39 rfl B3 (by rw [adC_size]; decide)).eq (congrArg Value.agg (adC_set S (.map (some bm))))) ?_
  refine st (call1 (A := SeqA Nz S) En25 rfl (fun v w' he h => by cases h; exact Calls.mono (all_spec _ w') (fun en w2 ⟨u, h1, h2, b', h3, h4, h5⟩ => ⟨u, h1, h2, b', by have := he.size; omega, h4, h5⟩))) ?_
  refine en fun a w e' hf => ?_
  replace HM := HM.ext e'
  replace hT := hT.ext e'
  replace e := Ext.tr e e'
  replace B1 := B1.ext e'
  replace B2 := B2.ext e'
  replace B3 := B3.ext e'
  clear e'
  refine tl_nil ?_
  obtain ⟨v15, ⟨b8, h8, rfl, BS⟩, hf⟩ := hf.fix 15 rfl
  replace hf := hf.keep [1, 2, 3, 15]
  dsimp only [keep, List.filterMap, look, Nat.beq, Option.map] at hf
  obtain ⟨c2, hc2, hB2⟩ : ∃ c2 : Array Value, c2.size = 17 ∧ Blk w b2 c2 80 := ⟨_, by rfl, B2⟩
  clear B2
  have hBW : W.heap.size ≤ w.heap.size := e.size
  have h0w : 0 < w.heap.size := hT.lt
  have l1' := B1.lt
  have l2' := hB2.lt
  have l3' := B3.lt
  have lm' := HM.lt
  repeat refine seq ?_
  refine blk ?_
  refine range_all3 (S := S) hf rfl BS (by decide) (fun s w1 => OJ W g S v b1 b2 b3 bm c2 s w1) (fun _ _ => False) (fun s w1 h => h.t)
    ⟨e, hT, B1, hB2, B3, HM⟩ (fun s w1 w2 h hs k => h.kp k hBW h0w l1' l2' l3' lm') (fun _ _ _ h => h.elim) ?_ ?_ (fun _ _ _ _ _ _ h => h.elim)
  · intro l s x rest a1 w1 hs hJ hlw hf
    have hx1024 : x < 1024 := (mem_elems.1 (by rw [hs]; simp)).1
    have hxs : x ∉ s := by
      have hn : (elems S).Nodup := List.Nodup.sublist List.filter_sublist List.nodup_range
      rw [hs] at hn
      intro hx
      exact (List.nodup_append.1 hn).2.2 x hx x (by simp) rfl
    have hsl : s.length ≤ 1024 := by have := elems_len S; rw [hs] at this; simp at this; omega
    generalize hBz : w.heap.size = Bz at *
    refine regn0 ?_
    refine tl_as hf rfl (by decide) fun a hf => ?_
    refine tl_nil ?_
    simp only [Exit.then]
    refine ⟨Kh.rfl' _ _, fun w3 k3 hsz3 => ?_⟩
    have hJ3 := hJ.kp k3 hBW h0w l1' l2' l3' lm'
    clear e hT B1 hB2 B3 HM BS
    replace hf := hf.pure w3
    obtain ⟨e, hT, B1, B2, B3, HM⟩ := hJ3
    have kh := Kh.rfl' Bz w3
    have e0 := e
    replace hf := hf.keep [1, 2, 3, 4]
    dsimp only [keep, List.filterMap, look, Nat.beq, Option.map] at hf
    repeat refine seq ?_
    refine blk ?_
    repeat refine seq ?_
    refine reg 6 Mix.mix hf (by decide +kernel) ?_
    refine st (fldA Tryz.underlying80 rfl T66 (by decide) rfl) ?_
    refine st (ld1 (v := .map (some bm)) T66 rfl B3 (adC_map _ _)) ?_
    refine st (mv rfl) ?_
    refine st (ld1 (v := v) T27 rfl B1 rfl) ?_
    refine st (mv rfl) ?_
    refine st (call2 (A := E (setV (nbG g.2 (x : Int)))) En46 rfl rfl (fun v u w he k1 k2 => by cases k1; cases k2; exact gnb_spec g _ _ w (VA.st _ _ _ _ (Ext.tr e0 he) hv) gs2 hl2 hN)) ?_
    refine en fun a w e' hf => ?_
    replace HM := HM.ext e'
    replace hT := hT.ext e'
    replace kh := kh.tr (Kh.ext e')
    replace e := Ext.tr e e'
    replace B1 := B1.ext e'
    replace B2 := B2.ext e'
    replace B3 := B3.ext e'
    clear e'
    refine tl_mputV (V := sKV) (i := (x : Int)) (c := nbG g.2 (x : Int)) Tryz.underlying66 hf rfl rfl rfl HM (by simp only [maxLen]; omega) (wf64 (by omega) (by omega)) trivial fun w hg HM hf => ?_
    replace e := e.gr hg (by omega); replace hT := hT.gr hg (by omega); replace B1 := B1.gr hg (by omega); replace B2 := B2.gr hg (by omega); replace B3 := B3.gr hg (by omega)
    replace kh := kh.tr (Kh.gr hg (fun hh => by have := hh.1; omega))
    clear hg
    refine tl_nil ?_
    simp only [Exit.inBlock]
    exact ⟨⟨e, hT, B1, B2, B3, by rw [List.length_append]; exact HM.perm (nbL_put hxs)⟩, kh⟩
  · intro a' w' hf' hJ hsz hDn
    simp only [Exit.inBlock, ↓reduceIte, Exit.then]
    have hD : Ds [w.heap.size] w' := (Ds.nil w').cons hDn (by simp)
    have hf : FrD 24 (marks [w.heap.size]) a' w' [(1, E (.pointer (some ⟨b1, 0, none⟩))), (2, E (.pointer (some ⟨b2, 0, none⟩))), (3, E (.pointer (some ⟨b3, 0, none⟩)))] := hf'.keep [1, 2, 3]
    have hDW : ∀ d ∈ [w.heap.size], W.heap.size ≤ d := fun d hd => by rw [List.mem_singleton] at hd; omega
    clear hf' e hT B1 hB2 B3 HM BS hDn
    obtain ⟨e, hT, B1, B2, B3, HM⟩ := hJ
    have hbD : ¬ bm ∈ [w.heap.size] := fun h => by rw [List.mem_singleton] at h; omega
    have hb2D : ¬ b2 ∈ [w.heap.size] := fun h => by rw [List.mem_singleton] at h; omega
    generalize [w.heap.size] = D2 at *
    generalize w' = w at *
    repeat refine seq ?_
    refine regn 1 hf (by decide +kernel) ?_
    refine st (ldW T80 rfl B3 (adC_size _ _)) ?_
    refine en fun a w e' hf => ?_
    replace HM := HM.ext e'
    replace e := Ext.tr e e'
    replace B2 := B2.ext e'
    replace B3 := B3.ext e'
    replace hD := hD.ext e'
    clear e'
    refine tl_stW T80 hf rfl rfl (adC_one _ _) B2 hc2 (adC_size _ _) fun w hg hsz B2 hf => ?_
    replace e := e.gr hg (by omega)
    replace hD := hD.gr hg hb2D
    replace HM := HM.gr hg (fun h => by cases h; omega)
    clear hg
    refine tl_nil ?_
    refine wret ?_
    try simp only [Exit.then, Exit.inBlock]
    refine retcM rfl T80 hf rfl B2 (adC_size _ _) hD ⟨e.shut hDW, .map (some bm), ?_⟩
    rw [← hS]
    exact ⟨rfl, [.map (some bm)], ⟨bm, _, rfl, fun h => h.elim, elems_len S, HM.pres (shut_heap D2 w bm hbD)⟩, rfl⟩
end Go.Mono

namespace Go.Mono
open Go Go.RowKit
def bC (n : Nat) (f : Nat → Bool) : Array Value := ((List.range n).map fun j => Value.bool (f j)).toArray
theorem bC_size (n : Nat) (f : Nat → Bool) : (bC n f).size = n := by simp [bC]
theorem bC_get {n i : Nat} {f : Nat → Bool} (h : i < n) : (bC n f)[i]? = some (.bool (f i)) := by simp [bC, h]
theorem bC_congr {n : Nat} {f g : Nat → Bool} (h : ∀ i, i < n → f i = g i) : bC n f = bC n g := by
  unfold bC
  congr 1
  exact List.map_congr_left fun i hi => by rw [h i (List.mem_range.1 hi)]
theorem bC_set (n : Nat) (f : Nat → Bool) (j : Nat) (b : Bool) : (bC n f).setIfInBounds j (.bool b) = bC n (fun i => if i = j then b else f i) := by
  apply Array.ext_getElem?
  intro i
  by_cases hi : i < n
  · rw [bC_get hi]
    by_cases hk : i = j
    · subst hk
      rw [Array.getElem?_setIfInBounds_self_of_lt (by rw [bC_size]; exact hi)]
      simp
    · rw [Array.getElem?_setIfInBounds_ne (Ne.symm hk), bC_get hi]
      simp [hk]
  · rw [Array.getElem?_eq_none (by simp [bC_size]; omega), Array.getElem?_eq_none (by simp [bC_size]; omega)]
def oC (n k : Nat) (rb : Nat → Nat) : Array Value := ((List.range n).map fun i => if i < k then Value.slice (some ⟨rb i, 0, none⟩) n n else .slice none 0 0).toArray
theorem oC_size (n k : Nat) (rb : Nat → Nat) : (oC n k rb).size = n := by simp [oC]
theorem oC_get {n k i : Nat} {rb : Nat → Nat} (h : i < k) (hk : k ≤ n) : (oC n k rb)[i]? = some (.slice (some ⟨rb i, 0, none⟩) n n) := by
  have : i < n := by omega
  simp [oC, h, this]
def adB (rb : Nat → Nat) (k b : Nat) : Nat → Nat := fun i => if i = k then b else rb i
theorem oC_set {n k b : Nat} {rb : Nat → Nat} (hk : k < n) : (oC n k rb).setIfInBounds k (.slice (some ⟨b, 0, none⟩) n n) = oC n (k + 1) (adB rb k b) := by
  apply Array.ext_getElem?
  intro i
  by_cases hi : i < n
  · by_cases hik : i = k
    · subst hik
      rw [Array.getElem?_setIfInBounds_self_of_lt (by rw [oC_size]; exact hi), oC_get (Nat.lt_succ_self _) hi]
      simp [adB]
    · rw [Array.getElem?_setIfInBounds_ne (Ne.symm hik)]
      by_cases h : i < k
      · rw [oC_get h (by omega), oC_get (show i < k + 1 by omega) (by omega)]
        simp [adB, hik]
      · have h' : ¬ i < k + 1 := by omega
        simp [oC, hi, h, h']
  · rw [Array.getElem?_eq_none (by simp [oC_size]; omega), Array.getElem?_eq_none (by simp [oC_size]; omega)]
/-- a square of truth values, of which k rows are made -/
structure MatR (tr tb : TypeId) (N n k : Nat) (rb : Nat → Nat) (M : Nat → Nat → Bool) (bo : Nat) (w : World) : Prop where
  o : Blk w bo (oC n k rb) tr
  r : ∀ i, i < k → Blk w (rb i) (bC n (M i)) tb
  d : ∀ i j, i < k → j < k → rb i = rb j → i = j
  lo : N ≤ bo ∧ ∀ i, i < k → N ≤ rb i
  ty : tr ≠ tb
section
variable {tr tb : TypeId} {N n k : Nat} {rb : Nat → Nat} {M M' : Nat → Nat → Bool} {bo : Nat} {w w' : World}
theorem Blk.tyNe {a b : Nat} {cs cs' : Array Value} {t t' : TypeId} (h : Blk w a cs t) (h' : Blk w b cs' t') (ht : t ≠ t') : a ≠ b := by
  rintro rfl
  unfold Blk at h h'
  rw [h] at h'
  cases h'; exact ht rfl
theorem MatR.gro (h : MatR tr tb N n k rb M bo w) {row : Option Nat} (hg : w.grownBy w' row) (h0 : row ≠ some bo) (h1 : ∀ i, i < k → row ≠ some (rb i)) : MatR tr tb N n k rb M bo w' :=
  ⟨(hg.block bo h.o.lt (fun e => h0 e.symm)).trans h.o, fun i hi => (hg.block _ (h.r i hi).lt (fun e => h1 i hi e.symm)).trans (h.r i hi), h.d, h.lo, h.ty⟩
theorem MatR.ext (h : MatR tr tb N n k rb M bo w) (e : Ext w w') : MatR tr tb N n k rb M bo w' := ⟨h.o.ext e, fun i hi => (h.r i hi).ext e, h.d, h.lo, h.ty⟩
theorem MatR.congr (h : MatR tr tb N n k rb M bo w) (hM : ∀ i, i < k → ∀ j, j < n → M i j = M' i j) : MatR tr tb N n k rb M' bo w :=
  ⟨h.o, fun i hi => by rw [← bC_congr (hM i hi)]; exact h.r i hi, h.d, h.lo, h.ty⟩
theorem MatR.add (h : MatR tr tb N n k rb M bo w) {b : Nat} {f : Nat → Bool} (hb : Blk w b (bC n f) tb) (hn : ∀ i, i < k → rb i ≠ b) (hN : N ≤ b) (hk : k < n) (hg : w.grownBy w' (some bo)) (ho : Blk w' bo ((oC n k rb).setIfInBounds k (.slice (some ⟨b, 0, none⟩) n n)) tr) :
    MatR tr tb N n (k + 1) (adB rb k b) (fun i => if i = k then f else M i) bo w' := by
  refine ⟨by rw [← oC_set hk]; exact ho, fun i hi => ?_, fun i j hi hj hij => ?_, ⟨h.lo.1, fun i hi => ?_⟩, h.ty⟩
  · by_cases hik : i = k
    · subst hik
      simp only [adB, if_true]
      exact hb.gr hg fun e => h.o.tyNe hb h.ty e.symm
    · simp only [adB, if_neg hik]
      exact (h.r i (by omega)).gr hg fun e => h.o.tyNe (h.r i (by omega)) h.ty e.symm
  · by_cases hik : i = k <;> by_cases hjk : j = k
    · omega
    · simp only [adB, if_neg hjk, hik, if_true] at hij
      exact absurd hij.symm (hn j (by omega))
    · simp only [adB, if_neg hik, hjk, if_true] at hij
      exact absurd hij (hn i (by omega))
    · simp only [adB, if_neg hik, if_neg hjk] at hij
      exact h.d i j (by omega) (by omega) hij
  · by_cases hik : i = k
    · simp only [adB, hik, if_true]; exact hN
    · simp only [adB, if_neg hik]; exact h.lo.2 i (by omega)
def upM (M : Nat → Nat → Bool) (i j : Nat) (b : Bool) : Nat → Nat → Bool := fun a c => if a = i ∧ c = j then b else M a c
theorem MatR.put (h : MatR tr tb N n k rb M bo w) {i j : Nat} {b : Bool} (hi : i < k) (hg : w.grownBy w' (some (rb i))) (hb : Blk w' (rb i) ((bC n (M i)).setIfInBounds j (.bool b)) tb) : MatR tr tb N n k rb (upM M i j b) bo w' := by
  refine ⟨h.o.gr hg (h.o.tyNe (h.r i hi) h.ty), fun a ha => ?_, h.d, h.lo, h.ty⟩
  by_cases hai : a = i
  · subst hai
    rw [bC_set] at hb
    rw [show (upM M a j b a) = fun c => if c = j then b else M a c from funext fun c => by simp [upM]]
    exact hb
  · rw [show upM M i j b a = M a from funext fun c => by simp [upM, hai]]
    exact (h.r a ha).gr hg fun e => hai (h.d a i ha hi e)
theorem MatR.ne (h : MatR tr tb N n k rb M bo w) {b : Nat} {cs : Array Value} {t : TypeId} (hb : Blk w b cs t) (h1 : t ≠ tr) (h2 : t ≠ tb) : b ≠ bo ∧ ∀ i, i < k → b ≠ rb i :=
  ⟨hb.tyNe h.o h1, fun i hi => hb.tyNe (h.r i hi) h2⟩
end
end Go.Mono

namespace Go.Mono
open Go Go.Proofs Go.RowKit Go.Gr

end Go.Mono

namespace Go.Mono
open Go Go.Proofs Go.RowKit Go.Gr

end Go.Mono

namespace Go.Mono
open Go Go.RowKit
section
variable {P : Program} {w0 : World} {L : Env} {dst : Option Tmp} {ty : TypeId} {pos : String} {aft : Array Edge} {g : Option (Nat × Bool)} {t te : TypeId} {N : Nat}
end
end Go.Mono

namespace Go.Mono
open Go Go.Proofs Go.RowKit Go.Gr

theorem nd_len : ∀ (l m : List Int), l.Nodup → (∀ x ∈ l, x ∈ m) → l.length ≤ m.length
  | [], m, _, _ => Nat.zero_le _
  | x :: l, m, hn, hs => by
    have hx := hs x (List.mem_cons_self ..)
    have h1 := nd_len l (m.erase x) (List.nodup_cons.1 hn).2 fun y hy => (List.mem_erase_of_ne (fun h => (List.nodup_cons.1 hn).1 (by rw [← h]; exact hy))).2 (hs y (List.mem_cons_of_mem _ hy))
    have h2 := List.length_erase_of_mem hx
    have h3 := List.length_pos_of_mem hx
    rw [List.length_cons]; omega
/-- reached from v through th -/
inductive RV (nbr : Int → List Int) (th : List Int) (v : Int) : Int → Prop
  | one {u : Int} : u ∈ nbr v → RV nbr th v u
  | step {t u : Int} : RV nbr th v t → t ∈ th → u ∈ nbr t → RV nbr th v u
def addN (s : List Int) (x : Int) : List Int := if x ∈ s then s else s ++ [x]
def addL (s l : List Int) : List Int := l.foldl addN s
theorem addN_ex (s : List Int) (x : Int) : ∃ t, addN s x = s ++ t := by
  unfold addN; split
  · exact ⟨[], (List.append_nil _).symm⟩
  · exact ⟨[x], rfl⟩
theorem addL_ex : ∀ (l s : List Int), ∃ t, addL s l = s ++ t
  | [], s => ⟨[], (List.append_nil _).symm⟩
  | x :: l, s => by
    obtain ⟨t, h⟩ := addN_ex s x
    obtain ⟨t', h'⟩ := addL_ex l (addN s x)
    exact ⟨t ++ t', by rw [← List.append_assoc, ← h]; exact h'⟩
theorem mem_addN {s : List Int} {x y : Int} : y ∈ addN s x ↔ y ∈ s ∨ y = x := by
  unfold addN; split
  · rename_i h
    exact ⟨.inl, fun hh => hh.elim id fun e => e ▸ h⟩
  · rw [List.mem_append, List.mem_singleton]
theorem mem_addL {y : Int} : ∀ (l s : List Int), y ∈ addL s l ↔ y ∈ s ∨ y ∈ l
  | [], s => by simp [addL]
  | x :: l, s => by
    rw [show addL s (x :: l) = addL (addN s x) l from rfl, mem_addL l, mem_addN, List.mem_cons, or_assoc]
theorem addN_nd {s : List Int} {x : Int} (h : s.Nodup) : (addN s x).Nodup := by
  unfold addN; split
  · exact h
  · rename_i hx
    rw [List.nodup_append]
    exact ⟨h, by simp, fun a ha b hb e => hx (by rw [List.mem_singleton] at hb; rw [← hb, ← e]; exact ha)⟩
theorem addL_nd : ∀ (l s : List Int), s.Nodup → (addL s l).Nodup
  | [], s, h => h
  | x :: l, s, h => addL_nd l _ (addN_nd h)
structure RcI (ids : List Int) (nbr : Int → List Int) (th : List Int) (v : Int) (sn : List Int) (k : Nat) : Prop where
  nd : sn.Nodup
  vin : v ∈ sn
  sub : ∀ x ∈ sn, x ∈ ids
  rch : ∀ x ∈ sn, x = v ∨ RV nbr th v x
  cl : ∀ j, j < k → ∀ x, sn[j]? = some x → (x = v ∨ x ∈ th) → ∀ y ∈ nbr x, y ∈ sn
section
variable {ids th sn : List Int} {nbr : Int → List Int} {v x : Int} {k : Nat}
theorem RcI.len (h : RcI ids nbr th v sn k) : sn.length ≤ ids.length := nd_len _ _ h.nd h.sub
theorem RcI.zero (hv : v ∈ ids) : RcI ids nbr th v [v] 0 :=
  ⟨by simp, by simp, fun x hx => by rw [List.mem_singleton.1 hx]; exact hv, fun x hx => .inl (List.mem_singleton.1 hx), fun j hj => by omega⟩
theorem RcI.skip (h : RcI ids nbr th v sn k) (hx : sn[k]? = some x) (hn : ¬(x = v ∨ x ∈ th)) : RcI ids nbr th v sn (k + 1) :=
  ⟨h.nd, h.vin, h.sub, h.rch, fun j hj y hy hyy => by
    by_cases hjk : j = k
    · subst hjk; rw [hx] at hy; cases hy; exact absurd hyy hn
    · exact h.cl j (by omega) y hy hyy⟩
theorem RcI.step (h : RcI ids nbr th v sn k) (hs : ∀ a, ∀ y ∈ nbr a, y ∈ ids) (hx : sn[k]? = some x) (hn : x = v ∨ x ∈ th) : RcI ids nbr th v (addL sn (nbr x)) (k + 1) := by
  obtain ⟨t, ht⟩ := addL_ex (nbr x) sn
  have hkl : k < sn.length := (List.getElem?_eq_some_iff.1 hx).1
  refine ⟨addL_nd _ _ h.nd, (mem_addL _ _).2 (.inl h.vin), fun y hy => ?_, fun y hy => ?_, fun j hj y hy hyy z hz => ?_⟩
  · exact ((mem_addL _ _).1 hy).elim (h.sub y) (hs x y)
  · rcases (mem_addL _ _).1 hy with hy | hy
    · exact h.rch y hy
    · rcases h.rch x (List.mem_of_getElem? hx) with rfl | hr
      · exact .inr (.one hy)
      · rcases hn with rfl | hn
        · exact .inr (.one hy)
        · exact .inr (.step hr hn hy)
  · rw [ht, List.getElem?_append_left (by omega)] at hy
    by_cases hjk : j = k
    · subst hjk; rw [hx] at hy; cases hy; exact (mem_addL _ _).2 (.inr hz)
    · exact (mem_addL _ _).2 (.inl (h.cl j (by omega) y hy hyy z hz))
theorem RcI.done (h : RcI ids nbr th v sn k) (hk : sn.length ≤ k) : x ∈ sn ↔ x = v ∨ RV nbr th v x := by
  have hc : ∀ a ∈ sn, (a = v ∨ a ∈ th) → ∀ y ∈ nbr a, y ∈ sn := fun a ha => by
    obtain ⟨j, hj, hja⟩ := List.getElem_of_mem ha
    exact h.cl j (by omega) a (by rw [List.getElem?_eq_getElem hj, hja])
  refine ⟨h.rch x, ?_⟩
  rintro (rfl | hr)
  · exact h.vin
  · induction hr with
    | one h1 => exact hc _ h.vin (.inl rfl) _ h1
    | step _ ht hu ih => exact hc _ ih (.inr ht) _ hu
end
end Go.Mono

namespace Go.Mono
open Go Go.Proofs Go.RowKit Go.Gr

end Go.Mono

namespace Go.Mono
open Go Go.Proofs Go.RowKit Go.Gr

section
variable {g : GT}
theorem nb_symm (G : Gr.Ok g) : ∀ i j : Nat, (nbA g (i : Int)).getLsbD j = true → (nbA g (j : Int)).getLsbD i = true := fun i j h => (nbA_bit G).2 ((nbA_bit G).1 h).symm
theorem widL_ge (nb : Int → BS) : ∀ (l : List Nat) (S : BS), -1 ≤ widL nb S l
  | [], S => Int.le_refl _
  | v :: l, S => by have := widL_ge nb l (ins S (v : Int)); rw [widL]; omega
end
end Go.Mono

namespace Go.Mono
open Go Go.RowKit
theorem run_equalIn_pp {P : Program} (w : World) (d : Nat) (t : TypeId) (p q : Option Addr) (h : P.underlying t = some (.pointer (P.pointee t))) (hpq : p = none ∨ q = none) : (Op.equalIn (d + 1) t (.pointer p) (.pointer q)).run P w = .ok (p.isNone && q.isNone) w := by
  rcases hpq with rfl | rfl
  · cases q <;> simp [Op.equalIn, run_underlying h]
  · cases p <;> simp [Op.equalIn, run_underlying h]
theorem run_equal_pp {P : Program} (w : World) (t : TypeId) (p q : Option Addr) (h : P.underlying t = some (.pointer (P.pointee t))) (hpq : p = none ∨ q = none) : (Op.equal t (.pointer p) (.pointer q)).run P w = .ok (p.isNone && q.isNone) w := run_equalIn_pp w 9999 t p q h hpq
theorem eqlPP {P : Program} {w0 : World} {L : Env} {dst : Option Tmp} {ty : TypeId} {pos : String} {aft : Array Edge} {g : Option (Nat × Bool)} {x y : Operand} {t yt pe : TypeId} {p q : Option Addr} (ht0 : P.underlying t = some (.pointer pe)) (hx : opd L x = some (E (.pointer p))) (hy : opd L y = some (E (.pointer q))) (hpq : p = none ∨ q = none) :
    OpC P w0 L ⟨dst, .binOp .eql t x y yt, ty, pos, aft, g⟩ (E (.bool (p.isNone && q.isNone))) :=
  opc_eql hx hy (fun w => rfl) rfl fun w _ => run_equal_pp w t p q (ptee ht0) hpq
end Go.Mono

namespace Go.Mono
open Go Go.Proofs Go.RowKit Go.Gr
theorem diff_zero (V : BS) (i : Nat) : (V &&& ~~~(0 : BS)).getLsbD i = true ↔ V.getLsbD i = true := by
  rw [bit_diff]
  exact ⟨fun h => h.1, fun h => ⟨h, bit_zero i⟩⟩
theorem diff_zero' (V : BS) : V &&& ~~~(0 : BS) = V := set_ext' (diff_zero V)
section
variable {g : GT}
theorem widO_ok (G : Gr.Ok g) (hl : g.1.length ≤ 12) : (widO g).Nodup ∧ (∀ i, i ∈ widO g ↔ (vset g.1).getLsbD i = true) ∧ widL (nbA g) 0 (widO g) = rsR (nbA g) (vset g.1) 0 := by
  have hs := sml_ok G hl (all := vset g.1) fun i h => h
  have hb := rsR_bd (nb := nbA g) (all := vset g.1) 0
  obtain ⟨h1, h2, h3⟩ := grF_ok hs hb.1 (card (vset g.1)) 0 (by rw [diff_zero']) (Int.le_refl _)
  have h2' : ∀ i, i ∈ widO g ↔ (vset g.1).getLsbD i = true := fun i => by rw [widO, h2, diff_zero]
  have h4 := rsR_low (nb := nbA g) (all := vset g.1) (widO g) 0 h1 fun i => by rw [h2', diff_zero]
  refine ⟨h1, h2', ?_⟩
  have h3' : widL (nbA g) 0 (widO g) ≤ rsR (nbA g) (vset g.1) 0 := h3
  omega
theorem natL_bit (l : List Nat) (hl : ∀ v ∈ l, v < 1024) (i : Nat) : ((natL l).foldl ins 0).getLsbD i = true ↔ i ∈ l := by
  by_cases hi : i < 1024
  · rw [foldl_ins_bit i hi, Bool.or_eq_true, decide_eq_true_eq, natL, List.mem_map]
    constructor
    · rintro (h | ⟨v, hv, h⟩)
      · exact absurd h (bit_zero i)
      · rwa [show i = v by omega]
    · intro h; exact .inr ⟨i, h, rfl⟩
  · exact ⟨fun h => absurd (bit_lt h) hi, fun h => absurd (hl i h) hi⟩
end
end Go.Mono

namespace Go.Mono
open Go Go.Proofs Go.RowKit

def natE (l : List Nat) : List Int := l.map fun i : Nat => (i : Int)
structure AqJ (W : World) (N b2 B : Nat) (s : List Nat) (w : World) : Prop where
  e : Ext W w
  t : Tab w
  p : ∃ u, Blk w b2 #[u] 26 ∧ OwR intE 3 N Go.Mono.G0 w (natE s) u ∧ ∀ g, u.ownBlock = some g → ¬Hole B g
theorem AqJ.kp {W : World} {N b2 B : Nat} {s : List Nat} {w w' : World} (h : AqJ W N b2 B s w) (k : Kp B w w') (hW : W.heap.size ≤ B) (h0 : 0 < B) (l2 : b2 < B) : AqJ W N b2 B s w' := by
  obtain ⟨u, q1, q2, q3⟩ := h.p
  exact ⟨h.e.kp k hW, h.t.kp k h0, ⟨u, q1.kp k (fun hh => by have := hh.1; omega), q2.chE k.chg q3, q3⟩⟩
theorem appendSeq_spec (S : BS) (b : Nat) (W : World) (hT : Tab W) (hb : Blk W b (setC S) 39) :
    Calls Tryz.prog 96 #[.slice none 0 0, seqV b] W (Post (OwA intE 3 W.heap.size Go.Mono.G0 (natE (elems S))) W) := by
  have hT0 := hT.lt
  refine enterM (args := [.slice none 0 0, seqV b]) (As := [E (.slice none 0 0), E (seqV b)]) Tryz.func96 rfl Tryz.ntmps96 (Nat.le_of_ble_eq_true rfl) ?_ (fun a hf => ?_) (Nat.le_of_ble_eq_true rfl)
  · exact arg2 rfl rfl
  dsimp only [params, Nat.reduceAdd] at hf
  have e := Ext.rfl' W
  repeat refine seq ?_
  refine regn0 ?_
  refine tl_box hf rfl (by decide) fun a b2 w v2 hv2 e' hb2 hs2 B2 hf => ?_
  have hle2 := Nat.le_trans e.size (Nat.le_of_eq hb2.symm)
  replace hT := hT.ext e'
  replace e := Ext.tr e e'
  replace hb := hb.ext e'
  clear e'
  refine tl_as hf rfl (by decide) fun a hf => ?_
  refine tl_nil ?_
  cases hv2
  replace B2 : Blk w b2 #[.slice none 0 0] 26 := B2
  replace hf := hf.keep [1, 2]
  dsimp only [keep, List.filterMap, look, Nat.beq, Option.map] at hf
  repeat refine seq ?_
  refine regn 1 hf (by decide +kernel) ?_
  refine st (mv rfl) ?_
  refine en fun a w e' hf => ?_
  replace hT := hT.ext e'
  replace e := Ext.tr e e'
  replace hb := hb.ext e'
  replace B2 := B2.ext e'
  clear e'
  refine tl_nil ?_
  replace hf := hf.keep [2, 6]
  dsimp only [keep, List.filterMap, look, Nat.beq, Option.map] at hf
  have n2 : W.heap.size ≤ b2 := hle2
  have hBW : W.heap.size ≤ w.heap.size := e.size
  have h0w : 0 < w.heap.size := hT.lt
  have l2 := B2.lt
  have hel := elems_len S
  obtain ⟨N, hN⟩ : ∃ N, N = w.heap.size := ⟨_, rfl⟩
  have hNs : N ≤ w.heap.size := Nat.le_of_eq hN
  have l2N : b2 < N := by omega
  have hWN : W.heap.size ≤ N := by omega
  clear hN
  repeat refine seq ?_
  refine blk ?_
  refine range_all3 (S := S) hf rfl hb (by decide) (fun s w1 => AqJ W N b2 w.heap.size s w1) (fun _ _ => False) (fun s w1 h => h.t)
    ⟨e, hT, ⟨_, B2, OwR.nil intE _ hNs (fun b hb => hb.elim), fun g hg => by cases hg⟩⟩ (fun s w1 w2 h hs k => h.kp k hBW h0w l2) (fun _ _ _ h => h.elim) ?_ ?_ (fun _ _ _ _ _ _ h => h.elim)
  · intro lp s x rest a1 w1 hs hJ hlw hf
    have hsl : s.length ≤ 1024 := by rw [hs] at hel; simp at hel; omega
    generalize hBz : w.heap.size = Bz at *
    refine regn0 ?_
    refine tl_as hf rfl (by decide) fun a hf => ?_
    refine tl_nil ?_
    simp only [Exit.then]
    refine ⟨Kh.rfl' _ _, fun w3 k3 hsz3 => ?_⟩
    have hJ3 := hJ.kp k3 hBW h0w l2
    have hw3 : Bz + 3 ≤ w3.heap.size := by omega
    clear e hT B2 hb
    replace hf := hf.pure w3
    obtain ⟨e, hT, ⟨u, B2, Ho, lH⟩⟩ := hJ3
    have kh := Kh.rfl' Bz w3
    replace hf := hf.keep [2, 5]
    dsimp only [keep, List.filterMap, look, Nat.beq, Option.map] at hf
    repeat refine seq ?_
    refine blk ?_
    have hln : (natE s).length = s.length := by simp [natE]
    repeat refine seq ?_
    refine regn 3 hf (by decide +kernel) ?_
    refine st (ld1 (v := u) T26 rfl B2 rfl) ?_
    refine st (mv rfl) ?_
    refine st (bsl1 Tryz.underlying26 I3 rfl (by decide) rfl Ho.avs (isI rfl)) ?_
    refine en fun a w e' hf => ?_
    replace hT := hT.ext e'
    replace kh := kh.tr (Kh.ext e')
    replace hw3 := Nat.le_trans hw3 e'.size
    replace e := Ext.tr e e'
    replace B2 := B2.ext e'
    replace Ho := Ho.ext e'
    clear e'
    have hrow : ∀ b, u.ownBlock = some b → N ≤ b := fun b hb => (Ho.lt hb).1
    refine tl_app Tryz.underlying26 I3 rfl rfl hf (by decide) rfl Ho (isR rfl) (by rw [hln, List.length_singleton]; omega) (by rw [hln, List.length_singleton]; simp only [maxLen]; omega) fun a u' w hg hat Hn hf => ?_
    replace B2 := B2.gro hg (Ho.neB B2 (by decide))
    replace e := e.gro hg (fun b hb => by have := hrow b hb; omega)
    replace hT := hT.gro hg (fun b hb => by have := hrow b hb; omega)
    replace kh := kh.tr (Kh.gro hg lH)
    have lH' := own_hole hat lH hw3
    have z2 : u'.ownBlock ≠ some b2 := Hn.neB B2 (by decide)
    have hone := Hn.one
    clear Ho hg hat lH hrow
    replace hf := hf.keep [2, 5, 11]
    dsimp only [keep, List.filterMap, look, Nat.beq, Option.map] at hf
    refine tl_st1 T26 hf rfl rfl hone B2 Nat.zero_lt_one fun w hg hsz B2 hf => ?_
    replace B2 : Blk w b2 #[u'] 26 := B2
    replace e := e.gr hg (by omega)
    replace hT := hT.gr hg (by omega)
    replace kh := kh.tr (Kh.gr hg (fun hh => by have := hh.1; omega))
    replace Hn := Hn.grE hg z2
    clear hg
    refine tl_nil ?_
    simp only [Exit.inBlock]
    exact ⟨⟨e, hT, ⟨u', B2, by rw [natE, List.map_append]; exact Hn, lH'⟩⟩, kh⟩
  · intro a' w' hf' hJ hsz hDn
    simp only [Exit.inBlock, ↓reduceIte, Exit.then]
    have hD : Ds [w.heap.size] w' := (Ds.nil w').cons hDn (by simp)
    have hf : FrD 13 (marks [w.heap.size]) a' w' [(2, E (ptr b2))] := hf'.keep [2]
    have hDW : ∀ d ∈ [w.heap.size], W.heap.size ≤ d := fun d hd => by rw [List.mem_singleton] at hd; omega
    clear hf' e hT B2 hb hDn
    obtain ⟨e, hT, ⟨u, B2, Ho, _⟩⟩ := hJ
    generalize [w.heap.size] = D2 at *
    generalize w' = w at *
    repeat refine seq ?_
    refine regn 1 hf (by decide +kernel) ?_
    refine st (ld1 (v := u) T26 rfl B2 rfl) ?_
    refine en fun a w e' hf => ?_
    replace e := Ext.tr e e'
    replace B2 := B2.ext e'
    replace hD := hD.ext e'
    replace Ho := Ho.ext e'
    clear e'
    refine tl_as hf rfl (by decide) fun a hf => ?_
    refine tl_nil ?_
    refine wret ?_
    try simp only [Exit.then, Exit.inBlock]
    refine ret1M rfl hf rfl hD ⟨_, rfl, e.shut hDW, ?_⟩
    exact (Ho.chE (chg_shut D2 w) fun b hb hm => Ho.neDs hD hm hb).low hWN fun b hb => hb.elim
end Go.Mono

namespace Go.Mono
open Go Go.Proofs Go.RowKit

/-- blocks and what they hold -/
def BlkL (w : World) : List (Nat × Array Value × TypeId) → Prop
  | [] => True
  | x :: K => Blk w x.1 x.2.1 x.2.2 ∧ BlkL w K
def LtL (B : Nat) : List (Nat × Array Value × TypeId) → Prop
  | [] => True
  | x :: K => x.1 < B ∧ LtL B K
theorem BlkL.kp {B : Nat} {w w' : World} (k : Kp B w w') : ∀ {K : List (Nat × Array Value × TypeId)}, BlkL w K → LtL B K → BlkL w' K
  | [], _, _ => trivial
  | x :: K, h, l => ⟨h.1.kp k (fun hh => by have := hh.1; have := l.1; omega), BlkL.kp k h.2 l.2⟩
theorem BlkL.lt {w : World} : ∀ {K : List (Nat × Array Value × TypeId)}, BlkL w K → LtL w.heap.size K
  | [], _ => trivial
  | x :: K, h => ⟨h.1.lt, BlkL.lt h.2⟩
/-- what holds between the rounds of a loop over a set -/
structure RJ (W : World) (fs : List BS) (fv : Value) (K : List (Nat × Array Value × TypeId)) (D : List Nat) (w : World) : Prop where
  e : Ext W w
  t : Tab w
  hv : (Dv (slE setE) (GB W Go.Mono.G0) fs).p fv w
  bl : BlkL w K
  ds : Ds D w
theorem RJ.kp {W : World} {fs : List BS} {fv : Value} {K : List (Nat × Array Value × TypeId)} {D : List Nat} {B : Nat} {w w' : World} (h : RJ W fs fv K D w) (k : Kp B w w') (hW : W.heap.size ≤ B) (h0 : 0 < B) (hK : LtL B K) (hD : ∀ d ∈ D, d < B) : RJ W fs fv K D w' :=
  ⟨h.e.kp k hW, h.t.kp k h0, Dv.ch h.hv k.chg (fun b hb => .inr (by have := hb.1; omega)), h.bl.kp k hK, h.ds.ch k.chg fun d hd hh => by have := hh.1; have := hD d hd; omega⟩

def outTo (fs : List BS) (s : List Nat) : BS := s.foldl (fun r n => r ||| sg fs n) 0
def outM (fs : List BS) (part : BS) : BS := outTo fs (elems part) &&& ~~~part

end Go.Mono

namespace Go.Mono

/-- the parts that are left without a bag -/
def partsB (fs : List BS) (left : BS) : List BS := (splitF fs (1 + fs.length) left).getD []
def mostB (fs : List BS) (part : BS) (n : Nat) : Nat := (partsB fs (del part (n : Int))).foldl (fun m C => max m (card C)) 0
def cenStep (fs : List BS) (part : BS) (s : Int × Int) (n : Nat) : Int × Int := if s.1 < 0 ∨ (mostB fs part n : Int) < s.2 then ((n : Int), (mostB fs part n : Int)) else s
def cenTo (fs : List BS) (part : BS) (s : List Nat) : Int × Int := s.foldl (cenStep fs part) (-1, 0)
def cenB (fs : List BS) (part : BS) : Nat := (cenTo fs part (elems part)).1.toNat

def pathF (fs : List BS) (part : BS) (to : Nat) : Nat → BS → Nat → Option BS
  | 0, r, x => if x = to then some r else none
  | f + 1, r, x => if x = to then some r else
      oEl ((elems ((sg fs x &&& part) &&& ~~~r)).find? fun n => (compB fs (del part (x : Int)) n).getLsbD to) none fun n => pathF fs part to f (ins r (n : Int)) n
def pathB (fs : List BS) (part : BS) (x y : Nat) : BS := (pathF fs part y (1 + fs.length) (ins 0 (x : Int)) x).getD 0

/-- the bag of a part that is next to a bag outside -/
def endB (fs : List BS) (part : BS) (n : Nat) : Nat := (minOf (sg fs n &&& part)).getD 0
def splP (fs : List BS) (part between : BS) (c n : Nat) : Bool := between.getLsbD n && decide (card (pathB fs part c n &&& between) = 1)
def splB (fs : List BS) (part out : BS) : Nat :=
  if card out < 2 then cenB fs part
  else match (elems out).map (endB fs part) with
    | e0 :: e1 :: _ => ((elems (pathB fs part (cenB fs part) e0)).find? (splP fs part (pathB fs part e0 e1) (cenB fs part))).getD (cenB fs part)
    | _ => cenB fs part

section
variable {fs : List BS} {T : Tr} {part : BS}

/-! ### paths -/
theorem P_adj {x k i : Nat} (hx : x < T.n) (hk : k < T.n) (h : T.adj k x) (hP : T.P i x k) : i = x ∨ i = k := by
  apply Classical.byContradiction
  intro hn
  exact hP (Tr.cn.of_adj hx hk ⟨hx, fun e => hn (.inl e.symm)⟩ ⟨hk, fun e => hn (.inr e.symm)⟩ h.symm)
theorem find_one {p : Nat → Bool} {k : Nat} : ∀ {l : List Nat}, k ∈ l → p k = true → (∀ n ∈ l, p n = true → n = k) → l.find? p = some k
  | [], h, _, _ => by cases h
  | x :: l, h, hk, h1 => by
    rw [List.find?_cons]
    cases hx : p x with
    | true => rw [h1 x (by simp) hx]
    | false =>
      rcases List.mem_cons.1 h with rfl | h
      · rw [hk] at hx; cases hx
      · exact find_one h hk fun n hn => h1 n (by simp [hn])
theorem path_next (F : Fo fs T) (hin : ∀ i, part.getLsbD i = true → i < T.n) (hC : T.conn (bits part)) {x y z : Nat} {r : BS} (hx : part.getLsbD x = true) (hy : part.getLsbD y = true) (hz : part.getLsbD z = true) (hr : ∀ i, r.getLsbD i = true ↔ T.P i x z) (hP : T.P z x y) (hne : z ≠ y) :
    ∃ k, (elems ((sg fs z &&& part) &&& ~~~r)).find? (fun n => (compB fs (del part (z : Int)) n).getLsbD y) = some k ∧ part.getLsbD k = true ∧ (∀ i, (ins r (k : Int)).getLsbD i = true ↔ T.P i x k) ∧ T.P k x y ∧ T.dist k y < T.dist z y := by
  have hxn := hin x hx
  have hyn := hin y hy
  have hzn := hin z hz
  have hle := F.le
  obtain ⟨k, k1, k2⟩ := Tr.hop hC hzn hyn hz hy (Ne.symm hne)
  have hkp : part.getLsbD k = true := k2.2.2.1.1
  have hkn := k2.1
  have hV : T.cn (Tr.wo (fun i => i < T.n) z) k y := k2.mono fun i hi h => ⟨hi, h.2⟩
  have p1 : T.P k z y := Tr.hop_P hzn k1 hV
  have p2 : T.P k x y := hP.sub' p1
  have p3 : T.P z x k := (hP.split k).resolve_right fun h => h hV
  have hkz : k ≠ z := k2.2.2.1.2
  have hdel : ∀ i, (del part (z : Int)).getLsbD i = true ↔ part.getLsbD i = true ∧ i ≠ z := fun i => bit_del part (by omega)
  have hbits : (bits (del part (z : Int))) = Tr.wo (bits part) z := by funext i; exact propext (hdel i)
  have hind : ∀ i, (del part (z : Int)).getLsbD i = true → i < T.n := fun i hi => hin i ((hdel i).1 hi).1
  have hcand : ∀ n, n ∈ elems ((sg fs z &&& part) &&& ~~~r) ↔ T.adj z n ∧ part.getLsbD n = true ∧ ¬r.getLsbD n = true := fun n => by
    rw [mem_elems, bit_diff, bit_and, F.adj hzn]
    constructor
    · rintro ⟨_, ⟨⟨_, h1⟩, h2⟩, h3⟩; exact ⟨h1, h2, h3⟩
    · rintro ⟨h1, h2, h3⟩; exact ⟨bit_lt h2, ⟨⟨hin n h2, h1⟩, h2⟩, h3⟩
  have hcmp : ∀ n, T.adj z n → part.getLsbD n = true → ((compB fs (del part (z : Int)) n).getLsbD y = true ↔ T.cn (Tr.wo (bits part) z) n y) := fun n hn hp => by
    have hnd : (del part (z : Int)).getLsbD n = true := (hdel n).2 ⟨hp, fun e => (hn.ne hzn) e.symm⟩
    rw [(comp_some F hind hnd).2 y, hbits]
  refine ⟨k, find_one ((hcand k).2 ⟨k1.symm, hkp, fun h => hkz (Tr.P.meet hxn hyn hP ((hr k).1 h) p1)⟩) ((hcmp k k1.symm hkp).2 k2) (fun n hn hpn => ?_), hkp, fun i => ?_, p2, ?_⟩
  · obtain ⟨h1, h2, _⟩ := (hcand n).1 hn
    exact Tr.hop_one hzn h1.symm k1 (((hcmp n h1 h2).1 hpn).trans k2.symm)
  · rw [bit_ins r (by omega), hr]
    constructor
    · rintro (h | rfl)
      · exact p3.sub h
      · exact Tr.P.right
    · intro h
      rcases h.split z with h | h
      · exact .inl h
      · rcases P_adj hzn hkn k1 h with rfl | rfl
        · exact .inl Tr.P.right
        · exact .inr rfl
  · exact Tr.dist_lt hzn (fun u _ hu => p1.sub' hu) Tr.P.left fun h => h hV
theorem pathF_ok (F : Fo fs T) (hin : ∀ i, part.getLsbD i = true → i < T.n) (hC : T.conn (bits part)) {x y : Nat} (hx : part.getLsbD x = true) (hy : part.getLsbD y = true) : ∀ (f : Nat) (r : BS) (z : Nat), part.getLsbD z = true → (∀ i, r.getLsbD i = true ↔ T.P i x z) → T.P z x y → T.dist z y ≤ f →
    ∃ Z, pathF fs part y f r z = some Z ∧ ∀ i, Z.getLsbD i = true ↔ T.P i x y := by
  intro f
  induction f with
  | zero =>
    intro r z hz hr hP hd
    by_cases h : z = y
    · subst h; exact ⟨r, by rw [pathF, if_pos rfl], hr⟩
    · obtain ⟨k, _, _, _, _, h5⟩ := path_next F hin hC hx hy hz hr hP h
      omega
  | succ f ih =>
    intro r z hz hr hP hd
    by_cases h : z = y
    · subst h; exact ⟨r, by rw [pathF, if_pos rfl], hr⟩
    · obtain ⟨k, h1, h2, h3, h4, h5⟩ := path_next F hin hC hx hy hz hr hP h
      obtain ⟨Z, h6, h7⟩ := ih _ k h2 h3 h4 (by omega)
      exact ⟨Z, by rw [pathF, if_neg h, h1, oEl]; exact h6, h7⟩
theorem dist_le (x y : Nat) : T.dist x y ≤ T.n := by
  unfold Tr.dist
  have := List.countP_le_length (p := fun z => @decide (T.P z x y) (Classical.propDecidable _)) (l := List.range T.n)
  rwa [List.length_range] at this
theorem P_self {i x : Nat} (hx : x < T.n) : T.P i x x ↔ i = x := by
  constructor
  · intro h
    apply Classical.byContradiction
    intro hn
    exact h (Tr.cn.refl hx ⟨hx, Ne.symm hn⟩)
  · rintro rfl; exact Tr.P.left
theorem path_some (F : Fo fs T) (hin : ∀ i, part.getLsbD i = true → i < T.n) (hC : T.conn (bits part)) {x y : Nat} (hx : part.getLsbD x = true) (hy : part.getLsbD y = true) :
    pathF fs part y (1 + fs.length) (ins 0 (x : Int)) x = some (pathB fs part x y) ∧ ∀ i, (pathB fs part x y).getLsbD i = true ↔ T.P i x y := by
  have hle := F.le
  have hd := dist_le (T := T) x y
  obtain ⟨Z, h1, h2⟩ := pathF_ok F hin hC hx hy (1 + fs.length) (ins 0 (x : Int)) x hx (fun i => by
    rw [bit_ins 0 (by have := hin x hx; omega), P_self (hin x hx)]
    exact ⟨fun h => h.resolve_left (bit_zero i), .inr⟩) Tr.P.left (by have := F.len; omega)
  have : pathB fs part x y = Z := by rw [pathB, h1]; rfl
  rw [this]
  exact ⟨h1, h2⟩
theorem path_in (F : Fo fs T) (hin : ∀ i, part.getLsbD i = true → i < T.n) (hC : T.conn (bits part)) {x y i : Nat} (hx : part.getLsbD x = true) (hy : part.getLsbD y = true) (h : (pathB fs part x y).getLsbD i = true) : part.getLsbD i = true :=
  Tr.P.mem hC (hin x hx) (hin y hy) hx hy (((path_some F hin hC hx hy).2 i).1 h)

/-! ### parts -/
theorem del_in (hin : ∀ i, part.getLsbD i = true → i < T.n) (z : Int) : ∀ i, (del part z).getLsbD i = true → i < T.n := fun i h => by
  unfold del at h
  split at h
  · exact hin i ((bit_diff _ _ i).1 h).1
  · exact hin i h
theorem parts_some (F : Fo fs T) {left : BS} (hin : ∀ i, left.getLsbD i = true → i < T.n) : splitF fs (1 + fs.length) left = some (partsB fs left) ∧ (partsB fs left).length ≤ card left ∧ (∀ C ∈ partsB fs left, ∃ k, left.getLsbD k = true ∧ C = compB fs left k) ∧ ∀ k, left.getLsbD k = true → compB fs left k ∈ partsB fs left := by
  have hle := F.le
  have := card_le_n hin
  obtain ⟨l, h1, h2⟩ := splitF_ok F (1 + fs.length) left hin (by have := F.len; omega)
  have e : partsB fs left = l := by rw [partsB, h1]; rfl
  rw [e]
  exact ⟨h1, h2⟩
/-! ### the centre -/
theorem cen_inv (fs : List BS) (part : BS) : ∀ (l : List Nat) (s : Int × Int), (0 ≤ s.1 → ∃ n : Nat, s.1 = (n : Int) ∧ s.2 = (mostB fs part n : Int)) →
    (l ≠ [] ∨ 0 ≤ s.1) → ∃ n : Nat, (l.foldl (cenStep fs part) s).1 = (n : Int) ∧ (n ∈ l ∨ s.1 = (n : Int)) ∧ (l.foldl (cenStep fs part) s).2 = (mostB fs part n : Int) ∧ (∀ m ∈ l, mostB fs part n ≤ mostB fs part m) ∧ (0 ≤ s.1 → (mostB fs part n : Int) ≤ s.2)
  | [], s, h, h0 => by
    have h1 := h0.resolve_left (by simp)
    obtain ⟨n, h2, h3⟩ := h h1
    exact ⟨n, h2, .inr h2, h3, by simp, fun _ => by omega⟩
  | m :: l, s, h, _ => by
    rw [List.foldl_cons]
    by_cases hc : s.1 < 0 ∨ (mostB fs part m : Int) < s.2
    · have e : cenStep fs part s m = ((m : Int), (mostB fs part m : Int)) := if_pos hc
      obtain ⟨n, h1, h2, h3, h4, h5⟩ := cen_inv fs part l (cenStep fs part s m) (fun _ => ⟨m, by rw [e], by rw [e]⟩) (.inr (by rw [e]; exact Int.natCast_nonneg m))
      have h5' := h5 (by rw [e]; exact Int.natCast_nonneg m)
      rw [e] at h5' h2
      refine ⟨n, h1, .inl ?_, h3, fun x hx => ?_, fun h0 => ?_⟩
      · rcases h2 with h2 | h2
        · exact List.mem_cons_of_mem _ h2
        · simp only at h2
          have : n = m := by omega
          subst this; simp
      · rcases List.mem_cons.1 hx with rfl | hx
        · simp only at h5'; omega
        · exact h4 x hx
      · simp only at h5'; omega
    · have e : cenStep fs part s m = s := if_neg hc
      have h0 : 0 ≤ s.1 := by omega
      have hs : ¬(mostB fs part m : Int) < s.2 := fun h => hc (.inr h)
      rw [e]
      obtain ⟨n, h1, h2, h3, h4, h5⟩ := cen_inv fs part l s h (.inr h0)
      have := h5 h0
      refine ⟨n, h1, h2.imp (List.mem_cons_of_mem _) id, h3, fun x hx => ?_, fun _ => this⟩
      rcases List.mem_cons.1 hx with rfl | hx
      · omega
      · exact h4 x hx
theorem cen_ok {p : Nat} (hp : part.getLsbD p = true) : part.getLsbD (cenB fs part) = true ∧ (cenTo fs part (elems part)).1 = (cenB fs part : Int) ∧ ∀ m, part.getLsbD m = true → mostB fs part (cenB fs part) ≤ mostB fs part m := by
  have hpe := mem_elems.2 ⟨bit_lt hp, hp⟩
  obtain ⟨n, h1, h2, h3, h4, _⟩ := cen_inv fs part (elems part) (-1, 0) (fun h => by simp at h) (.inl (List.ne_nil_of_mem hpe))
  have e : cenB fs part = n := by
    show (List.foldl (cenStep fs part) (-1, 0) (elems part)).1.toNat = n
    rw [h1]; exact Int.toNat_natCast n
  rw [e]
  refine ⟨?_, h1, fun m hm => h4 m (mem_elems.2 ⟨bit_lt hm, hm⟩)⟩
  rcases h2 with h2 | h2
  · exact (mem_elems.1 h2).2
  · simp only at h2; omega
end
end Go.Mono

namespace Go.Mono

section
variable {fs : List BS} {T : Tr} {part : BS}

theorem outTo_bit (i : Nat) : ∀ (s : List Nat) (r : BS), (s.foldl (fun r n => r ||| sg fs n) r).getLsbD i = true ↔ r.getLsbD i = true ∨ ∃ n ∈ s, (sg fs n).getLsbD i = true
  | [], r => by simp
  | n :: s, r => by
    rw [List.foldl_cons, outTo_bit i s, bit_or]
    constructor
    · rintro ((h | h) | ⟨m, hm, h⟩)
      · exact .inl h
      · exact .inr ⟨n, by simp, h⟩
      · exact .inr ⟨m, by simp [hm], h⟩
    · rintro (h | ⟨m, hm, h⟩)
      · exact .inl (.inl h)
      · rcases List.mem_cons.1 hm with rfl | hm
        · exact .inl (.inr h)
        · exact .inr ⟨m, hm, h⟩
theorem out_bit (F : Fo fs T) (hin : ∀ i, part.getLsbD i = true → i < T.n) (i : Nat) : (outM fs part).getLsbD i = true ↔ i < T.n ∧ ¬part.getLsbD i = true ∧ ∃ j, part.getLsbD j = true ∧ T.adj j i := by
  rw [outM, bit_diff, outTo, outTo_bit]
  constructor
  · rintro ⟨h | ⟨j, hj, h⟩, h2⟩
    · exact absurd h (bit_zero i)
    · have hj' := (mem_elems.1 hj).2
      have := (F.adj (hin j hj')).1 h
      exact ⟨this.1, h2, j, hj', this.2⟩
  · rintro ⟨h1, h2, j, hj, h⟩
    exact ⟨.inr ⟨j, mem_elems.2 ⟨bit_lt hj, hj⟩, (F.adj (hin j hj)).2 ⟨h1, h⟩⟩, h2⟩
/-- the end of the part beside a bag outside -/
theorem end_ok (F : Fo fs T) (hin : ∀ i, part.getLsbD i = true → i < T.n) (hC : T.conn (bits part)) {b : Nat} (hb : (outM fs part).getLsbD b = true) :
    part.getLsbD (endB fs part b) = true ∧ T.adj (endB fs part b) b ∧ ∀ j, part.getLsbD j = true → T.adj j b → j = endB fs part b := by
  obtain ⟨hbn, hbp, j, hj, hjb⟩ := (out_bit F hin b).1 hb
  have hbit : (sg fs b &&& part).getLsbD j = true := (bit_and _ _ j).2 ⟨(F.adj hbn).2 ⟨hin j hj, hjb.symm⟩, hj⟩
  obtain ⟨k, hk, _⟩ := minOf_is hbit
  have hk2 := (bit_and _ _ k).1 (minOf_mem hk)
  have e : endB fs part b = k := by rw [endB, hk]; rfl
  rw [e]
  have hkb : T.adj k b := ((F.adj hbn).1 hk2.1).2.symm
  exact ⟨hk2.2, hkb, fun x hx hxb => hC.nb hbn hbp (hin x hx) (hin k hk2.2) hx hk2.2 hxb hkb⟩
theorem card_two {S : BS} (h : ¬card S < 2) : ∃ a b l, elems S = a :: b :: l ∧ a ≠ b ∧ S.getLsbD a = true ∧ S.getLsbD b = true := by
  rw [← card_elems] at h
  have hn : (elems S).Nodup := List.Nodup.sublist List.filter_sublist List.nodup_range
  match hl : elems S with
  | [] => rw [hl] at h; simp at h
  | [a] => rw [hl] at h; simp at h
  | a :: b :: l =>
    rw [hl] at hn
    exact ⟨a, b, l, rfl, fun e => by subst e; simp at hn, (mem_elems.1 (by rw [hl]; simp)).2, (mem_elems.1 (by rw [hl]; simp)).2⟩
/-- what is asked of the splitter -/
structure Spl (fs : List BS) (T : Tr) (part : BS) (s : Nat) : Prop where
  mem : part.getLsbD s = true
  one : card (outM fs part) < 2 → s = cenB fs part
  two : ∀ {a b l}, elems (outM fs part) = a :: b :: l → T.P s (endB fs part a) (endB fs part b) ∧ T.P s (endB fs part a) (cenB fs part) ∧ T.P s (endB fs part b) (cenB fs part)
theorem card_sub_one {S : BS} {a b : Nat} (h : card S = 1) (ha : S.getLsbD a = true) (hb : S.getLsbD b = true) : a = b := by
  rw [← card_elems] at h
  match hl : elems S with
  | [] => rw [hl] at h; simp at h
  | [x] =>
    have h1 := mem_elems.2 ⟨bit_lt ha, ha⟩
    have h2 := mem_elems.2 ⟨bit_lt hb, hb⟩
    rw [hl] at h1 h2
    simp at h1 h2
    omega
  | x :: y :: l => rw [hl] at h; simp at h
/-- the one bag of the path between two bags that the search for the splitter takes -/
theorem near_card (F : Fo fs T) (hin : ∀ i, part.getLsbD i = true → i < T.n) (hC : T.conn (bits part)) {x y c m n : Nat} (hx : part.getLsbD x = true) (hy : part.getLsbD y = true) (hc : part.getLsbD c = true)
    (h1 : T.P m x y) (h2 : T.P m x c) (h3 : T.P m y c) (hn : part.getLsbD n = true) : splP fs part (pathB fs part x y) c n = true ↔ n = m := by
  have hxn := hin x hx
  have hyn := hin y hy
  have hcn := hin c hc
  have hm : part.getLsbD m = true := Tr.P.mem hC hxn hyn hx hy h1
  have pb := fun i => (path_some F hin hC hx hy).2 i
  rw [splP, Bool.and_eq_true, decide_eq_true_eq, pb]
  constructor
  · rintro ⟨h4, h5⟩
    have hmn : T.P m n c := Tr.near hxn hyn hcn h1 h2 h3 h4
    exact card_sub_one h5 ((bit_and _ _ n).2 ⟨((path_some F hin hC hc hn).2 n).2 Tr.P.right, (pb n).2 h4⟩) ((bit_and _ _ m).2 ⟨((path_some F hin hC hc hn).2 m).2 hmn.symm, (pb m).2 h1⟩)
  · rintro rfl
    refine ⟨h1, card_one (p := n) fun i => ?_⟩
    rw [bit_and, (path_some F hin hC hc hn).2 i, pb]
    constructor
    · rintro ⟨h4, h5⟩
      have := Tr.near hxn hyn hcn h1 h2 h3 h5
      exact (Tr.P.meet hcn (hin n hn) h4 this.symm Tr.P.right).symm
    · rintro rfl
      exact ⟨Tr.P.right, h1⟩
theorem spl_ok (F : Fo fs T) (hin : ∀ i, part.getLsbD i = true → i < T.n) (hC : T.conn (bits part)) {p : Nat} (hp : part.getLsbD p = true) : Spl fs T part (splB fs part (outM fs part)) := by
  obtain ⟨hc, _, _⟩ := cen_ok (fs := fs) hp
  by_cases hcard : card (outM fs part) < 2
  · have e : splB fs part (outM fs part) = cenB fs part := by rw [splB, if_pos hcard]
    rw [e]
    refine ⟨hc, fun _ => rfl, fun {a b l} h => ?_⟩
    have := card_elems (outM fs part)
    rw [h] at this
    simp at this
    omega
  · obtain ⟨a, b, l, he, hab, ha, hb⟩ := card_two hcard
    obtain ⟨a1, a2, a3⟩ := end_ok F hin hC ha
    obtain ⟨b1, b2, b3⟩ := end_ok F hin hC hb
    obtain ⟨m, m1, m2, m3⟩ := Tr.median (hin _ a1) (hin _ b1) (hin _ hc)
    have hm : part.getLsbD m = true := Tr.P.mem hC (hin _ a1) (hin _ b1) a1 b1 m1
    have hf : (elems (pathB fs part (cenB fs part) (endB fs part a))).find? (splP fs part (pathB fs part (endB fs part a) (endB fs part b)) (cenB fs part)) = some m := by
      have hpm : (pathB fs part (cenB fs part) (endB fs part a)).getLsbD m = true := ((path_some F hin hC hc a1).2 m).2 m2.symm
      refine find_one (mem_elems.2 ⟨bit_lt hpm, hpm⟩) ((near_card F hin hC a1 b1 hc m1 m2 m3 hm).2 rfl) fun n hn hpn => ?_
      have hn' := path_in F hin hC hc a1 (mem_elems.1 hn).2
      exact (near_card F hin hC a1 b1 hc m1 m2 m3 hn').1 hpn
    have e : splB fs part (outM fs part) = m := by
      rw [splB, if_neg hcard, he]
      simp only [List.map_cons, hf, Option.getD_some]
    rw [e]
    refine ⟨hm, fun h => absurd h hcard, fun {a' b' l'} h => ?_⟩
    rw [he] at h
    cases h
    exact ⟨m1, m2, m3⟩

/-! ### what is left of a part without a bag -/
structure Sub (fs : List BS) (T : Tr) (part : BS) (s : Nat) (C : BS) : Prop where
  ne : ∃ k, C.getLsbD k = true
  sub : ∀ i, C.getLsbD i = true → part.getLsbD i = true ∧ i ≠ s
  conn : T.conn (bits C)
  clo : ∀ i j, C.getLsbD i = true → part.getLsbD j = true → j ≠ s → T.adj i j → C.getLsbD j = true
theorem parts_sub (F : Fo fs T) (hin : ∀ i, part.getLsbD i = true → i < T.n) {s : Nat} (hs : s < T.n) {C : BS} (h : C ∈ partsB fs (del part (s : Int))) : Sub fs T part s C := by
  have hle := F.le
  have hdel : ∀ i, (del part (s : Int)).getLsbD i = true ↔ part.getLsbD i = true ∧ i ≠ s := fun i => bit_del part (by omega)
  obtain ⟨k, hk, rfl⟩ := (parts_some F (del_in (part := part) hin (s : Int))).2.2.1 C h
  have hb := (comp_some F (del_in hin _) hk).2
  refine ⟨⟨k, comp_self F (del_in hin _) hk⟩, fun i hi => (hdel i).1 (comp_sub F (del_in hin _) hk i hi), ?_, fun i j hi hj hjs hij => ?_⟩
  · have := Tr.conn_comp (T := T) (A := bits (del part (s : Int))) (x := k)
    have e : (fun y => T.cn (bits (del part (s : Int))) k y) = bits (compB fs (del part (s : Int)) k) := by
      funext y
      exact propext (hb y).symm
    rwa [e] at this
  · have h1 := (hb i).1 hi
    exact (hb j).2 (h1.trans (Tr.cn.of_adj h1.2.1 (hin j hj) h1.2.2.2.1 ((hdel j).2 ⟨hj, hjs⟩) hij))
theorem sub_out (F : Fo fs T) (hin : ∀ i, part.getLsbD i = true → i < T.n) {s : Nat} {C : BS} (h : Sub fs T part s C) {i : Nat} (hi : (outM fs C).getLsbD i = true) : i = s ∨ (outM fs part).getLsbD i = true := by
  obtain ⟨h1, h2, j, hj, hji⟩ := (out_bit F (fun i hi => hin i (h.sub i hi).1) i).1 hi
  by_cases his : i = s
  · exact .inl his
  · refine .inr ((out_bit F hin i).2 ⟨h1, fun hp => h2 (h.clo j i hj hp his hji), j, (h.sub j hj).1, hji⟩)
theorem sub_end (F : Fo fs T) (hin : ∀ i, part.getLsbD i = true → i < T.n) (hC : T.conn (bits part)) {s : Nat} {C : BS} (h : Sub fs T part s C) {b : Nat} (hb : (outM fs part).getLsbD b = true) (hb' : (outM fs C).getLsbD b = true) : C.getLsbD (endB fs part b) = true := by
  obtain ⟨h1, h2, j, hj, hji⟩ := (out_bit F (fun i hi => hin i (h.sub i hi).1) b).1 hb'
  rw [← (end_ok F hin hC hb).2.2 j (h.sub j hj).1 hji]; exact hj
theorem card_union_le {S A : BS} {s : Nat} (hs : s < 1024) (h : ∀ i, S.getLsbD i = true → i = s ∨ A.getLsbD i = true) : card S ≤ card A + 1 := by
  by_cases hA : A.getLsbD s = true
  · have : card S ≤ card A := card_mono fun i hi => by
      rcases h i hi with rfl | h
      · exact hA
      · exact h
    omega
  · have hone : ∀ i, (ins 0 (s : Int)).getLsbD i = true ↔ i = s := fun i => by
      rw [bit_ins 0 hs]; exact ⟨fun h => h.resolve_left (bit_zero i), .inr⟩
    have h1 := card_add (S := A) (T := ins 0 (s : Int)) (U := A ||| ins 0 (s : Int)) (bit_or _ _) (by
      rintro i ⟨h1, h2⟩
      rw [(hone i).1 h2] at h1
      exact hA h1)
    rw [card_one hone] at h1
    rw [← h1]
    exact card_mono fun i hi => (bit_or _ _ i).2 ((h i hi).elim (fun h => .inr ((hone i).2 h)) .inl)
/-- what is left has at most two bags outside, if it is split at the splitter -/
theorem sub_two (F : Fo fs T) (hin : ∀ i, part.getLsbD i = true → i < T.n) (hC : T.conn (bits part)) (h2 : card (outM fs part) ≤ 2) {s : Nat} (S : Spl fs T part s) {C : BS} (h : Sub fs T part s C) : card (outM fs C) ≤ 2 := by
  have hle := F.le
  have hs1 : s < 1024 := by have := hin s S.mem; omega
  have hsub := fun i => sub_out F hin h (i := i)
  by_cases hc : card (outM fs part) < 2
  · have := card_union_le hs1 fun i hi => hsub i hi
    omega
  · obtain ⟨a, b, l, he, hab, ha, hb⟩ := card_two hc
    have hl : l = [] := by
      have := card_elems (outM fs part)
      rw [he] at this
      simp at this
      exact List.eq_nil_of_length_eq_zero (by omega)
    have hall : ∀ i, (outM fs part).getLsbD i = true → i = a ∨ i = b := fun i hi => by
      have := mem_elems.2 ⟨bit_lt hi, hi⟩
      rw [he, hl] at this
      simpa using this
    have hnot : ¬((outM fs C).getLsbD a = true ∧ (outM fs C).getLsbD b = true) := by
      rintro ⟨h1, h2⟩
      have c1 := sub_end F hin hC h ha h1
      have c2 := sub_end F hin hC h hb h2
      have := h.conn _ _ (hin _ (h.sub _ c1).1) (hin _ (h.sub _ c2).1) c1 c2
      refine (S.two he).1 (this.mono fun i hi hh => ⟨hi, (h.sub i hh).2⟩)
    have hone : ∀ x, (outM fs part).getLsbD x = true → ∀ i, (ins 0 (x : Int)).getLsbD i = true ↔ i = x := fun x hx i => by
      rw [bit_ins 0 (bit_lt hx)]; exact ⟨fun h => h.resolve_left (bit_zero i), .inr⟩
    by_cases hCa : (outM fs C).getLsbD a = true
    · have := card_union_le (S := outM fs C) (A := ins 0 (a : Int)) hs1 fun i hi => by
        rcases hsub i hi with h | h
        · exact .inl h
        · rcases hall i h with rfl | rfl
          · exact .inr ((hone i ha i).2 rfl)
          · exact absurd ⟨hCa, hi⟩ hnot
      rw [card_one (hone a ha)] at this
      omega
    · have := card_union_le (S := outM fs C) (A := ins 0 (b : Int)) hs1 fun i hi => by
        rcases hsub i hi with h | h
        · exact .inl h
        · rcases hall i h with rfl | rfl
          · exact absurd hi hCa
          · exact .inr ((hone i hb i).2 rfl)
      rw [card_one (hone b hb)] at this
      omega
end
end Go.Mono

namespace Go.Mono

/-- binary digits -/
def bl : Nat → Nat → Nat
  | 0, _ => 0
  | f + 1, n => if n = 0 then 0 else bl f (n / 2) + 1
/-- the recursion: the parts that it comes to, each with the index of the one above -/
def splitter (fs : List BS) (part : BS) : Nat := splB fs part (outM fs part)
def subs (fs : List BS) (part : BS) : List BS := partsB fs (del part (splitter fs part : Int))
section
variable {fs : List BS} {T : Tr}
/-- a part as the recursion meets it -/
structure Pt (fs : List BS) (T : Tr) (part : BS) : Prop where
  inn : ∀ i, part.getLsbD i = true → i < T.n
  conn : T.conn (bits part)
  ne : ∃ k, part.getLsbD k = true
  two : card (outM fs part) ≤ 2
theorem Pt.spl {part : BS} (F : Fo fs T) (h : Pt fs T part) : Spl fs T part (splitter fs part) := by
  obtain ⟨k, hk⟩ := h.ne
  exact spl_ok F h.inn h.conn hk
theorem Pt.sub {part : BS} (F : Fo fs T) (h : Pt fs T part) {C : BS} (hC : C ∈ subs fs part) : Sub fs T part (splitter fs part) C := parts_sub F h.inn (h.inn _ (h.spl F).mem) hC
theorem Pt.step {part : BS} (F : Fo fs T) (h : Pt fs T part) {C : BS} (hC : C ∈ subs fs part) : Pt fs T C ∧ card C < card part := by
  have S := h.sub F hC
  exact ⟨⟨fun i hi => h.inn i (S.sub i hi).1, S.conn, S.ne, sub_two F h.inn h.conn h.two (h.spl F) S⟩, card_lt (fun i hi => (S.sub i hi).1) (h.spl F).mem fun hh => (S.sub _ hh).2 rfl⟩
/-- node i of the list: who is above, who are below -/
structure BNd (fs : List BS) (T : Tr) (L : List (Int × BS)) (i : Nat) (up : Int) (P : BS) : Prop where
  at' : L[i]? = some (up, P)
  pt : Pt fs T P
  kid : ∀ C ∈ subs fs P, ∃ k, i < k ∧ L[k]? = some ((i : Int), C)
theorem BNd.app {i : Nat} {L M : List (Int × BS)} {up : Int} {P : BS} (h : BNd fs T L i up P) : BNd fs T (L ++ M) i up P := by
  have k1 : ∀ {k : Nat} {x : Int × BS}, L[k]? = some x → (L ++ M)[k]? = some x := fun {k x} h => by
    rw [List.getElem?_append_left (List.getElem?_eq_some_iff.1 h).1]; exact h
  exact ⟨k1 h.at', h.pt, fun C hC => by obtain ⟨k, h1, h2⟩ := h.kid C hC; exact ⟨k, h1, k1 h2⟩⟩
/-- the one above node i -/
def Ab (fs : List BS) (L : List (Int × BS)) (i : Nat) (up : Int) (P : BS) : Prop := ∃ p u Q, up = ((p : Nat) : Int) ∧ p < i ∧ L[p]? = some (u, Q) ∧ P ∈ subs fs Q
theorem Ab.app {i : Nat} {L M : List (Int × BS)} {up : Int} {P : BS} (h : Ab fs L i up P) : Ab fs (L ++ M) i up P := by
  obtain ⟨p, u, Q, h1, h2, h3, h4⟩ := h
  exact ⟨p, u, Q, h1, h2, by rw [List.getElem?_append_left (List.getElem?_eq_some_iff.1 h3).1]; exact h3, h4⟩
end
section
variable {fs : List BS} {T : Tr}
end
end Go.Mono

namespace Go.Mono
open Go Go.Proofs Go.RowKit

end Go.Mono

namespace Go.Mono
open Go Go.Proofs Go.RowKit

end Go.Mono

namespace Go.Mono
open Go Go.Proofs Go.RowKit

end Go.Mono

namespace Go.Mono
open Go Go.Proofs Go.RowKit

end Go.Mono

namespace Go.Mono
open Go Go.Proofs Go.RowKit

end Go.Mono

namespace Go.Mono
open Go Go.Proofs Go.RowKit

def belowB (n : Nat) : BS := BitVec.ofNat 1024 (2 ^ n - 1)
theorem below_bit (n i : Nat) (hi : i < 1024) : (belowB n).getLsbD i = decide (i < n) := by
  rw [belowB, BitVec.getLsbD_ofNat, Nat.testBit_two_pow_sub_one]
  simp [hi]
end Go.Mono

namespace Go.Mono
open Go Go.Proofs Go.RowKit

theorem adjL_len (t : List (Int × BS)) : (adjL t).length = t.length := by simp [adjL]
end Go.Mono

namespace Go.Mono
open Go Go.Proofs Go.RowKit

theorem below_bit' (n i : Nat) (hn : n ≤ 1024) : (belowB n).getLsbD i = true ↔ i < n := by
  by_cases hi : i < 1024
  · rw [below_bit _ _ hi, decide_eq_true_eq]
  · constructor
    · intro h; exact absurd (bit_lt h) hi
    · intro h; omega
theorem Pt.all {t : List (Int × BS)} {T : Tr} (F : Fo (adjL t) T) (h0 : 0 < t.length) : Pt (adjL t) T (belowB t.length) ∧ card (belowB t.length) ≤ t.length := by
  have hn : T.n = t.length := by rw [← F.len, adjL_len]
  have hle := F.le
  have hb : ∀ i, (belowB t.length).getLsbD i = true ↔ i < T.n := fun i => by rw [below_bit' _ _ (by omega), hn]
  have hbits : bits (belowB t.length) = fun i => i < T.n := by funext i; exact propext (hb i)
  refine ⟨⟨fun i hi => (hb i).1 hi, by rw [hbits]; exact Tr.conn_all, ⟨0, (hb 0).2 (by omega)⟩, ?_⟩, card_le_n fun i hi => by rw [← hn]; exact (hb i).1 hi⟩
  have : outM (adjL t) (belowB t.length) = 0 := set_ext' fun k => by
    rw [out_bit F (fun i hi => (hb i).1 hi)]
    constructor
    · rintro ⟨h1, h2, _⟩; exact absurd ((hb k).2 h1) h2
    · intro h; exact absurd h (bit_zero k)
  rw [this, card_zero]; omega

end Go.Mono

namespace Go.Mono

end Go.Mono

namespace Go.Mono

section
variable {fs : List BS} {T : Tr}
end
end Go.Mono

namespace Go.Mono
open Go Go.Proofs Go.RowKit

end Go.Mono

namespace Go.Mono

section
variable {t : List (Int × BS)} {T : Tr}
end
end Go.Mono

namespace Go.Mono

inductive Und (o : List (Int × BS)) : Nat → Nat → Prop
  | refl (k : Nat) : Und o k k
  | step {k p i : Nat} (h : (bg o k).1 = (p : Int)) (hu : Und o p i) : Und o k i
theorem Und.trans {o : List (Int × BS)} {k j i : Nat} (h : Und o k j) (h' : Und o j i) : Und o k i := by
  induction h with
  | refl => exact h'
  | step h _ ih => exact .step h (ih h')
section
variable {t : List (Int × BS)} {T : Tr}
end
end Go.Mono

namespace Go.Mono

section
variable {t : List (Int × BS)}
end
end Go.Mono

namespace Go.Mono

section
variable {t : List (Int × BS)} {S : BS}
end
end Go.Mono

namespace Go.Mono
open Go Go.Proofs Go.RowKit Go.Gr

section
variable {g : GT} {th : List Int}
/-- those of an order's set -/
def setN (S : BS) (l : List Nat) : BS := l.foldl (fun (s : BS) (v : Nat) => ins s (v : Int)) S
theorem setN_cons (S : BS) (v : Nat) (l : List Nat) : setN S (v :: l) = setN (ins S (v : Int)) l := by rw [setN, setN, List.foldl_cons]
theorem setN_bit : ∀ (l : List Nat) (S : BS), (∀ v ∈ l, v < 1024) → ∀ u, (setN S l).getLsbD u = true ↔ S.getLsbD u = true ∨ u ∈ l
  | [], S, _, u => by simp [setN]
  | v :: l, S, h, u => by
    rw [setN_cons, setN_bit l _ (fun x hx => h x (List.mem_cons_of_mem _ hx)) u, bit_ins S (h v (List.mem_cons_self ..)), List.mem_cons, or_assoc]
end
end Go.Mono

namespace Go.Mono
open Go Go.Proofs Go.RowKit Go.Gr

/-- the least width over all orders -/
def twG (g : GT) : Int := rsR (nbA g) (vset g.1) 0
theorem tw_lo (g : GT) : -1 ≤ twG g := (rsR_bd (nb := nbA g) (all := vset g.1) 0).1
section
variable {nb nb' : Int → BS} {C S S' : BS}
theorem widL_cat (nb : Int → BS) (m : List Nat) : ∀ (l : List Nat) (S : BS), widL nb S (l ++ m) = max (widL nb S l) (widL nb (setN S l) m)
  | [], S => by
    have := widL_ge nb m S
    rw [List.nil_append, widL, setN, List.foldl_nil]; omega
  | u :: l, S => by rw [List.cons_append, widL, widL_cat nb m l, widL, setN_cons, Int.max_assoc]
theorem reB_sub (h : ∀ i j : Nat, (nb' (i : Int)).getLsbD j = true → (nb (i : Int)).getLsbD j = true ∧ C.getLsbD j = true) (hS : ∀ u, S'.getLsbD u = true ↔ S.getLsbD u = true ∧ C.getLsbD u = true) {v : Nat} (hv : v < 1024) :
    rn nb' S' v ≤ rn nb S v := by
  have hm : card (reB nb' S' (v : Int)) ≤ card (reB nb S (v : Int)) := card_mono fun u hu => by
    obtain ⟨k1, k2, k3⟩ := (reB_bit hv).1 hu
    have hC : C.getLsbD u = true := by
      cases k1 with
      | one h1 => exact (h _ _ h1).2
      | step _ _ h1 => exact (h _ _ h1).2
    have k1' : Via nb S v u := by
      clear hu k2 k3 hC
      induction k1 with
      | one h1 => exact .one (h _ _ h1).1
      | step _ ht h1 ih => exact .step ih ((hS _).1 ht).1 (h _ _ h1).1
    exact (reB_bit hv).2 ⟨k1', fun hh => k2 ((hS u).2 ⟨hh, hC⟩), k3⟩
  rw [rn, rn]; omega
theorem ins_meet {v : Nat} (hv : v < 1024) (hS : ∀ u, S'.getLsbD u = true ↔ S.getLsbD u = true ∧ C.getLsbD u = true) (hC : C.getLsbD v = true) : ∀ u, (ins S' (v : Int)).getLsbD u = true ↔ (ins S (v : Int)).getLsbD u = true ∧ C.getLsbD u = true := fun u => by
  rw [bit_ins _ hv, bit_ins _ hv, hS]
  constructor
  · rintro (⟨h1, h2⟩ | rfl)
    · exact ⟨.inl h1, h2⟩
    · exact ⟨.inr rfl, hC⟩
  · rintro ⟨h1 | h1, h2⟩
    · exact .inl ⟨h1, h2⟩
    · exact .inr h1
theorem ins_miss {v : Nat} (hv : v < 1024) (hS : ∀ u, S'.getLsbD u = true ↔ S.getLsbD u = true ∧ C.getLsbD u = true) (hC : ¬C.getLsbD v = true) : ∀ u, S'.getLsbD u = true ↔ (ins S (v : Int)).getLsbD u = true ∧ C.getLsbD u = true := fun u => by
  rw [hS, bit_ins _ hv]
  constructor
  · rintro ⟨h1, h2⟩; exact ⟨.inl h1, h2⟩
  · rintro ⟨h1 | rfl, h2⟩
    · exact ⟨h1, h2⟩
    · exact absurd h2 hC
/-- an order, cut down to a part -/
theorem widL_sub (h : ∀ i j : Nat, (nb' (i : Int)).getLsbD j = true → (nb (i : Int)).getLsbD j = true ∧ C.getLsbD j = true) : ∀ (l : List Nat) (S S' : BS), (∀ v ∈ l, v < 1024) → (∀ u, S'.getLsbD u = true ↔ S.getLsbD u = true ∧ C.getLsbD u = true) →
    widL nb' S' (l.filter fun v => C.getLsbD v) ≤ widL nb S l
  | [], S, S', _, _ => Int.le_refl _
  | v :: l, S, S', hl, hS => by
    have hv := hl v (List.mem_cons_self ..)
    have hl' := fun x hx => hl x (List.mem_cons_of_mem v hx)
    by_cases hC : C.getLsbD v = true
    · have h1 := widL_sub h l (ins S (v : Int)) (ins S' (v : Int)) hl' (ins_meet hv hS hC)
      have h2 := reB_sub h hS hv
      rw [List.filter_cons, if_pos hC, widL, widL]; omega
    · have h1 := widL_sub h l (ins S (v : Int)) S' hl' (ins_miss hv hS hC)
      rw [List.filter_cons, if_neg hC, widL]; omega
/-- in a closed part the rest of the graph does not count -/
theorem reB_part (h : ∀ i j : Nat, (nb' (i : Int)).getLsbD j = true ↔ (nb (i : Int)).getLsbD j = true ∧ C.getLsbD i = true ∧ C.getLsbD j = true) (hcl : ∀ i j : Nat, C.getLsbD i = true → (nb (i : Int)).getLsbD j = true → C.getLsbD j = true)
    (hS : ∀ u, S'.getLsbD u = true ↔ S.getLsbD u = true ∧ C.getLsbD u = true) {v : Nat} (hv : C.getLsbD v = true) : rn nb' S' v = rn nb S v := by
  have key : ∀ u, Via nb S v u ↔ Via nb' S' v u := fun u => by
    constructor
    · intro k
      suffices hh : C.getLsbD u = true ∧ Via nb' S' v u from hh.2
      induction k with
      | one h1 => exact ⟨hcl _ _ hv h1, .one ((h _ _).2 ⟨h1, hv, hcl _ _ hv h1⟩)⟩
      | step _ ht h1 ih => exact ⟨hcl _ _ ih.1 h1, .step ih.2 ((hS _).2 ⟨ht, ih.1⟩) ((h _ _).2 ⟨h1, ih.1, hcl _ _ ih.1 h1⟩)⟩
    · intro k
      induction k with
      | one h1 => exact .one ((h _ _).1 h1).1
      | step _ ht h1 ih => exact .step ih ((hS _).1 ht).1 ((h _ _).1 h1).1
  have hin : ∀ u, Via nb' S' v u → C.getLsbD u = true := fun u k => by
    cases k with
    | one h1 => exact ((h _ _).1 h1).2.2
    | step _ _ h1 => exact ((h _ _).1 h1).2.2
  have he : reB nb' S' (v : Int) = reB nb S (v : Int) := set_ext' fun u => by
    rw [reB_bit (bit_lt hv), reB_bit (bit_lt hv), key]
    constructor
    · rintro ⟨k1, k2, k3⟩; exact ⟨k1, fun hh => k2 ((hS u).2 ⟨hh, hin u k1⟩), k3⟩
    · rintro ⟨k1, k2, k3⟩; exact ⟨k1, fun hh => k2 ((hS u).1 hh).1, k3⟩
  rw [rn, rn, he]
theorem widL_part (h : ∀ i j : Nat, (nb' (i : Int)).getLsbD j = true ↔ (nb (i : Int)).getLsbD j = true ∧ C.getLsbD i = true ∧ C.getLsbD j = true) (hcl : ∀ i j : Nat, C.getLsbD i = true → (nb (i : Int)).getLsbD j = true → C.getLsbD j = true) :
    ∀ (l : List Nat) (S S' : BS), (∀ v ∈ l, C.getLsbD v = true) → (∀ u, S'.getLsbD u = true ↔ S.getLsbD u = true ∧ C.getLsbD u = true) → widL nb' S' l = widL nb S l
  | [], S, S', _, _ => rfl
  | v :: l, S, S', hl, hS => by
    have hv := hl v (List.mem_cons_self ..)
    rw [widL, widL, reB_part h hcl hS hv, widL_part h hcl l (ins S (v : Int)) (ins S' (v : Int)) (fun x hx => hl x (List.mem_cons_of_mem v hx)) (ins_meet (bit_lt hv) hS hv)]
end
section
variable {g h : GT}
/-- A PART IS NOT OF GREATER TREEWIDTH -/
theorem tw_sub (G : Gr.Ok g) (H : Gr.Ok h) (hl : g.1.length ≤ 12) (hl' : h.1.length ≤ 12) (hV : ∀ i, (vset h.1).getLsbD i = true → (vset g.1).getLsbD i = true) (hE : ∀ i j : Nat, Adj h i j → Adj g i j) : twG h ≤ twG g := by
  obtain ⟨o1, o2, o3⟩ := widO_ok G hl
  have h1 := widL_sub (nb := nbA g) (nb' := nbA h) (C := vset h.1) (fun i j hij => ⟨(nbA_bit G).2 (hE i j ((nbA_bit H).1 hij)), (((nbA_bit H).1 hij).inn H).2.1⟩) (widO g) 0 0 (fun v hv => bit_lt ((o2 v).1 hv)) fun u => ⟨fun h => absurd h (bit_zero u), fun h => absurd h.1 (bit_zero u)⟩
  have h2 := rsR_low (nb := nbA h) (all := vset h.1) ((widO g).filter fun v => (vset h.1).getLsbD v) 0 (o1.filter _) fun i => by
    rw [diff_zero, List.mem_filter, o2]
    exact ⟨fun h => h.2, fun h => ⟨hV i h, h⟩⟩
  rw [twG, twG, ← o3]; omega
/-- the part of a graph in a set -/
structure Part (g : GT) (C : BS) (h : GT) : Prop where
  ok : Gr.Ok h
  vs : ∀ i, (vset h.1).getLsbD i = true ↔ (vset g.1).getLsbD i = true ∧ C.getLsbD i = true
  es : ∀ i j : Nat, Adj h i j ↔ Adj g i j ∧ C.getLsbD i = true ∧ C.getLsbD j = true
  len : h.1.length ≤ g.1.length
theorem Part.le {C : BS} (P : Part g C h) (G : Gr.Ok g) (hl : g.1.length ≤ 12) : twG h ≤ twG g :=
  tw_sub G P.ok hl (Nat.le_trans P.len hl) (fun i hi => ((P.vs i).1 hi).1) fun i j hij => ((P.es i j).1 hij).1
def maxL (l : List Int) : Int := l.foldl max (-1)
theorem maxL_cons (x : Int) (l : List Int) (h : -1 ≤ x) : maxL (x :: l) = max x (maxL l) := by
  have key : ∀ (l : List Int) (a b : Int), l.foldl max (max a b) = max a (l.foldl max b) := by
    intro l
    induction l with
    | nil => intro a b; rfl
    | cons y l ih => intro a b; rw [List.foldl_cons, List.foldl_cons, Int.max_assoc, ih]
  rw [maxL, List.foldl_cons, Int.max_comm, key]; rfl
/-- the orders of the parts, one behind the other -/
theorem wid_parts (G : Gr.Ok g) (hl : g.1.length ≤ 12) : ∀ (cs : List (BS × GT)) (S : BS), (∀ c ∈ cs, Part g c.1 c.2 ∧ (∀ i, c.1.getLsbD i = true → (vset g.1).getLsbD i = true) ∧ ∀ i j : Nat, c.1.getLsbD i = true → Adj g i j → c.1.getLsbD j = true) →
    cs.Pairwise (fun c d => ∀ i, c.1.getLsbD i = true → ¬d.1.getLsbD i = true) → (∀ c ∈ cs, ∀ i, c.1.getLsbD i = true → ¬S.getLsbD i = true) →
    widL (nbA g) S (cs.flatMap fun c => widO c.2) = maxL (cs.map fun c => twG c.2)
  | [], S, _, _, _ => rfl
  | c :: cs, S, hc, hd, hS => by
    obtain ⟨P, hCV, hcl⟩ := hc c (List.mem_cons_self ..)
    obtain ⟨d1, d2⟩ := List.pairwise_cons.1 hd
    obtain ⟨o1, o2, o3⟩ := widO_ok P.ok (Nat.le_trans P.len hl)
    have hm : ∀ v ∈ widO c.2, c.1.getLsbD v = true := fun v hv => ((P.vs v).1 ((o2 v).1 hv)).2
    have h1 := widL_part (nb := nbA g) (nb' := nbA c.2) (C := c.1) (fun i j => by rw [nbA_bit P.ok, nbA_bit G, P.es]) (fun i j hi hij => hcl i j hi ((nbA_bit G).1 hij)) (widO c.2) S 0 hm fun u =>
      ⟨fun h => absurd h (bit_zero u), fun h => absurd h.1 (hS c (List.mem_cons_self ..) u h.2)⟩
    have h2 := wid_parts G hl cs (setN S (widO c.2)) (fun d hd' => hc d (List.mem_cons_of_mem _ hd')) d2 fun d hd' i hi hh => by
      rcases (setN_bit _ _ (fun v hv => bit_lt (hm v hv)) i).1 hh with h | h
      · exact hS d (List.mem_cons_of_mem _ hd') i hi h
      · exact d1 d hd' i (hm i h) hi
    rw [List.flatMap_cons, widL_cat, h2, ← h1, o3, List.map_cons, maxL_cons _ _ (tw_lo c.2)]
    rfl
/-- THE TREEWIDTH IS THE GREATEST OF THE PARTS' -/
theorem tw_parts (G : Gr.Ok g) (hl : g.1.length ≤ 12) (cs : List (BS × GT)) (hc : ∀ c ∈ cs, Part g c.1 c.2 ∧ (∀ i, c.1.getLsbD i = true → (vset g.1).getLsbD i = true) ∧ ∀ i j : Nat, c.1.getLsbD i = true → Adj g i j → c.1.getLsbD j = true)
    (hd : cs.Pairwise (fun c d => ∀ i, c.1.getLsbD i = true → ¬d.1.getLsbD i = true)) (hcov : ∀ i, (vset g.1).getLsbD i = true → ∃ c ∈ cs, c.1.getLsbD i = true) : twG g = maxL (cs.map fun c => twG c.2) := by
  have h1 := wid_parts G hl cs 0 hc hd fun c _ i _ => bit_zero i
  have hmem : ∀ i, i ∈ cs.flatMap (fun c => widO c.2) ↔ (vset g.1).getLsbD i = true := fun i => by
    rw [List.mem_flatMap]
    constructor
    · rintro ⟨c, hcc, hi⟩
      obtain ⟨P, hCV, _⟩ := hc c hcc
      exact ((P.vs i).1 (((widO_ok P.ok (Nat.le_trans P.len hl)).2.1 i).1 hi)).1
    · intro hi
      obtain ⟨c, hcc, hci⟩ := hcov i hi
      obtain ⟨P, _⟩ := hc c hcc
      exact ⟨c, hcc, ((widO_ok P.ok (Nat.le_trans P.len hl)).2.1 i).2 ((P.vs i).2 ⟨hi, hci⟩)⟩
  have hnd : (cs.flatMap fun c => widO c.2).Nodup := by
    clear h1 hmem hcov
    induction cs with
    | nil => simp
    | cons c cs ih =>
      obtain ⟨d1, d2⟩ := List.pairwise_cons.1 hd
      obtain ⟨P, _⟩ := hc c (List.mem_cons_self ..)
      have hw := widO_ok P.ok (Nat.le_trans P.len hl)
      rw [List.flatMap_cons, List.nodup_append]
      refine ⟨hw.1, ih (fun d hd' => hc d (List.mem_cons_of_mem _ hd')) d2, fun a ha b hb e => ?_⟩
      subst e
      obtain ⟨d, hdd, hb⟩ := List.mem_flatMap.1 hb
      obtain ⟨Q, _⟩ := hc d (List.mem_cons_of_mem _ hdd)
      exact d1 d hdd a ((P.vs a).1 ((hw.2.1 a).1 ha)).2 ((Q.vs a).1 (((widO_ok Q.ok (Nat.le_trans Q.len hl)).2.1 a).1 hb)).2
  have h2 := rsR_low (nb := nbA g) (all := vset g.1) _ 0 hnd fun i => by rw [hmem, diff_zero]
  rw [h1] at h2
  have h3 : maxL (cs.map fun c => twG c.2) ≤ twG g := by
    have hge := (rsR_bd (nb := nbA g) (all := vset g.1) 0).1
    clear h1 hmem hnd h2 hcov hd
    induction cs with
    | nil => exact hge
    | cons c cs ih =>
      obtain ⟨P, _⟩ := hc c (List.mem_cons_self ..)
      have h4 := ih fun d hd' => hc d (List.mem_cons_of_mem _ hd')
      have h5 := P.le G hl
      rw [List.map_cons, maxL_cons _ _ (tw_lo c.2)]
      omega
  have h2' : twG g ≤ maxL (cs.map fun c => twG c.2) := h2
  omega
end
end Go.Mono

namespace Go.Mono
open Go Go.Proofs Go.RowKit Go.Gr

section
variable {g h : GT}
theorem nb_in (G : Gr.Ok g) : ∀ i j : Nat, (nbA g (i : Int)).getLsbD j = true → (vset g.1).getLsbD j = true := fun i j h => (((nbA_bit G).1 h).inn G).2.1
end
end Go.Mono

namespace Go.Mono
open Go Go.Proofs Go.RowKit Go.Gr

/-- the part of a graph in a set -/
def indG (g : GT) (C : BS) : GT := (g.1.filter fun x => has C x.1, g.2.filter fun x => has C x.1.1 && has C x.1.2)
theorem indG_ok {g : GT} (G : Gr.Ok g) (C : BS) : Gr.Ok (indG g C) := by
  refine ⟨G.sv.filter _, G.se.filter _, fun x hx => G.rv x (List.mem_filter.1 hx).1, fun x hx => ?_, Nat.le_trans (List.length_filter_le _ _) G.ne⟩
  obtain ⟨h1, h2⟩ := List.mem_filter.1 hx
  rw [Bool.and_eq_true] at h2
  obtain ⟨q1, q2, q3, q4⟩ := G.re x h1
  have key : ∀ n, inV g.1 n = true → has C n = true → inV (indG g C).1 n = true := fun n hn hC => by
    rw [inV, List.any_eq_true] at hn ⊢
    obtain ⟨y, hy, hyn⟩ := hn
    refine ⟨y, List.mem_filter.2 ⟨hy, ?_⟩, hyn⟩
    rw [of_decide_eq_true hyn]; exact hC
  exact ⟨q1, key _ q2 h2.1, key _ q3 h2.2, q4⟩
theorem indG_part {g : GT} (G : Gr.Ok g) (C : BS) : Part g C (indG g C) := by
  refine ⟨indG_ok G C, fun i => ?_, fun i j => ?_, List.length_filter_le _ _⟩
  · rw [mem_vset (indG_ok G C), mem_vset G]
    constructor
    · rintro ⟨x, hx, he⟩
      obtain ⟨h1, h2⟩ := List.mem_filter.1 hx
      rw [he] at h2
      exact ⟨⟨x, h1, he⟩, (has_bit C i).1 h2⟩
    · rintro ⟨⟨x, hx, he⟩, hC⟩
      exact ⟨x, List.mem_filter.2 ⟨hx, by rw [he]; exact (has_bit C i).2 hC⟩, he⟩
  · constructor
    · rintro ⟨x, hx, he⟩
      obtain ⟨h1, h2⟩ := List.mem_filter.1 hx
      rw [Bool.and_eq_true] at h2
      refine ⟨⟨x, h1, he⟩, ?_⟩
      rcases he with he | he <;> rw [he] at h2
      · exact ⟨(has_bit C i).1 h2.1, (has_bit C j).1 h2.2⟩
      · exact ⟨(has_bit C i).1 h2.2, (has_bit C j).1 h2.1⟩
    · rintro ⟨⟨x, hx, he⟩, hi, hj⟩
      refine ⟨x, List.mem_filter.2 ⟨hx, ?_⟩, he⟩
      rw [Bool.and_eq_true]
      rcases he with he | he <;> rw [he]
      · exact ⟨(has_bit C i).2 hi, (has_bit C j).2 hj⟩
      · exact ⟨(has_bit C j).2 hj, (has_bit C i).2 hi⟩
/-! ### distance sets -/
def nxN (nb : Int → BS) (at' : BS) : BS := (elems at').foldl (fun (s : BS) (i : Nat) => s ||| nb (i : Int)) 0
theorem nxTo_bit (nb : Int → BS) {j : Nat} : ∀ (l : List Nat) (s : BS), (l.foldl (fun (s : BS) (i : Nat) => s ||| nb (i : Int)) s).getLsbD j = true ↔ s.getLsbD j = true ∨ ∃ i ∈ l, (nb (i : Int)).getLsbD j = true
  | [], s => by simp
  | i :: l, s => by
    rw [List.foldl_cons, nxTo_bit nb l, bit_or]
    constructor
    · rintro ((h | h) | ⟨k, hk, h⟩)
      · exact .inl h
      · exact .inr ⟨i, List.mem_cons_self .., h⟩
      · exact .inr ⟨k, List.mem_cons_of_mem _ hk, h⟩
    · rintro (h | ⟨k, hk, h⟩)
      · exact .inl (.inl h)
      · rcases List.mem_cons.1 hk with rfl | hk
        · exact .inl (.inr h)
        · exact .inr ⟨k, hk, h⟩
theorem nxN_bit {nb : Int → BS} {at' : BS} {j : Nat} : (nxN nb at').getLsbD j = true ↔ ∃ i, at'.getLsbD i = true ∧ (nb (i : Int)).getLsbD j = true := by
  rw [nxN, nxTo_bit]
  constructor
  · rintro (h | ⟨i, hi, h⟩)
    · exact absurd h (bit_zero j)
    · exact ⟨i, (mem_elems.1 hi).2, h⟩
  · rintro ⟨i, hi, h⟩; exact .inr ⟨i, mem_elems.2 ⟨bit_lt hi, hi⟩, h⟩
/-- the sets at distance 0, 1, .. -/
def lvF (nb : Int → BS) : Nat → BS → BS → List BS
  | 0, _, _ => []
  | f + 1, at', seen => if at' = 0 then [] else at' :: lvF nb f (nxN nb at' &&& ~~~seen) (seen ||| (nxN nb at' &&& ~~~seen))
def unL (l : List BS) : BS := l.foldl (fun s r => s ||| r) 0
theorem unTo_bit {j : Nat} : ∀ (l : List BS) (s : BS), (l.foldl (fun s r => s ||| r) s).getLsbD j = true ↔ s.getLsbD j = true ∨ ∃ r ∈ l, r.getLsbD j = true
  | [], s => by simp
  | r :: l, s => by
    rw [List.foldl_cons, unTo_bit l, bit_or, or_assoc]
    constructor
    · rintro (h | h | ⟨k, hk, h⟩)
      · exact .inl h
      · exact .inr ⟨r, List.mem_cons_self .., h⟩
      · exact .inr ⟨k, List.mem_cons_of_mem _ hk, h⟩
    · rintro (h | ⟨k, hk, h⟩)
      · exact .inl h
      · rcases List.mem_cons.1 hk with rfl | hk
        · exact .inr (.inl h)
        · exact .inr (.inr ⟨k, hk, h⟩)
theorem unL_bit {l : List BS} {j : Nat} : (unL l).getLsbD j = true ↔ ∃ r ∈ l, r.getLsbD j = true := by
  rw [unL, unTo_bit]
  exact ⟨fun h => h.resolve_left (bit_zero j), .inr⟩
theorem card_le_1024 (S : BS) : card S ≤ 1024 := by
  rw [← card_elems, elems]
  have := List.length_filter_le (fun i => S.getLsbD i) (List.range 1024)
  rwa [List.length_range] at this
/-- what is seen in the end is closed and no greater than it must be -/
theorem lv_ok {nb : Int → BS} : ∀ (f : Nat) (at' seen : BS), 1024 < f + card seen ∨ at' = 0 → (∀ i, at'.getLsbD i = true → seen.getLsbD i = true) → (∀ i j : Nat, seen.getLsbD i = true → ¬at'.getLsbD i = true → (nb (i : Int)).getLsbD j = true → seen.getLsbD j = true) →
    (∀ i j : Nat, (seen.getLsbD i = true ∨ (unL (lvF nb f at' seen)).getLsbD i = true) → (nb (i : Int)).getLsbD j = true → seen.getLsbD j = true ∨ (unL (lvF nb f at' seen)).getLsbD j = true) ∧
    ∀ K : BS, (∀ i, seen.getLsbD i = true → K.getLsbD i = true) → (∀ i j : Nat, K.getLsbD i = true → (nb (i : Int)).getLsbD j = true → K.getLsbD j = true) → ∀ i, (unL (lvF nb f at' seen)).getLsbD i = true → K.getLsbD i = true := by
  intro f
  induction f with
  | zero =>
    intro at' seen hf hin hcl
    have h0 : at' = 0 := by
      rcases hf with h | h
      · have := card_le_1024 seen; omega
      · exact h
    have hno : ∀ i, ¬(unL (lvF nb 0 at' seen)).getLsbD i = true := fun i h => by
      obtain ⟨r, hr, _⟩ := unL_bit.1 h
      cases hr
    refine ⟨fun i j hi hij => ?_, fun K _ _ i h => absurd h (hno i)⟩
    rcases hi with hi | hi
    · exact .inl (hcl i j hi (by rw [h0]; exact bit_zero i) hij)
    · exact absurd hi (hno i)
  | succ f ih =>
    intro at' seen hf hin hcl
    by_cases h0 : at' = 0
    · have hl : lvF nb (f + 1) at' seen = [] := by rw [lvF, if_pos h0]
      rw [hl]
      have hno : ∀ i, ¬(unL []).getLsbD i = true := fun i h => by
        obtain ⟨r, hr, _⟩ := unL_bit.1 h
        cases hr
      refine ⟨fun i j hi hij => ?_, fun K _ _ i h => absurd h (hno i)⟩
      rcases hi with hi | hi
      · exact .inl (hcl i j hi (by rw [h0]; exact bit_zero i) hij)
      · exact absurd hi (hno i)
    · have hl : lvF nb (f + 1) at' seen = at' :: lvF nb f (nxN nb at' &&& ~~~seen) (seen ||| (nxN nb at' &&& ~~~seen)) := by rw [lvF, if_neg h0]
      rw [hl]
      obtain ⟨a2, ha2⟩ : ∃ a2, a2 = nxN nb at' &&& ~~~seen := ⟨_, rfl⟩
      have hb : ∀ j, a2.getLsbD j = true ↔ (∃ i, at'.getLsbD i = true ∧ (nb (i : Int)).getLsbD j = true) ∧ ¬seen.getLsbD j = true := fun j => by rw [ha2, bit_diff, nxN_bit]
      rw [← ha2]
      have hU : ∀ i, (unL (at' :: lvF nb f a2 (seen ||| a2))).getLsbD i = true ↔ at'.getLsbD i = true ∨ (unL (lvF nb f a2 (seen ||| a2))).getLsbD i = true := fun i => by
        rw [unL_bit, unL_bit]
        constructor
        · rintro ⟨r, hr, h⟩
          rcases List.mem_cons.1 hr with rfl | hr
          · exact .inl h
          · exact .inr ⟨r, hr, h⟩
        · rintro (h | ⟨r, hr, h⟩)
          · exact ⟨at', List.mem_cons_self .., h⟩
          · exact ⟨r, List.mem_cons_of_mem _ hr, h⟩
      have hfu : 1024 < f + card (seen ||| a2) ∨ a2 = 0 := by
        by_cases h2 : a2 = 0
        · exact .inr h2
        · left
          obtain ⟨z, hz⟩ : ∃ z, a2.getLsbD z = true := Classical.byContradiction fun hn => h2 (set_ext' fun k => ⟨fun h => absurd ⟨k, h⟩ hn, fun h => absurd h (bit_zero k)⟩)
          have := card_lt (S := seen) (T := seen ||| a2) (z := z) (fun i hi => (bit_or _ _ _).2 (.inl hi)) ((bit_or _ _ _).2 (.inr hz)) ((hb z).1 hz).2
          rcases hf with h | h
          · omega
          · exact absurd h h0
      obtain ⟨k1, k2⟩ := ih a2 (seen ||| a2) hfu (fun i hi => (bit_or _ _ _).2 (.inr hi)) fun i j hi hni hij => by
        rcases (bit_or _ _ _).1 hi with hi | hi
        · by_cases hat : at'.getLsbD i = true
          · by_cases hs : seen.getLsbD j = true
            · exact (bit_or _ _ _).2 (.inl hs)
            · exact (bit_or _ _ _).2 (.inr ((hb j).2 ⟨⟨i, hat, hij⟩, hs⟩))
          · exact (bit_or _ _ _).2 (.inl (hcl i j hi hat hij))
        · exact absurd hi hni
      have hsub : ∀ i, a2.getLsbD i = true → (unL (lvF nb f a2 (seen ||| a2))).getLsbD i = true := fun i hi => by
        have hne : a2 ≠ 0 := fun h => by rw [h] at hi; exact bit_zero _ hi
        cases f with
        | zero =>
          rcases hfu with h | h
          · have := card_le_1024 (seen ||| a2); omega
          · exact absurd h hne
        | succ f => rw [lvF, if_neg hne, unL_bit]; exact ⟨a2, List.mem_cons_self .., hi⟩
      constructor
      · intro i j hi hij
        rw [hU] at hi ⊢
        have h3 : (seen ||| a2).getLsbD i = true ∨ (unL (lvF nb f a2 (seen ||| a2))).getLsbD i = true := by
          rcases hi with h | h | h
          · exact .inl ((bit_or _ _ _).2 (.inl h))
          · exact .inl ((bit_or _ _ _).2 (.inl (hin i h)))
          · exact .inr h
        rcases k1 i j h3 hij with h | h
        · rcases (bit_or _ _ _).1 h with h | h
          · exact .inl h
          · exact .inr (.inr (hsub j h))
        · exact .inr (.inr h)
      · intro K hK hKc i hi
        rcases (hU i).1 hi with h | h
        · exact hK i (hin i h)
        · refine k2 K (fun u hu => ?_) hKc i h
          rcases (bit_or _ _ _).1 hu with hu | hu
          · exact hK u hu
          · obtain ⟨⟨x, hx, hxu⟩, _⟩ := (hb u).1 hu
            exact hKc x u (hK x (hin x hx)) hxu
/-- the distance sets from a vertex -/
def lvB (nb : Int → BS) (a : Nat) : List BS := lvF nb 1025 (ins 0 (a : Int)) (ins 0 (a : Int))
theorem lvB_ok {nb : Int → BS} {a : Nat} (ha : a < 1024) : (unL (lvB nb a)).getLsbD a = true ∧ (∀ i j : Nat, (unL (lvB nb a)).getLsbD i = true → (nb (i : Int)).getLsbD j = true → (unL (lvB nb a)).getLsbD j = true) ∧
    ∀ K : BS, K.getLsbD a = true → (∀ i j : Nat, K.getLsbD i = true → (nb (i : Int)).getLsbD j = true → K.getLsbD j = true) → ∀ i, (unL (lvB nb a)).getLsbD i = true → K.getLsbD i = true := by
  have h1 : ∀ i, (ins 0 (a : Int)).getLsbD i = true ↔ i = a := fun i => by
    rw [bit_ins _ ha]
    exact ⟨fun h => h.resolve_left (bit_zero i), .inr⟩
  have hne : ins 0 (a : Int) ≠ 0 := fun h => by
    have := (h1 a).2 rfl
    rw [h] at this; exact bit_zero _ this
  obtain ⟨k1, k2⟩ := lv_ok (nb := nb) 1025 (ins 0 (a : Int)) (ins 0 (a : Int)) (.inl (by omega)) (fun i h => h) fun i j h h' => absurd h h'
  have h2 : (unL (lvB nb a)).getLsbD a = true := by
    rw [lvB, lvF, if_neg hne, unL_bit]; exact ⟨_, List.mem_cons_self .., (h1 a).2 rfl⟩
  refine ⟨h2, fun i j hi hij => ?_, fun K hK hKc => k2 K (fun i hi => by rw [(h1 i).1 hi]; exact hK) hKc⟩
  rcases k1 i j (.inr hi) hij with h | h
  · rw [(h1 j).1 h]; exact h2
  · exact h
def oBL (o : Option Nat) (k : Nat → List BS) : List BS := match o with
  | none => []
  | some a => k a
/-- the components -/
def prF (nb : Int → BS) : Nat → BS → List BS
  | 0, _ => []
  | f + 1, left => oBL (minOf left) fun a => unL (lvB nb a) :: prF nb f (left &&& ~~~unL (lvB nb a))
theorem prF_none {nb : Int → BS} {left : BS} (h : minOf left = none) (f : Nat) : prF nb (f + 1) left = [] := by
  show oBL (minOf left) _ = []
  rw [h]; rfl
theorem prF_some {nb : Int → BS} {left : BS} {a : Nat} (h : minOf left = some a) (f : Nat) : prF nb (f + 1) left = unL (lvB nb a) :: prF nb f (left &&& ~~~unL (lvB nb a)) := by
  show oBL (minOf left) _ = _
  rw [h]; rfl
theorem pr_ok {nb : Int → BS} (hs : ∀ i j : Nat, (nb (i : Int)).getLsbD j = true → (nb (j : Int)).getLsbD i = true) : ∀ (f : Nat) (left : BS), card left ≤ f → (∀ i j : Nat, left.getLsbD i = true → (nb (i : Int)).getLsbD j = true → left.getLsbD j = true) →
    (∀ C ∈ prF nb f left, (∀ i, C.getLsbD i = true → left.getLsbD i = true) ∧ ∀ i j : Nat, C.getLsbD i = true → (nb (i : Int)).getLsbD j = true → C.getLsbD j = true) ∧
    (prF nb f left).Pairwise (fun C D => ∀ i, C.getLsbD i = true → ¬D.getLsbD i = true) ∧ ∀ i, left.getLsbD i = true → ∃ C ∈ prF nb f left, C.getLsbD i = true := by
  intro f
  induction f with
  | zero =>
    intro left hc hcl
    exact ⟨(fun C hC => by cases hC), List.Pairwise.nil, fun i hi => by have := card_pos hi; omega⟩
  | succ f ih =>
    intro left hc hcl
    cases hm : minOf left with
    | none =>
      have hl : prF nb (f + 1) left = [] := prF_none hm f
      rw [hl]
      exact ⟨(fun C hC => by cases hC), List.Pairwise.nil, fun i hi => absurd hi (by rw [minOf_none.1 hm]; exact bit_zero i)⟩
    | some a =>
      have hl : prF nb (f + 1) left = unL (lvB nb a) :: prF nb f (left &&& ~~~unL (lvB nb a)) := prF_some hm f
      have hal : left.getLsbD a = true := minOf_mem hm
      obtain ⟨p1, p2, p3⟩ := lvB_ok (nb := nb) (bit_lt hal)
      have hPl := p3 left hal hcl
      obtain ⟨P, hP⟩ : ∃ P, P = unL (lvB nb a) := ⟨_, rfl⟩
      rw [hl]
      rw [← hP] at p1 p2 hPl ⊢
      have hcd : card (left &&& ~~~P) ≤ f := by
        have := card_lt (S := left &&& ~~~P) (T := left) (z := a) (fun i hi => ((bit_diff _ _ _).1 hi).1) hal fun h => ((bit_diff _ _ _).1 h).2 p1
        omega
      obtain ⟨q1, q2, q3⟩ := ih (left &&& ~~~P) hcd fun i j hi hij => by
        obtain ⟨h1, h2⟩ := (bit_diff _ _ _).1 hi
        exact (bit_diff _ _ _).2 ⟨hcl i j h1 hij, fun h => h2 (p2 j i h (hs i j hij))⟩
      refine ⟨fun C hC => ?_, List.pairwise_cons.2 ⟨fun D hD i hi hDi => ((bit_diff _ _ _).1 ((q1 D hD).1 i hDi)).2 hi, q2⟩, fun i hi => ?_⟩
      · rcases List.mem_cons.1 hC with rfl | hC
        · exact ⟨hPl, p2⟩
        · exact ⟨fun i hi => ((bit_diff _ _ _).1 ((q1 C hC).1 i hi)).1, (q1 C hC).2⟩
      · by_cases hiP : P.getLsbD i = true
        · exact ⟨P, List.mem_cons_self .., hiP⟩
        · obtain ⟨C, hC, hCi⟩ := q3 i ((bit_diff _ _ _).2 ⟨hi, hiP⟩)
          exact ⟨C, List.mem_cons_of_mem _ hC, hCi⟩
/-- THE TREEWIDTH IS THE GREATEST OF THE COMPONENTS' -/
theorem tw_comps {g : GT} (G : Gr.Ok g) (hl : g.1.length ≤ 12) {f : Nat} (hf : card (vset g.1) ≤ f) : twG g = maxL ((prF (nbA g) f (vset g.1)).map fun C => twG (indG g C)) := by
  obtain ⟨p1, p2, p3⟩ := pr_ok (nb_symm G) f (vset g.1) hf fun i j _ hij => nb_in G i j hij
  have h := tw_parts G hl ((prF (nbA g) f (vset g.1)).map fun C => (C, indG g C)) (fun c hc => by
    obtain ⟨C, hC, rfl⟩ := List.mem_map.1 hc
    exact ⟨indG_part G C, (p1 C hC).1, fun i j hi hij => (p1 C hC).2 i j hi ((nbA_bit G).2 hij)⟩) (List.pairwise_map.2 p2) fun i hi => by
    obtain ⟨C, hC, hCi⟩ := p3 i hi
    exact ⟨(C, indG g C), List.mem_map.2 ⟨C, hC, rfl⟩, hCi⟩
  rw [h, List.map_map, Function.comp_def]
end Go.Mono

namespace Go.Mono
open Go Go.Proofs Go.RowKit Go.Gr

theorem lvF_zero (nb : Int → BS) (f : Nat) (seen : BS) : lvF nb f 0 seen = [] := by
  cases f with
  | zero => rfl
  | succ f => rw [lvF, if_pos rfl]
theorem lv_step {nb : Int → BS} {at' seen : BS} {r : Nat} (h0 : at' ≠ 0) (hf : 1024 < r + card seen ∨ at' = 0) :
    ∃ f, r = f + 1 ∧ lvF nb r at' seen = at' :: lvF nb f (nxN nb at' &&& ~~~seen) (seen ||| (nxN nb at' &&& ~~~seen)) ∧ (1024 < f + card (seen ||| (nxN nb at' &&& ~~~seen)) ∨ nxN nb at' &&& ~~~seen = 0) := by
  have h1 := hf.resolve_right h0
  have h2 := card_le_1024 seen
  obtain ⟨f, rfl⟩ : ∃ f, r = f + 1 := ⟨r - 1, by omega⟩
  refine ⟨f, rfl, by rw [lvF, if_neg h0], ?_⟩
  generalize ha2 : nxN nb at' &&& ~~~seen = a2
  by_cases h3 : a2 = 0
  · exact .inr h3
  · left
    obtain ⟨z, hz⟩ : ∃ z, a2.getLsbD z = true := Classical.byContradiction fun hn => h3 (set_ext' fun k => ⟨fun h => absurd ⟨k, h⟩ hn, fun h => absurd h (bit_zero k)⟩)
    have := card_lt (S := seen) (T := seen ||| a2) (z := z) (fun i hi => (bit_or _ _ _).2 (.inl hi)) ((bit_or _ _ _).2 (.inr hz)) (by
      rw [← ha2] at hz; exact ((bit_diff _ _ _).1 hz).2)
    omega
def nxP (nb : Int → BS) (s : List Nat) : BS := s.foldl (fun (s : BS) (i : Nat) => s ||| nb (i : Int)) 0
theorem nxP_app (nb : Int → BS) (s : List Nat) (y : Nat) : nxP nb (s ++ [y]) = nxP nb s ||| nb (y : Int) := by rw [nxP, List.foldl_append]; rfl
theorem Ds.gro {D : List Nat} {w w' : World} {row : Option Nat} (h : Ds D w) (hg : w.grownBy w' row) (hb : ∀ d ∈ D, row ≠ some d) : Ds D w' := ⟨h.1, fun d hd => (hg.block d (h.lt hd) (fun he => hb d hd he.symm)).trans (h.2 d hd)⟩
/-- where the search stands -/
structure LvK (W : World) (N0 N : Nat) (S0 : BS) (mq : Value) (l : List (Int × BS)) (b2 b5 b6 : Nat) (u : Value) (out : List BS) (at' seen : BS) (D : List Nat) (w : World) : Prop where
  e : Ext W w
  t : Tab w
  hv : (Dv (mpE sKV N0) (GB W Go.Mono.G0) l).p mq w
  b2 : Blk w b2 (adC S0 mq) 80
  b5 : Blk w b5 (setC at') 39
  b6 : Blk w b6 (setC seen) 39
  o : OwR setE 39 N Go.Mono.G0 w out u
  ds : Ds D w
theorem LvK.kp {W : World} {N0 N : Nat} {S0 : BS} {mq : Value} {l : List (Int × BS)} {b2 b5 b6 : Nat} {u : Value} {out : List BS} {at' seen : BS} {D : List Nat} {B : Nat} {w w' : World} (h : LvK W N0 N S0 mq l b2 b5 b6 u out at' seen D w) (k : Kp B w w') (hW : W.heap.size ≤ B) (h0 : 0 < B) (l2 : b2 < B) (l5 : b5 < B) (l6 : b6 < B) (lu : ∀ g, u.ownBlock = some g → g < B) (hD : ∀ d ∈ D, d < B) :
    LvK W N0 N S0 mq l b2 b5 b6 u out at' seen D w' :=
  have no : ∀ {b}, b < B → ¬Hole B b := fun h hh => by have := hh.1; omega
  ⟨h.e.kp k hW, h.t.kp k h0, Dv.ch h.hv k.chg (fun b hb => .inr (by have := hb.1; omega)), h.b2.kp k (no l2), h.b5.kp k (no l5), h.b6.kp k (no l6), h.o.chE k.chg fun g hg => no (lu g hg), h.ds.ch k.chg fun d hd => no (hD d hd)⟩
theorem levels_spec {G : Nat → Prop} {N0 : Nat} (l : List (Int × BS)) (S0 : BS) (mq : Value) (x : Nat) (W : World) (hT : Tab W) (h : (Dv (mpE sKV N0) G l).p mq W) (hx : x < 1024) :
    Calls Tryz.prog 56 #[.agg (adC S0 mq), I (x : Nat)] W (Post (OwA setE 39 W.heap.size Go.Mono.G0 (lvB (lkS l) x)) W) := by
  have HV : (Dv (mpE sKV N0) (GB W Go.Mono.G0) l).p mq W := Dv.toB (Dv.weak h fun b _ hb => hb.elim)
  clear h
  have hT0 := hT.lt
  refine enterM (args := [.agg (adC S0 mq), I (x : Nat)]) (As := [E (.agg (adC S0 mq)), E (I (x : Nat))]) Tryz.func56 rfl Tryz.ntmps56 (Nat.le_of_ble_eq_true rfl) ?_ (fun a hf => ?_) (Nat.le_of_ble_eq_true rfl)
  · exact arg2 rfl rfl
  dsimp only [params, Nat.reduceAdd] at hf
  have e := Ext.rfl' W
  repeat refine seq ?_
  refine regn0 ?_
  refine tl_box hf rfl (by decide) fun a b2 w v2 hv2 e' hb2 hs2 B2 hf => ?_
  have hle2 := Nat.le_trans e.size (Nat.le_of_eq hb2.symm)
  replace hT := hT.ext e'
  replace HV := Dv.ex HV e'
  replace e := Ext.tr e e'
  clear e'
  refine tl_as hf rfl (by decide) fun a hf => ?_
  refine tl_nil ?_
  cases hv2
  replace B2 : Blk w b2 (adC S0 mq) 80 := B2
  replace hf := hf.keep [1, 2]
  dsimp only [keep, List.filterMap, look, Nat.beq, Option.map] at hf
  repeat refine seq ?_
  refine regn 6 hf (by decide +kernel) ?_
  refine st (mv rfl) ?_
  refine st (bsl1 (e := intE) (G := Go.Mono.G0) Tryz.underlying26 I3 rfl (by decide) rfl (fun b hb => hb.elim) (isI rfl)) ?_
  refine st ((call1 En10 rfl (fun v w he h => of_spec [(x : Int)] v w h (by simp))).eq (congrArg setV (fold1 (x : Int) 0))) ?_
  refine st (mv rfl) ?_
  refine st (bsl1 (e := intE) (G := Go.Mono.G0) Tryz.underlying26 I3 rfl (by decide) rfl (fun b hb => hb.elim) (isI rfl)) ?_
  refine st ((call1 En10 rfl (fun v w he h => of_spec [(x : Int)] v w h (by simp))).eq (congrArg setV (fold1 (x : Int) 0))) ?_
  refine en fun a w e' hf => ?_
  replace hT := hT.ext e'
  replace HV := Dv.ex HV e'
  replace e := Ext.tr e e'
  replace B2 := B2.ext e'
  clear e'
  refine tl_alloc I39 hf (by decide) fun a b5 w e' hb5 hs5 B5 hf => ?_
  have hle5 := Nat.le_trans e.size (Nat.le_of_eq hb5.symm)
  have lt5_B2 := B2.lt
  replace hT := hT.ext e'
  replace HV := Dv.ex HV e'
  replace e := Ext.tr e e'
  replace B2 := B2.ext e'
  clear e'
  refine tl_alloc I39 hf (by decide) fun a b6 w e' hb6 hs6 B6 hf => ?_
  have hle6 := Nat.le_trans e.size (Nat.le_of_eq hb6.symm)
  have lt6_B2 := B2.lt
  have lt6_B5 := B5.lt
  replace hT := hT.ext e'
  replace HV := Dv.ex HV e'
  replace e := Ext.tr e e'
  replace B2 := B2.ext e'
  replace B5 := B5.ext e'
  clear e'
  replace hf := hf.keep [2, 5, 6, 12, 15]
  dsimp only [keep, List.filterMap, look, Nat.beq, Option.map] at hf
  refine tl_stW T39 hf rfl rfl (wordsC_one _) B5 rfl (setC_size _) fun w hg hsz B5 hf => ?_
  replace e := e.gr hg (by omega); replace hT := hT.gr hg (by omega); replace HV := Dv.gr HV hg (.inr (by omega)); replace B2 := B2.gr hg (by omega); replace B6 := B6.gr hg (by omega); clear hg
  refine tl_stW T39 hf rfl rfl (wordsC_one _) B6 rfl (setC_size _) fun w hg hsz B6 hf => ?_
  replace e := e.gr hg (by omega); replace hT := hT.gr hg (by omega); replace HV := Dv.gr HV hg (.inr (by omega)); replace B2 := B2.gr hg (by omega); replace B5 := B5.gr hg (by omega); clear hg
  refine tl_nil ?_
  replace hf := hf.keep [2, 5, 6]
  dsimp only [keep, List.filterMap, look, Nat.beq, Option.map] at hf
  have n6 : b2 ≠ b5 ∧ b2 ≠ b6 ∧ b5 ≠ b6 ∧ W.heap.size ≤ b2 ∧ W.heap.size ≤ b5 ∧ W.heap.size ≤ b6 := by omega
  repeat refine seq ?_
  refine regn0 ?_
  refine tl_as hf rfl (by decide) fun a hf => ?_
  refine tl_nil ?_
  obtain ⟨N, hN⟩ : ∃ N, N = w.heap.size := ⟨_, rfl⟩
  have Ho : OwR setE 39 N Go.Mono.G0 w [] (.slice none 0 0) := OwR.nil setE _ (Nat.le_of_eq hN) (fun b hb => hb.elim)
  have hlN : b2 < N ∧ b5 < N ∧ b6 < N ∧ W.heap.size ≤ N := by have h1 := B2.lt; have h2 := B5.lt; have h3 := B6.lt; omega
  clear hN
  have hfu0 : 1024 < 1025 + card (ins 0 (x : Int)) ∨ ins 0 (x : Int) = 0 := .inl (by omega)
  replace hf := hf.keep [2, 5, 6, 7]
  dsimp only [keep, List.filterMap, look, Nat.beq, Option.map] at hf
  repeat refine seq ?_
  refine blk (loopN (fun r0 a w => ∃ (at' seen : BS) (out : List BS) (u : Value) (D : List Nat), (1024 < r0 + card seen ∨ at' = 0) ∧ out.length + r0 ≤ 1025 ∧ out ++ lvF (lkS l) r0 at' seen = lvB (lkS l) x ∧ FrD 39 (marks D) a w [(2, E (ptr b2)), (5, E (ptr b5)), (6, E (ptr b6)), (7, E u)] ∧
    LvK W N0 N S0 mq l b2 b5 b6 u out at' seen D w ∧ ∀ d ∈ D, W.heap.size ≤ d) 1025 ⟨ins 0 (x : Int), ins 0 (x : Int), [], .slice none 0 0, [], hfu0, by simp, by rw [List.nil_append, lvB], hf, ⟨e, hT, HV, B2, B5, B6, Ho, Ds.nil _⟩, fun d hd => by cases hd⟩ ?_)
  clear hf e hT HV B2 B5 B6 Ho hfu0
  rintro r0 a w ⟨at', seen, out, u, D, hfu, hle, hR, hf, ⟨e, hT, HV, B2, B5, B6, Ho, hD⟩, hDW⟩
  repeat refine seq ?_
  refine regn 3 hf (by decide +kernel) ?_
  refine st ((ldW T39 rfl B5 rfl).eq ((rfl : _ = setV at'))) ?_
  refine st (call1 (A := E (B (at' == 0))) En91 rfl (fun v w he h => by cases h; exact isEmpty_spec _ w)) ?_
  refine st (notp rfl) ?_
  refine en fun a w e' hf => ?_
  replace hT := hT.ext e'
  replace HV := Dv.ex HV e'
  replace e := Ext.tr e e'
  replace B2 := B2.ext e'
  replace B5 := B5.ext e'
  replace B6 := B6.ext e'
  replace hD := hD.ext e'
  replace Ho := Ho.ext e'
  clear e'
  refine tl_nil ?_
  repeat refine seq ?_
  refine ifc hf rfl (fun hc => wskip ?_) (fun hc => wexit ?_)
  rotate_left
  · have h0 : at' = 0 := by simpa using hc
    subst h0
    simp only [Exit.then, Exit.inBlock, ↓reduceIte]
    rw [lvF_zero, List.append_nil] at hR
    replace hf := hf.keep [7]
    dsimp only [keep, List.filterMap, look, Nat.beq, Option.map] at hf
    repeat refine seq ?_
    refine regn 1 hf (by decide +kernel) ?_
    refine st (mv rfl) ?_
    refine en fun a w e' hf => ?_
    replace e := Ext.tr e e'
    replace hD := hD.ext e'
    replace Ho := Ho.ext e'
    clear e'
    refine tl_as hf rfl (by decide) fun a hf => ?_
    refine tl_nil ?_
    refine wret ?_
    try simp only [Exit.then, Exit.inBlock]
    refine ret1M rfl hf rfl hD ⟨_, rfl, e.shut hDW, ?_⟩
    rw [← hR]
    exact (Ho.chE (chg_shut D w) fun b hb hm => Ho.neDs hD hm hb).low (by omega) fun b hb => hb.elim
  have hne : at' ≠ 0 := by
    intro h
    simp [h] at hc
  obtain ⟨f, rfl, hst, hfu2⟩ := lv_step (nb := lkS l) hne hfu
  rw [hst] at hR
  clear hc hst hfu
  simp only [Exit.then, Exit.inBlock, ↓reduceIte]
  repeat refine seq ?_
  refine blk ?_
  replace hf := hf.keep [2, 5, 6, 7]
  dsimp only [keep, List.filterMap, look, Nat.beq, Option.map] at hf
  repeat refine seq ?_
  refine regn 3 hf (by decide +kernel) ?_
  refine st (mv rfl) ?_
  refine st ((ldW T39 rfl B5 rfl).eq ((rfl : _ = setV at'))) ?_
  refine st (bsl1 Tryz.underlying78 I39 rfl (by decide) rfl Ho.avs (isS rfl)) ?_
  refine en fun a w e' hf => ?_
  replace hT := hT.ext e'
  replace HV := Dv.ex HV e'
  replace B2 := B2.ext e'
  replace B5 := B5.ext e'
  replace B6 := B6.ext e'
  replace hD := hD.ext e'
  replace Ho := Ho.ext e'
  replace e := Ext.tr e e'
  clear e'
  haveI hin : ∀ G0, InR (GB W G0) _ := OwR.inGB (W := W) Ho (by omega)
  refine tl_app Tryz.underlying78 I39 rfl rfl hf (by decide) rfl Ho (isR rfl) (by simp only [List.length_singleton]; omega) (by simp only [List.length_singleton, maxLen]; omega) fun a v w hg hat Hn hf => ?_
  replace e := e.gro hg (Ho.row (W := W) (by omega))
  have hrow := Ho.row (W := W) (by omega)
  replace hT := hT.gro hg (fun b hb => by have := hrow b hb; omega)
  replace HV := Dv.gro HV hg (fun b hb => .inr (hrow b hb))
  replace B2 := B2.gro hg (Ho.neLt (by omega))
  replace B5 := B5.gro hg (Ho.neLt (by omega))
  replace B6 := B6.gro hg (Ho.neLt (by omega))
  replace hD := hD.gro hg fun d hd => Ho.neDs hD hd
  replace Ho := Hn
  clear hrow
  replace Ho := Hn; clear Hn hg hat hin
  refine tl_as hf rfl (by decide) fun a hf => ?_
  refine tl_nil ?_
  replace hf := hf.keep [2, 5, 6, 7]
  dsimp only [keep, List.filterMap, look, Nat.beq, Option.map] at hf
  repeat refine seq ?_
  refine regn0 ?_
  refine tl_alloc I39 hf (by decide) fun a b8 w e' hb8 hs8 B8 hf => ?_
  have hle8 := Nat.le_trans e.size (Nat.le_of_eq hb8.symm)
  have ne8_Ho := Ho.ne_new hb8
  have lt8_B2 := B2.lt
  have lt8_B5 := B5.lt
  have lt8_B6 := B6.lt
  replace hT := hT.ext e'
  replace HV := Dv.ex HV e'
  replace e := Ext.tr e e'
  replace B2 := B2.ext e'
  replace B5 := B5.ext e'
  replace B6 := B6.ext e'
  replace hD := hD.ext e'
  replace Ho := Ho.ext e'
  clear e'
  refine tl_nil ?_
  simp only [Value.cells, zeroC] at B8
  have hW8 : W.heap.size ≤ b8 := hle8
  have n8 : b2 ≠ b8 ∧ b5 ≠ b8 ∧ b6 ≠ b8 := by have := B2.lt; have := B5.lt; have := B6.lt; omega
  have hu8 := ne8_Ho
  have hD8 : ¬ b8 ∈ D := hD.ne B8
  replace hf := hf.keep [2, 5, 6, 7, 8]
  dsimp only [keep, List.filterMap, look, Nat.beq, Option.map] at hf
  obtain ⟨Nz, hNz⟩ : ∃ Nz, Nz = w.heap.size := ⟨_, rfl⟩
  repeat refine seq ?_
  refine regn 2 hf (by decide +kernel) ?_
  refine st ((ldW T39 rfl B5 rfl).eq ((rfl : _ = setV at'))) ?_
  refine st (call1 (A := SeqA Nz at') En25 rfl (fun v w' he h => by cases h; exact Calls.mono (all_spec _ w') (fun en w2 ⟨u, h1, h2, b', h3, h4, h5⟩ => ⟨u, h1, h2, b', by have := he.size; omega, h4, h5⟩))) ?_
  refine en fun a w e' hf => ?_
  replace hT := hT.ext e'
  replace HV := Dv.ex HV e'
  replace e := Ext.tr e e'
  replace B2 := B2.ext e'
  replace B5 := B5.ext e'
  replace B6 := B6.ext e'
  replace B8 := B8.ext e'
  replace hD := hD.ext e'
  replace Ho := Ho.ext e'
  clear e'
  refine tl_nil ?_
  obtain ⟨vv, ⟨b24, h24, rfl, BS⟩, hf⟩ := hf.fix 24 rfl
  replace hf := hf.keep [2, 5, 6, 7, 8, 24]
  dsimp only [keep, List.filterMap, look, Nat.beq, Option.map] at hf
  have l2 := B2.lt
  have l5 := B5.lt
  have l6 := B6.lt
  have l8 := B8.lt
  have lu : ∀ g, v.ownBlock = some g → g < w.heap.size := fun g hg => (Ho.lt hg).2
  have lD : ∀ d ∈ D, d < w.heap.size := fun d hd => hD.lt hd
  have hBW : W.heap.size ≤ w.heap.size := e.size
  have h0w : 0 < w.heap.size := hT.lt
  repeat refine seq ?_
  refine blk ?_
  refine range_all3 (S := at') hf rfl BS (by decide) (fun s w1 => LvK W N0 N S0 mq l b2 b5 b6 v (out ++ [at']) at' seen D w1 ∧ Blk w1 b8 (setC (nxP (lkS l) s)) 39) (fun _ _ => False) (fun s w1 h => h.1.t)
    ⟨⟨e, hT, HV, B2, B5, B6, Ho, hD⟩, B8⟩ (fun s w1 w2 h hs k => ⟨h.1.kp k hBW h0w l2 l5 l6 lu lD, h.2.kp k (fun hh => by have := hh.1; omega)⟩) (fun _ _ _ h => h.elim) ?_ ?_ (fun _ _ _ _ _ _ h => h.elim)
  · intro lp s y rest a1 w1 hs hJ hlw hf
    have hy1024 : y < 1024 := (mem_elems.1 (by rw [hs]; simp)).1
    generalize hBz : w.heap.size = Bz at *
    refine regn0 ?_
    refine tl_as hf rfl (by decide) fun a hf => ?_
    refine tl_nil ?_
    simp only [Exit.then]
    refine ⟨Kh.rfl' _ _, fun w3 k3 hsz3 => ?_⟩
    have hJ3 := hJ.1.kp k3 hBW h0w l2 l5 l6 lu lD
    have hJ8 := hJ.2.kp k3 (fun hh => by have := hh.1; omega)
    clear e hT HV B2 B5 B6 B8 Ho hD BS hJ
    replace hf := hf.pure w3
    obtain ⟨e, hT, HV, B2, B5, B6, Ho, hD⟩ := hJ3
    have B8 := hJ8
    clear hJ8
    have kh := Kh.rfl' Bz w3
    obtain ⟨X, hX⟩ : ∃ X, X = nxP (lkS l) s := ⟨_, rfl⟩
    rw [← hX] at B8
    replace hf := hf.keep [2, 5, 6, 7, 8, 9]
    dsimp only [keep, List.filterMap, look, Nat.beq, Option.map] at hf
    repeat refine seq ?_
    refine blk ?_
    repeat refine seq ?_
    refine regn 6 hf (by decide +kernel) ?_
    refine st ((ldW T39 rfl B8 rfl).eq ((rfl : _ = setV X))) ?_
    refine st (fldA Tryz.underlying80 rfl T66 (by decide) rfl) ?_
    refine st (ld1 (v := mq) T66 rfl B2 (adC_map _ _)) ?_
    refine st (mv rfl) ?_
    refine st (lkM (l := l) (i := (y : Int)) Tryz.underlying66 zero_set (isE rfl HV) rfl (wf64 (by omega) (by omega))) ?_
    refine st (call2 (A := E (setV (X ||| lkS l (y : Int)))) En52 rfl rfl (fun v u w he h h' => by cases h; cases h'; exact union_spec X _ w)) ?_
    refine en fun a w e' hf => ?_
    replace hT := hT.ext e'
    replace HV := Dv.ex HV e'
    replace kh := kh.tr (Kh.ext e')
    replace e := Ext.tr e e'
    replace B2 := B2.ext e'
    replace B5 := B5.ext e'
    replace B6 := B6.ext e'
    replace B8 := B8.ext e'
    replace hD := hD.ext e'
    replace Ho := Ho.ext e'
    clear e'
    refine tl_stW T39 hf rfl rfl (wordsC_one _) B8 rfl (setC_size _) fun w hg hsz B8 hf => ?_
    replace e := e.gr hg (by omega); replace hT := hT.gr hg (by omega); replace HV := Dv.gr HV hg (.inr (by omega)); replace B2 := B2.gr hg (by omega); replace B5 := B5.gr hg (by omega); replace B6 := B6.gr hg (by omega); replace Ho := Ho.grE hg hu8; replace hD := hD.gr hg hD8
    replace kh := kh.tr (Kh.gr hg (fun hh => by have := hh.1; omega))
    clear hg
    refine tl_nil ?_
    simp only [Exit.inBlock]
    exact ⟨⟨⟨e, hT, HV, B2, B5, B6, Ho, hD⟩, by rw [nxP_app, ← hX]; exact B8⟩, kh⟩
  · intro a' w' hf' hJ hsz hDn
    simp only [Exit.inBlock, ↓reduceIte, Exit.then]
    have hD2 : Ds (w.heap.size :: D) w' := hJ.1.ds.cons hDn fun hm => Nat.lt_irrefl _ (lD _ hm)
    have hf : FrD 39 (marks (w.heap.size :: D)) a' w' [(2, E (ptr b2)), (5, E (ptr b5)), (6, E (ptr b6)), (7, E v), (8, E (ptr b8))] := hf'.keep [2, 5, 6, 7, 8]
    have hDW2 : ∀ d ∈ w.heap.size :: D, W.heap.size ≤ d := fun d hd => by
      rcases List.mem_cons.1 hd with rfl | hd
      · exact hBW
      · exact hDW d hd
    clear hf' e hT HV B2 B5 B6 B8 Ho BS hD hDn hDW lu lD l2 l5 l6 l8 hBW h0w
    obtain ⟨⟨e, hT, HV, B2, B5, B6, Ho, _⟩, B8⟩ := hJ
    replace hD := hD2
    clear hD2
    generalize w.heap.size :: D = D2 at *
    generalize w' = w at *
    replace B8 : Blk w b8 (setC (nxN (lkS l) at')) 39 := B8
    obtain ⟨nx, hnx⟩ : ∃ nx, nx = nxN (lkS l) at' := ⟨_, rfl⟩
    rw [← hnx] at B8 hR hfu2
    obtain ⟨a2, ha2⟩ : ∃ a2, a2 = nx &&& ~~~seen := ⟨_, rfl⟩
    rw [← ha2] at hR hfu2
    repeat refine seq ?_
    refine regn 3 hf (by decide +kernel) ?_
    refine st ((ldW T39 rfl B8 rfl).eq ((rfl : _ = setV nx))) ?_
    refine st ((ldW T39 rfl B6 rfl).eq ((rfl : _ = setV seen))) ?_
    refine st (call2 (A := E (setV a2)) En24 rfl rfl (fun v u w he h h' => by cases h; cases h'; rw [ha2]; exact minus_spec nx seen w)) ?_
    refine en fun a w e' hf => ?_
    replace hT := hT.ext e'
    replace HV := Dv.ex HV e'
    replace e := Ext.tr e e'
    replace B2 := B2.ext e'
    replace B5 := B5.ext e'
    replace B6 := B6.ext e'
    replace B8 := B8.ext e'
    replace hD := hD.ext e'
    replace Ho := Ho.ext e'
    clear e'
    have hD5 := hD.ne B5
    have hD6 := hD.ne B6
    have hu5 : v.ownBlock ≠ some b5 := Ho.neLt (by omega)
    have hu6 : v.ownBlock ≠ some b6 := Ho.neLt (by omega)
    refine tl_stW T39 hf rfl rfl (wordsC_one _) B5 (setC_size _) (setC_size _) fun w hg hsz B5 hf => ?_
    replace e := e.gr hg (by omega); replace hT := hT.gr hg (by omega); replace HV := Dv.gr HV hg (.inr (by omega)); replace B2 := B2.gr hg (by omega); replace B6 := B6.gr hg (by omega); replace Ho := Ho.grE hg hu5; replace hD := hD.gr hg hD5
    clear hg B8
    refine tl_nil ?_
    replace hf := hf.keep [2, 5, 6, 7]
    dsimp only [keep, List.filterMap, look, Nat.beq, Option.map] at hf
    repeat refine seq ?_
    refine regn 3 hf (by decide +kernel) ?_
    refine st ((ldW T39 rfl B6 rfl).eq ((rfl : _ = setV seen))) ?_
    refine st ((ldW T39 rfl B5 rfl).eq ((rfl : _ = setV a2))) ?_
    refine st (call2 (A := E (setV (seen ||| a2))) En52 rfl rfl (fun v u w he h h' => by cases h; cases h'; exact union_spec seen a2 w)) ?_
    refine en fun a w e' hf => ?_
    replace hT := hT.ext e'
    replace HV := Dv.ex HV e'
    replace e := Ext.tr e e'
    replace B2 := B2.ext e'
    replace B5 := B5.ext e'
    replace B6 := B6.ext e'
    replace hD := hD.ext e'
    replace Ho := Ho.ext e'
    clear e'
    refine tl_stW T39 hf rfl rfl (wordsC_one _) B6 (setC_size _) (setC_size _) fun w hg hsz B6 hf => ?_
    replace e := e.gr hg (by omega); replace hT := hT.gr hg (by omega); replace HV := Dv.gr HV hg (.inr (by omega)); replace B2 := B2.gr hg (by omega); replace B5 := B5.gr hg (by omega); replace Ho := Ho.grE hg hu6; replace hD := hD.gr hg hD6
    clear hg
    refine tl_nil ?_
    replace hf := hf.keep [2, 5, 6, 7]
    dsimp only [keep, List.filterMap, look, Nat.beq, Option.map] at hf
    exact ⟨f, Nat.lt_succ_self _, a2, seen ||| a2, out ++ [at'], v, D2, hfu2, by rw [List.length_append, List.length_singleton]; omega, by rw [List.append_assoc]; exact hR, hf, ⟨e, hT, HV, B2, B5, B6, Ho, hD⟩, hDW2⟩
end Go.Mono

namespace Go.Mono
open Go Go.Proofs Go.RowKit Go.Gr

theorem unL_app (l : List BS) (r : BS) : unL (l ++ [r]) = unL l ||| r := by rw [unL, List.foldl_append]; rfl
theorem lvF_len (nb : Int → BS) : ∀ (f : Nat) (a s : BS), (lvF nb f a s).length ≤ f := by
  intro f
  induction f with
  | zero => intro a s; exact Nat.le_refl _
  | succ f ih =>
    intro a s
    rw [lvF]
    split
    · exact Nat.zero_le _
    · rw [List.length_cons]; exact Nat.succ_le_succ (ih _ _)
theorem lvB_len (nb : Int → BS) (a : Nat) : (lvB nb a).length ≤ 1025 := lvF_len nb 1025 _ _
theorem prF_len (nb : Int → BS) : ∀ (f : Nat) (s : BS), (prF nb f s).length ≤ f := by
  intro f
  induction f with
  | zero => intro s; exact Nat.le_refl _
  | succ f ih =>
    intro s
    cases h : minOf s with
    | none => rw [prF_none h]; exact Nat.zero_le _
    | some a => rw [prF_some h, List.length_cons]; exact Nat.succ_le_succ (ih _)
theorem pr_step {nb : Int → BS} {left : BS} {r a : Nat} (h : minOf left = some a) (hc : card left ≤ r) :
    ∃ f, r = f + 1 ∧ prF nb r left = unL (lvB nb a) :: prF nb f (left &&& ~~~unL (lvB nb a)) ∧ card (left &&& ~~~unL (lvB nb a)) ≤ f := by
  have ha : left.getLsbD a = true := minOf_mem h
  have hp := (lvB_ok (nb := nb) (bit_lt ha)).1
  have h1 := card_lt (S := left &&& ~~~unL (lvB nb a)) (T := left) (z := a) (fun i hi => ((bit_diff _ _ _).1 hi).1) ha fun h => ((bit_diff _ _ _).1 h).2 hp
  obtain ⟨f, rfl⟩ : ∃ f, r = f + 1 := ⟨r - 1, by omega⟩
  exact ⟨f, rfl, prF_some h f, by omega⟩
theorem pr_stop {nb : Int → BS} {left : BS} {r : Nat} (h : minOf left = none) : prF nb r left = [] := by
  cases r with
  | zero => rfl
  | succ r => exact prF_none h r
/-- the components of an adjacency -/
def cmpB (l : List (Int × BS)) (S : BS) : List BS := prF (lkS l) (card S) S
theorem parts_spec {G : Nat → Prop} {N0 : Nat} (l : List (Int × BS)) (S : BS) (mq : Value) (W : World) (hT : Tab W) (h : (Dv (mpE sKV N0) G l).p mq W) :
    Calls Tryz.prog 30 #[.agg (adC S mq)] W (Post (OwA setE 39 W.heap.size Go.Mono.G0 (cmpB l S)) W) := by
  have HV : (Dv (mpE sKV N0) (GB W Go.Mono.G0) l).p mq W := Dv.toB (Dv.weak h fun b _ hb => hb.elim)
  clear h
  have hT0 := hT.lt
  refine enter (args := [.agg (adC S mq)]) (As := [E (.agg (adC S mq))]) Tryz.func30 rfl Tryz.ntmps30 (Nat.le_of_ble_eq_true rfl) ?_ (fun a hf => ?_) (Nat.le_of_ble_eq_true rfl)
  rotate_left
  dsimp only [params, Nat.reduceAdd] at hf
  rotate_right
  · exact arg1 rfl
  have e := Ext.rfl' W
  repeat refine seq ?_
  refine regn0 ?_
  refine tl_box hf rfl (by decide) fun a b1 w v1 hv1 e' hb1 hs1 B1 hf => ?_
  have hle1 := Nat.le_trans e.size (Nat.le_of_eq hb1.symm)
  replace hT := hT.ext e'
  replace HV := Dv.ex HV e'
  replace e := Ext.tr e e'
  clear e'
  refine tl_as hf rfl (by decide) fun a hf => ?_
  refine tl_nil ?_
  cases hv1
  replace B1 : Blk w b1 (adC S mq) 80 := B1
  replace hf := hf.keep [1, 2]
  dsimp only [keep, List.filterMap, look, Nat.beq, Option.map] at hf
  repeat refine seq ?_
  refine regn0 ?_
  refine tl_as hf rfl (by decide) fun a hf => ?_
  refine tl_nil ?_
  repeat refine seq ?_
  refine regn0 ?_
  refine tl_op hf (by decide) (fldA Tryz.underlying80 rfl T39 (by decide) rfl) fun a w e' hf => ?_
  replace hT := hT.ext e'
  replace HV := Dv.ex HV e'
  replace e := Ext.tr e e'
  replace B1 := B1.ext e'
  clear e'
  refine tl_op hf (by decide) ((ldP T39 rfl B1 (by rw [adC_size]; decide)).eq (congrArg Value.agg (adC_set S mq))) fun a w e' hf => ?_
  replace hT := hT.ext e'
  replace HV := Dv.ex HV e'
  replace e := Ext.tr e e'
  replace B1 := B1.ext e'
  clear e'
  refine tl_alloc I39 hf (by decide) fun a b4 w e' hb4 hs4 B4 hf => ?_
  have hle4 := Nat.le_trans e.size (Nat.le_of_eq hb4.symm)
  have lt4_B1 := B1.lt
  replace hT := hT.ext e'
  replace HV := Dv.ex HV e'
  replace e := Ext.tr e e'
  replace B1 := B1.ext e'
  clear e'
  refine tl_stW T39 hf rfl rfl (wordsC_one _) B4 rfl (setC_size _) fun w hg hsz B4 hf => ?_
  replace e := e.gr hg (by omega); replace hT := hT.gr hg (by omega); replace HV := Dv.gr HV hg (.inr (by omega)); replace B1 := B1.gr hg (by omega); clear hg
  refine tl_nil ?_
  replace hf := hf.keep [1, 3, 4]
  dsimp only [keep, List.filterMap, look, Nat.beq, Option.map] at hf
  obtain ⟨N, hN⟩ : ∃ N, N = w.heap.size := ⟨_, rfl⟩
  have Ho : OwR setE 39 N Go.Mono.G0 w [] (.slice none 0 0) := OwR.nil setE _ (Nat.le_of_eq hN) (fun b hb => hb.elim)
  have hlN : b1 < N ∧ b4 < N ∧ W.heap.size ≤ N ∧ b1 ≠ b4 ∧ W.heap.size ≤ b1 ∧ W.heap.size ≤ b4 := by have h1 := B1.lt; have h2 := B4.lt; omega
  clear hN
  repeat refine seq ?_
  refine blk (loopN (fun r0 a w => ∃ (left : BS) (out : List BS) (u : Value), card left ≤ r0 ∧ out.length + r0 ≤ card S ∧ out ++ prF (lkS l) r0 left = cmpB l S ∧ Fr 39 a w [(1, E (ptr b1)), (3, E u), (4, E (ptr b4))] ∧ Ext W w ∧ Tab w ∧ (Dv (mpE sKV N0) (GB W Go.Mono.G0) l).p mq w ∧
    Blk w b1 (adC S mq) 80 ∧ Blk w b4 (setC left) 39 ∧ OwR setE 39 N Go.Mono.G0 w out u) (card S) ⟨S, [], .slice none 0 0, Nat.le_refl _, by simp, by rw [List.nil_append, cmpB], hf, e, hT, HV, B1, B4, Ho⟩ ?_)
  clear hf e hT HV B1 B4 Ho
  rintro r0 a w ⟨left, out, u, hfu, hle, hR, hf, e, hT, HV, B1, B4, Ho⟩
  have hcS := card_le_1024 S
  repeat refine seq ?_
  refine blk ?_
  cases hq : minOf left with
  | none =>
    repeat refine seq ?_
    refine regn 7 hf (by decide +kernel) ?_
    refine st ((ldW T39 rfl B4 rfl).eq ((rfl : _ = setV left))) ?_
    refine st (call1 (A := minP left) En50 rfl (fun v w he h => by cases h; exact min_spec _ w (hT.ext he))) ?_
    refine st (mv rfl) ?_
    refine st (ext_ rfl rfl) ?_
    refine st (ext_ rfl rfl) ?_
    refine st (asg rfl) ?_
    refine st (asg rfl) ?_
    refine en fun a w e' hf => ?_
    replace hT := hT.ext e'
    replace HV := Dv.ex HV e'
    replace e := Ext.tr e e'
    replace B1 := B1.ext e'
    replace B4 := B4.ext e'
    replace Ho := Ho.ext e'
    clear e'
    refine tl_nil ?_
    rw [hq] at hf
    replace hf := hf.keep [3, 5, 6]
    dsimp only [keep, List.filterMap, look, Nat.beq, Option.map] at hf
    repeat refine seq ?_
    refine regn 2 hf (by decide +kernel) ?_
    refine st (mv rfl) ?_
    refine st ((notp rfl).eq (congrArg Value.bool (show (!(none : Option Nat).isSome) = true from rfl))) ?_
    refine en fun a w e' hf => ?_
    replace hT := hT.ext e'
    replace HV := Dv.ex HV e'
    replace e := Ext.tr e e'
    replace B1 := B1.ext e'
    replace B4 := B4.ext e'
    replace Ho := Ho.ext e'
    clear e'
    refine tl_nil ?_
    repeat refine seq ?_
    refine ifc hf rfl (fun _ => ?_) (fun h => by cases h)
    rw [pr_stop hq, List.append_nil] at hR
    rw [hR] at Ho
    repeat refine seq ?_
    refine regn 1 hf (by decide +kernel) ?_
    refine st (mv rfl) ?_
    refine en fun a w e' hf => ?_
    replace hT := hT.ext e'
    replace HV := Dv.ex HV e'
    replace e := Ext.tr e e'
    replace B1 := B1.ext e'
    replace B4 := B4.ext e'
    replace Ho := Ho.ext e'
    clear e'
    refine tl_as hf rfl (by decide) fun a hf => ?_
    refine tl_nil ?_
    refine wret ?_
    try simp only [Exit.then, Exit.inBlock]
    refine ret1 rfl hf rfl ?_
    rintro _ rfl
    exact ⟨_, rfl, e, Ho.low hlN.2.2.1 fun b hb => hb.elim⟩
  | some k =>
    obtain ⟨f, rfl, hst, hcd⟩ := pr_step (nb := lkS l) hq hfu
    have hk : k < 1024 := bit_lt (minOf_mem hq)
    rw [hst] at hR
    obtain ⟨lvs, hlvs⟩ : ∃ lvs, lvs = lvB (lkS l) k := ⟨_, rfl⟩
    have hll : lvs.length ≤ 1025 := by rw [hlvs]; exact lvB_len _ _
    rw [← hlvs] at hR hcd
    repeat refine seq ?_
    refine regn 7 hf (by decide +kernel) ?_
    refine st ((ldW T39 rfl B4 rfl).eq ((rfl : _ = setV left))) ?_
    refine st (call1 (A := minP left) En50 rfl (fun v w he h => by cases h; exact min_spec _ w (hT.ext he))) ?_
    refine st (mv rfl) ?_
    refine st (ext_ rfl rfl) ?_
    refine st (ext_ rfl rfl) ?_
    refine st (asg rfl) ?_
    refine st (asg rfl) ?_
    refine en fun a w e' hf => ?_
    replace hT := hT.ext e'
    replace HV := Dv.ex HV e'
    replace e := Ext.tr e e'
    replace B1 := B1.ext e'
    replace B4 := B4.ext e'
    replace Ho := Ho.ext e'
    clear e'
    refine tl_nil ?_
    rw [hq] at hf
    replace hf := hf.upd 5 rfl (B := E (I (k : Nat))) (fun v h => h)
    replace hf := hf.keep [1, 3, 4, 5, 6]
    dsimp only [keep, List.filterMap, look, Nat.beq, Option.map] at hf
    repeat refine seq ?_
    refine regn 2 hf (by decide +kernel) ?_
    refine st (mv rfl) ?_
    refine st ((notp rfl).eq (congrArg Value.bool (show (!(some k).isSome) = false from rfl))) ?_
    refine en fun a w e' hf => ?_
    replace hT := hT.ext e'
    replace HV := Dv.ex HV e'
    replace e := Ext.tr e e'
    replace B1 := B1.ext e'
    replace B4 := B4.ext e'
    replace Ho := Ho.ext e'
    clear e'
    refine tl_nil ?_
    repeat refine seq ?_
    refine ifc hf rfl (fun h => by cases h) (fun _ => ?_)
    refine wskip ?_
    try simp only [Exit.then, Exit.inBlock, ↓reduceIte]
    replace hf := hf.keep [1, 3, 4, 5]
    dsimp only [keep, List.filterMap, look, Nat.beq, Option.map] at hf
    repeat refine seq ?_
    refine regn0 ?_
    refine tl_alloc I39 hf (by decide) fun a b7 w e' hb7 hs7 B7 hf => ?_
    have hle7 := Nat.le_trans e.size (Nat.le_of_eq hb7.symm)
    have ne7_Ho := Ho.ne_new hb7
    have lt7_B1 := B1.lt
    have lt7_B4 := B4.lt
    replace hT := hT.ext e'
    replace HV := Dv.ex HV e'
    replace e := Ext.tr e e'
    replace B1 := B1.ext e'
    replace B4 := B4.ext e'
    replace Ho := Ho.ext e'
    clear e'
    refine tl_nil ?_
    simp only [Value.cells, zeroC] at B7
    have hu7 := ne7_Ho
    have n7 : b1 ≠ b7 ∧ b4 ≠ b7 ∧ W.heap.size ≤ b7 := by have := B1.lt; have := B4.lt; omega
    obtain ⟨N1, hN1⟩ : ∃ N1, N1 = w.heap.size := ⟨_, rfl⟩
    have hN1s : N1 ≤ w.heap.size := Nat.le_of_eq hN1
    have l7 : b7 < N1 := by rw [hN1]; exact B7.lt
    have lu : ∀ b, u.ownBlock = some b → b < N1 := fun b hb => by rw [hN1]; exact (Ho.lt hb).2
    clear hN1
    repeat refine seq ?_
    refine regn 5 hf (by decide +kernel) ?_
    refine st (ldW T80 rfl B1 (adC_size _ _)) ?_
    refine st (mv rfl) ?_
    refine st (call2 (A := OwA setE 39 N1 Go.Mono.G0 lvs) (B := E (.agg (adC S mq))) (C := E (I (k : Nat))) En56 rfl rfl (fun v u w he k1 k2 => by cases k1; cases k2; exact (levels_spec l S mq k w (hT.ext he) (Dv.ex HV he) hk).mono fun en w' ⟨u, k1, k2, k3⟩ => ⟨u, k1, k2, by rw [hlvs]; exact OwR.low k3 (Nat.le_trans hN1s he.size) fun b hb => hb.elim⟩)) ?_
    refine st (lenD Tryz.underlying78 ⟨_, rfl, fun v w _ h => OwR.sl h⟩) ?_
    refine st (mv rfl) ?_
    refine en fun a w e' hf => ?_
    replace hT := hT.ext e'
    replace HV := Dv.ex HV e'
    replace e := Ext.tr e e'
    replace B1 := B1.ext e'
    replace B4 := B4.ext e'
    replace B7 := B7.ext e'
    replace Ho := Ho.ext e'
    clear e'
    refine tl_nil ?_
    obtain ⟨lv, HoL, hf⟩ := hf.opn 22 rfl
    replace HoL : OwR setE 39 N1 Go.Mono.G0 w lvs lv := HoL
    have hr7 : lv.ownBlock ≠ some b7 := HoL.neLt l7
    clear hlvs
    replace hf := hf.keep [1, 3, 4, 7, 22, 23, 24]
    dsimp only [keep, List.filterMap, look, Nat.beq, Option.map] at hf
    replace hf := hf.keep [1, 3, 4, 7, 22, 23, 24]
    dsimp only [keep, List.filterMap, look, Nat.beq, Option.map] at hf
    repeat refine seq ?_
    refine blk (loopN (fun r0 a w => ∃ (j : Nat) , r0 = lvs.length - j ∧ j ≤ lvs.length ∧ Fr 39 a w [(1, E (ptr b1)), (3, E u), (4, E (ptr b4)), (7, E (ptr b7)), (22, E lv), (23, E (I (lvs.length : Nat))), (24, E (I j))] ∧ Ext W w ∧ Tab w ∧ (Dv (mpE sKV N0) (GB W Go.Mono.G0) l).p mq w ∧ Blk w b1 (adC S mq) 80 ∧ Blk w b4 (setC left) 39 ∧ Blk w b7 (setC (unL (lvs.take j))) 39 ∧ OwR setE 39 N Go.Mono.G0 w out u ∧ OwR setE 39 N1 Go.Mono.G0 w lvs lv) lvs.length ⟨0, rfl, by omega, hf, e, ⟨hT, HV, B1, B4, B7, Ho, HoL⟩⟩ ?_)
    clear hf e; try clear hT; try clear HV; try clear B1; try clear B4; try clear B7; try clear Ho; try clear HoL
    rintro r0 a w ⟨j, rfl, hj, hf, e, hT, HV, B1, B4, B7, Ho, HoL⟩
    repeat refine seq ?_
    refine regn 1 hf (by decide +kernel) ?_
    refine st (lss rfl rfl) ?_
    refine en fun a w e' hf => ?_
    replace hT := hT.ext e'
    replace HV := Dv.ex HV e'
    replace Ho := Ho.ext e'
    replace HoL := HoL.ext e'
    replace e := Ext.tr e e'
    replace B1 := B1.ext e'
    replace B4 := B4.ext e'
    replace B7 := B7.ext e'
    clear e'
    refine tl_nil ?_
    repeat refine seq ?_
    refine ifc hf rfl (fun hc => wskip ?_) (fun hc => wexit ?_)
    rotate_left
    rotate_left
    · have hltj : j < lvs.length := by have := of_decide_eq_true hc; (try dsimp only at this); omega
      clear hc
      replace hf := hf.keep [1, 3, 4, 7, 22, 23, 24]
      dsimp only [keep, List.filterMap, look, Nat.beq, Option.map] at hf
      repeat refine seq ?_
      refine blk ?_
      have hy := List.getElem?_eq_getElem hltj
      generalize lvs[j] = y at hy
      have hsc : unL (lvs.take (j + 1)) = unL (lvs.take j) ||| y := by rw [take_succ_get hy, unL_app]
      obtain ⟨X, hX⟩ : ∃ X, X = unL (lvs.take j) := ⟨_, rfl⟩
      rw [← hX] at hsc B7
      repeat refine seq ?_
      refine regn0 ?_
      refine tl_op hf (by decide) (idxD Tryz.underlying78 S39 (isE rfl (HoL.slN (N := Go.Mono.G0) fun b hb hh => hh)) rfl (by omega) (hy)) fun a w e' hf => ?_
      replace hT := hT.ext e'
      replace HV := Dv.ex HV e'
      replace HoL := HoL.ext e'
      replace e := Ext.tr e e'
      replace B1 := B1.ext e'
      replace B4 := B4.ext e'
      replace B7 := B7.ext e'
      replace Ho := Ho.ext e'
      clear e'
      refine tl_op hf (by decide) (ldS T39 (isR rfl)) fun a w e' hf => ?_
      replace hT := hT.ext e'
      replace HV := Dv.ex HV e'
      replace HoL := HoL.ext e'
      replace e := Ext.tr e e'
      replace B1 := B1.ext e'
      replace B4 := B4.ext e'
      replace B7 := B7.ext e'
      replace Ho := Ho.ext e'
      clear e'
      refine tl_alloc I39 hf (by decide) fun a b9 w e' hb9 hs9 B9 hf => ?_
      have hle9 := Nat.le_trans e.size (Nat.le_of_eq hb9.symm)
      have ne9_Ho := Ho.ne_new hb9
      have ne9_HoL := HoL.ne_new hb9
      have lt9_B1 := B1.lt
      have lt9_B4 := B4.lt
      have lt9_B7 := B7.lt
      replace hT := hT.ext e'
      replace HV := Dv.ex HV e'
      replace HoL := HoL.ext e'
      replace e := Ext.tr e e'
      replace B1 := B1.ext e'
      replace B4 := B4.ext e'
      replace B7 := B7.ext e'
      replace Ho := Ho.ext e'
      clear e'
      have hu9 := ne9_Ho
      have nr9 := ne9_HoL
      have n9 : b1 ≠ b9 ∧ b4 ≠ b9 ∧ b7 ≠ b9 ∧ W.heap.size ≤ b9 := by omega
      replace hf := hf.keep [1, 3, 4, 7, 9, 22, 23, 24, 27]
      dsimp only [keep, List.filterMap, look, Nat.beq, Option.map] at hf
      refine tl_stW T39 hf rfl rfl (wordsC_one _) B9 rfl (setC_size _) fun w hg hsz B9 hf => ?_
      replace e := e.gr hg (by omega); replace hT := hT.gr hg (by omega); replace HV := Dv.gr HV hg (.inr (by omega)); replace B1 := B1.gr hg (by omega); replace B4 := B4.gr hg (by omega); replace B7 := B7.gr hg (by omega); replace Ho := Ho.grE hg hu9; replace HoL := HoL.grE hg nr9; clear hg
      refine tl_nil ?_
      replace hf := hf.keep [1, 3, 4, 7, 9, 22, 23, 24]
      dsimp only [keep, List.filterMap, look, Nat.beq, Option.map] at hf
      repeat refine seq ?_
      refine regn 3 hf (by decide +kernel) ?_
      refine st ((ldW T39 rfl B7 rfl).eq ((rfl : _ = setV X))) ?_
      refine st ((ldW T39 rfl B9 rfl).eq ((rfl : _ = setV y))) ?_
      refine st (call2 (A := E (setV (X ||| y))) En52 rfl rfl (fun v u w he h h' => by cases h; cases h'; exact union_spec X y w)) ?_
      refine en fun a w e' hf => ?_
      replace hT := hT.ext e'
      replace HV := Dv.ex HV e'
      replace HoL := HoL.ext e'
      replace e := Ext.tr e e'
      replace B1 := B1.ext e'
      replace B4 := B4.ext e'
      replace B7 := B7.ext e'
      replace B9 := B9.ext e'
      replace Ho := Ho.ext e'
      clear e'
      refine tl_stW T39 hf rfl rfl (wordsC_one _) B7 rfl (setC_size _) fun w hg hsz B7 hf => ?_
      replace e := e.gr hg (by omega); replace hT := hT.gr hg (by omega); replace HV := Dv.gr HV hg (.inr (by omega)); replace B1 := B1.gr hg (by omega); replace B4 := B4.gr hg (by omega); replace Ho := Ho.grE hg hu7; replace HoL := HoL.grE hg hr7; clear hg
      refine tl_nil ?_
      rw [← hsc] at B7
      replace hf := hf.keep [1, 3, 4, 7, 22, 23, 24]
      dsimp only [keep, List.filterMap, look, Nat.beq, Option.map] at hf
      try simp only [Exit.then, Exit.inBlock, ↓reduceIte]
      repeat refine seq ?_
      refine regn 1 hf (by decide +kernel) ?_
      refine st ((add rfl rfl (by omega)).eq (congrArg (Value.int .i64) (show (j : Int) + 1 = ((j + 1 : Nat) : Int) from rfl))) ?_
      refine en fun a w e' hf => ?_
      replace hT := hT.ext e'
      replace HV := Dv.ex HV e'
      replace Ho := Ho.ext e'
      replace HoL := HoL.ext e'
      replace e := Ext.tr e e'
      replace B1 := B1.ext e'
      replace B4 := B4.ext e'
      replace B7 := B7.ext e'
      clear e'
      refine tl_op hf (by decide) (mv rfl) fun a w e' hf => ?_
      replace hT := hT.ext e'
      replace HV := Dv.ex HV e'
      replace Ho := Ho.ext e'
      replace HoL := HoL.ext e'
      replace e := Ext.tr e e'
      replace B1 := B1.ext e'
      replace B4 := B4.ext e'
      replace B7 := B7.ext e'
      clear e'
      refine tl_nil ?_
      replace hf := hf.keep [1, 3, 4, 7, 22, 23, 24]
      dsimp only [keep, List.filterMap, look, Nat.beq, Option.map] at hf
      refine ⟨_, ?_, j + 1, rfl, by omega, hf, e, ?_⟩
      · omega
      exact ⟨hT, HV, B1, B4, B7, Ho, HoL⟩
    · obtain rfl : j = lvs.length := by have := of_decide_eq_false hc; (try dsimp only at this); omega
      clear hc
      simp only [Exit.then, Exit.inBlock, ↓reduceIte]
      rw [List.take_length] at B7
      obtain ⟨P, hP⟩ : ∃ P, P = unL lvs := ⟨_, rfl⟩
      rw [← hP] at B7 hR hcd
      clear HoL hr7
      replace hf := hf.keep [1, 3, 4, 7]
      dsimp only [keep, List.filterMap, look, Nat.beq, Option.map] at hf
      repeat refine seq ?_
      refine regn 3 hf (by decide +kernel) ?_
      refine st (mv rfl) ?_
      refine st ((ldW T39 rfl B7 rfl).eq ((rfl : _ = setV P))) ?_
      refine st (bsl1 Tryz.underlying78 I39 rfl (by decide) rfl Ho.avs (isS rfl)) ?_
      refine en fun a w e' hf => ?_
      replace hT := hT.ext e'
      replace HV := Dv.ex HV e'
      replace B1 := B1.ext e'
      replace B4 := B4.ext e'
      replace B7 := B7.ext e'
      replace Ho := Ho.ext e'
      replace e := Ext.tr e e'
      clear e'
      haveI hin : ∀ G0, InR (GB W G0) _ := OwR.inGB (W := W) Ho (by omega)
      refine tl_app Tryz.underlying78 I39 rfl rfl hf (by decide) rfl Ho (isR rfl) (by simp only [List.length_singleton]; omega) (by simp only [List.length_singleton, maxLen]; omega) fun a v w hg hat Hn hf => ?_
      replace e := e.gro hg (Ho.row (W := W) (by omega))
      have hrow := Ho.row (W := W) (by omega)
      replace hT := hT.gro hg (fun b hb => by have := hrow b hb; omega)
      replace HV := Dv.gro HV hg (fun b hb => .inr (hrow b hb))
      replace B1 := B1.gro hg (Ho.neLt (by omega))
      replace B4 := B4.gro hg (Ho.neLt (by omega))
      replace B7 := B7.gro hg hu7
      replace Ho := Hn
      clear hrow
      replace Ho := Hn; clear Hn hg hat hin
      refine tl_as hf rfl (by decide) fun a hf => ?_
      refine tl_nil ?_
      replace hf := hf.keep [1, 3, 4, 7]
      dsimp only [keep, List.filterMap, look, Nat.beq, Option.map] at hf
      repeat refine seq ?_
      refine regn 3 hf (by decide +kernel) ?_
      refine st ((ldW T39 rfl B4 rfl).eq ((rfl : _ = setV left))) ?_
      refine st ((ldW T39 rfl B7 rfl).eq ((rfl : _ = setV P))) ?_
      refine st (call2 (A := E (setV (left &&& ~~~P))) En24 rfl rfl (fun v u w he h h' => by cases h; cases h'; exact minus_spec left P w)) ?_
      refine en fun a w e' hf => ?_
      replace hT := hT.ext e'
      replace HV := Dv.ex HV e'
      replace e := Ext.tr e e'
      replace B1 := B1.ext e'
      replace B4 := B4.ext e'
      replace B7 := B7.ext e'
      replace Ho := Ho.ext e'
      clear e'
      have hu4 : v.ownBlock ≠ some b4 := Ho.neLt (by omega)
      refine tl_stW T39 hf rfl rfl (wordsC_one _) B4 rfl (setC_size _) fun w hg hsz B4 hf => ?_
      replace e := e.gr hg (by omega); replace hT := hT.gr hg (by omega); replace HV := Dv.gr HV hg (.inr (by omega)); replace B1 := B1.gr hg (by omega); replace Ho := Ho.grE hg hu4; clear hg
      refine tl_nil ?_
      replace hf := hf.keep [1, 3, 4]
      dsimp only [keep, List.filterMap, look, Nat.beq, Option.map] at hf
      try simp only [Exit.then, Exit.inBlock, ↓reduceIte]
      exact ⟨f, Nat.lt_succ_self _, left &&& ~~~P, out ++ [P], v, hcd, by rw [List.length_append, List.length_singleton]; omega, by rw [List.append_assoc]; exact hR, hf, e, hT, HV, B1, B4, Ho⟩
theorem collectO_spec (S : BS) (b : Nat) (W : World) (hT : Tab W) (hb : Blk W b (setC S) 39) :
    Calls Tryz.prog 57 #[seqV b] W (Post (OwA intE 3 W.heap.size Go.Mono.G0 (natE (elems S))) W) := by
  refine enter (args := [seqV b]) (As := [E (seqV b)]) Tryz.func57 rfl Tryz.ntmps57 (Nat.le_of_ble_eq_true rfl) ?_ (fun a hf => ?_) (Nat.le_of_ble_eq_true rfl)
  rotate_left
  dsimp only [params, Nat.reduceAdd] at hf
  rotate_right
  · exact arg1 rfl
  have e := Ext.rfl' W
  repeat refine seq ?_
  refine regn0 ?_
  refine tl_as hf rfl (by decide) fun a hf => ?_
  refine tl_nil ?_
  have hWN : W.heap.size ≤ W.heap.size := Nat.le_refl _
  have hNs := hWN
  repeat refine seq ?_
  refine regn 2 hf (by decide +kernel) ?_
  refine st (mv rfl) ?_
  refine st (call2 (A := OwA intE 3 W.heap.size Go.Mono.G0 (natE (elems S))) (B := E (.slice none 0 0)) (C := E (seqV b)) En96 rfl rfl (fun v u w he k1 k2 => by cases k1; cases k2; exact (appendSeq_spec S b w (hT.ext he) (hb.ext he)).mono fun en w' ⟨u, k1, k2, k3⟩ => ⟨u, k1, k2, OwR.low k3 (Nat.le_trans hNs he.size) fun b hb => hb.elim⟩)) ?_
  refine en fun a w e' hf => ?_
  replace hT := hT.ext e'
  replace e := Ext.tr e e'
  replace hb := hb.ext e'
  clear e'
  refine tl_as hf rfl (by decide) fun a hf => ?_
  refine tl_nil ?_
  refine wret ?_
  try simp only [Exit.then, Exit.inBlock]
  refine ret1 rfl hf rfl ?_
  intro v hv
  exact ⟨_, rfl, e, (OwR.low hv hWN fun b hb => hb.elim)⟩
theorem elementsO_spec (S : BS) (W : World) (hT : Tab W) : Calls Tryz.prog 31 #[setV S] W (Post (OwA intE 3 W.heap.size Go.Mono.G0 (natE (elems S))) W) := by
  have hT0 := hT.lt
  refine enter (args := [setV S]) (As := [E (setV S)]) Tryz.func31 rfl Tryz.ntmps31 (Nat.le_of_ble_eq_true rfl) ?_ (fun a hf => ?_) (Nat.le_of_ble_eq_true rfl)
  rotate_left
  dsimp only [params, Nat.reduceAdd] at hf
  rotate_right
  · exact arg1 rfl
  have e := Ext.rfl' W
  repeat refine seq ?_
  refine regn0 ?_
  refine tl_box hf rfl (by decide) fun a b1 w v1 hv1 e' hb1 hs1 B1 hf => ?_
  have hle1 := Nat.le_trans e.size (Nat.le_of_eq hb1.symm)
  replace hT := hT.ext e'
  replace e := Ext.tr e e'
  clear e'
  refine tl_as hf rfl (by decide) fun a hf => ?_
  refine tl_nil ?_
  cases hv1
  replace B1 : Blk w b1 (setC S) 39 := B1
  obtain ⟨N, hN⟩ : ∃ N, N = w.heap.size := ⟨_, rfl⟩
  have hNs : N ≤ w.heap.size := Nat.le_of_eq hN
  have hWN : W.heap.size ≤ N := by rw [hN]; exact e.size
  clear hN
  repeat refine seq ?_
  refine regn 3 hf (by decide +kernel) ?_
  refine st ((ldW T39 rfl B1 rfl).eq ((rfl : _ = setV S))) ?_
  refine st (call1 (A := SeqA 0 S) En25 rfl (fun v w' he h => by cases h; exact Calls.mono (all_spec _ w') (fun en w2 ⟨u, h1, h2, b', h3, h4, h5⟩ => ⟨u, h1, h2, b', Nat.zero_le _, h4, h5⟩))) ?_
  refine st (call1 (A := OwA intE 3 N Go.Mono.G0 (natE (elems S))) En57 rfl (fun v w he ⟨b, _, hv, hb⟩ => by rw [hv]; exact (collectO_spec S b w (hT.ext he) hb).mono fun en w' ⟨u, k1, k2, k3⟩ => ⟨u, k1, k2, OwR.low k3 (Nat.le_trans hNs he.size) fun b hb => hb.elim⟩)) ?_
  refine en fun a w e' hf => ?_
  replace hT := hT.ext e'
  replace e := Ext.tr e e'
  replace B1 := B1.ext e'
  clear e'
  refine tl_as hf rfl (by decide) fun a hf => ?_
  refine tl_nil ?_
  refine wret ?_
  try simp only [Exit.then, Exit.inBlock]
  refine ret1 rfl hf rfl ?_
  intro v hv
  exact ⟨_, rfl, e, (OwR.low hv hWN fun b hb => hb.elim)⟩
/-- an adjacency -/
def AdjA (l : List (Int × BS)) (S : BS) (N0 : Nat) : VA := ⟨fun v w => ∃ mq, v = .agg (adC S mq) ∧ (Dv (mpE sKV N0) Go.Mono.G0 l).p mq w, fun v w w' e ⟨mq, h1, h2⟩ => ⟨mq, h1, Dv.ex h2 e⟩⟩
def elL (C : BS) : List Int := natE (elems C)
theorem elL_len (C : BS) : (elL C).length ≤ 1024 := by rw [elL, natE, List.length_map]; exact elems_len C
theorem comps_spec {G : Nat → Prop} {N : Nat} (g : GT) (v : Value) (W : World) (hT : Tab W) (h : (Dv (ptE (grE N)) G (some g)).p v W) (gs1 : g.1.Pairwise fun x y => lt1 x.1 y.1 = true) (gs2 : g.2.Pairwise fun x y => lt2 x.1 y.1 = true) (hl1 : g.1.length ≤ 100000) (hl2 : g.2.length ≤ 100000) (hN : N ≤ 1000000) :
    Calls Tryz.prog 8 #[v] W (Post (Dv (slE (slE intE)) Go.Mono.G0 ((prF (nbA g) (card (vset g.1)) (vset g.1)).map elL)) W) := by
  have hgd : (Dv (ptE (grE N)) Go.Mono.G0 (some g)).p v W := Dv.weak h fun b _ hb => hb.elim
  clear h
  obtain ⟨l, hl⟩ : ∃ l, l = nbL g (elems (vset g.1)) := ⟨_, rfl⟩
  obtain ⟨S, hS⟩ : ∃ S, S = vset g.1 := ⟨_, rfl⟩
  obtain ⟨ps, hps⟩ : ∃ ps, ps = cmpB l S := ⟨_, rfl⟩
  have hpl : ps.length ≤ 1024 := by rw [hps, cmpB]; exact Nat.le_trans (prF_len _ _ _) (card_le_1024 S)
  have hgoal : prF (nbA g) (card (vset g.1)) (vset g.1) = ps := by rw [hps, cmpB, hl, hS, nbA]
  rw [hgoal]
  clear hgoal
  have hT0 := hT.lt
  refine enter (args := [v]) (As := [E v]) Tryz.func8 rfl Tryz.ntmps8 (Nat.le_of_ble_eq_true rfl) ?_ (fun a hf => ?_) (Nat.le_of_ble_eq_true rfl)
  rotate_left
  dsimp only [params, Nat.reduceAdd] at hf
  rotate_right
  · exact arg1 rfl
  have e := Ext.rfl' W
  repeat refine seq ?_
  refine regn0 ?_
  refine tl_as hf rfl (by decide) fun a hf => ?_
  refine tl_nil ?_
  repeat refine seq ?_
  refine regn0 ?_
  refine tl_as hf rfl (by decide) fun a hf => ?_
  refine tl_nil ?_
  obtain ⟨N1, hN1⟩ : ∃ N1, N1 = W.heap.size := ⟨_, rfl⟩
  have hN1s : N1 ≤ W.heap.size := Nat.le_of_eq hN1
  have hWN : W.heap.size ≤ N1 := by rw [hN1]; exact e.size
  clear hN1
  have e0 := e
  repeat refine seq ?_
  refine regn 5 hf (by decide +kernel) ?_
  refine st (mv rfl) ?_
  refine st (call1 (A := AdjA l S 1024) En29 rfl (fun v w he k => by cases k; rw [hl, hS]; exact (of07_spec g _ w (hT.ext he) (VA.st _ _ _ _ (Ext.tr e0 he) hgd) gs1 gs2 hl1 hl2 hN).mono fun en w' ⟨k1, mq, k2, k3⟩ => ⟨_, k2, k1, mq, rfl, k3⟩)) ?_
  refine st (call1 (A := OwA setE 39 N1 Go.Mono.G0 ps) (B := AdjA l S 1024) En30 rfl (fun v w he ⟨mq, k1, k2⟩ => by rw [k1, hps]; exact (parts_spec l S mq w (hT.ext he) k2).mono fun en w' ⟨u, k1, k2, k3⟩ => ⟨u, k1, k2, OwR.low k3 (Nat.le_trans hN1s he.size) fun b hb => hb.elim⟩)) ?_
  refine st (lenD Tryz.underlying78 ⟨_, rfl, fun v w _ h => OwR.sl h⟩) ?_
  refine st (mv rfl) ?_
  refine en fun a w e' hf => ?_
  replace hT := hT.ext e'
  replace e := Ext.tr e e'
  clear e'
  refine tl_nil ?_
  obtain ⟨pv, HoL, hf⟩ := hf.opn 8 rfl
  replace HoL : OwR setE 39 N1 Go.Mono.G0 w ps pv := HoL
  clear hps e0 hN1s
  obtain ⟨N2, hN2⟩ : ∃ N2, N2 = w.heap.size := ⟨_, rfl⟩
  have lp : ∀ b, pv.ownBlock = some b → b < N2 := fun b hb => by rw [hN2]; exact (HoL.lt hb).2
  have X : OwX (slE intE) 26 N2 Go.Mono.G0 w [] (.slice none 0 0) := OwX.nil _ _ (Nat.le_of_eq hN2)
  have hWN2 : W.heap.size ≤ N2 := by rw [hN2]; exact e.size
  clear hN2
  replace hf := hf.keep [3, 8, 9, 10]
  dsimp only [keep, List.filterMap, look, Nat.beq, Option.map] at hf
  replace hf := hf.keep [3, 8, 9, 10]
  dsimp only [keep, List.filterMap, look, Nat.beq, Option.map] at hf
  repeat refine seq ?_
  refine blk (loopN (fun r0 a w => ∃ (j : Nat) (u : Value), r0 = ps.length - j ∧ j ≤ ps.length ∧ Fr 21 a w [(3, E u), (8, E pv), (9, E (I (ps.length : Nat))), (10, E (I j))] ∧ Ext W w ∧ Tab w ∧ OwR setE 39 N1 Go.Mono.G0 w ps pv ∧ OwX (slE intE) 26 N2 Go.Mono.G0 w ((ps.take j).map elL) u) ps.length ⟨0, .slice none 0 0, rfl, by omega, hf, e, ⟨hT, HoL, X⟩⟩ ?_)
  clear hf e; try clear hT; try clear HoL; try clear X
  rintro r0 a w ⟨j, u, rfl, hj, hf, e, hT, HoL, X⟩
  repeat refine seq ?_
  refine regn 1 hf (by decide +kernel) ?_
  refine st (lss rfl rfl) ?_
  refine en fun a w e' hf => ?_
  replace hT := hT.ext e'
  replace HoL := HoL.ext e'
  replace X := X.ext e'
  replace e := Ext.tr e e'
  clear e'
  refine tl_nil ?_
  repeat refine seq ?_
  refine ifc hf rfl (fun hc => wskip ?_) (fun hc => wexit ?_)
  rotate_left
  rotate_left
  · have hltj : j < ps.length := by have := of_decide_eq_true hc; (try dsimp only at this); omega
    clear hc
    replace hf := hf.keep [3, 8, 9, 10]
    dsimp only [keep, List.filterMap, look, Nat.beq, Option.map] at hf
    repeat refine seq ?_
    refine blk ?_
    have hy := List.getElem?_eq_getElem hltj
    generalize ps[j] = C at hy
    have hsc : (ps.take (j + 1)).map elL = (ps.take j).map elL ++ [elL C] := by rw [take_succ_get hy, List.map_append]; rfl
    have hlo : ((ps.take j).map elL).length ≤ 1024 := by rw [List.length_map]; exact Nat.le_trans (List.length_take_le' _ _) hpl
    generalize (ps.take j).map elL = out at hsc hlo X
    obtain ⟨N3, hN3⟩ : ∃ N3, N3 = w.heap.size := ⟨_, rfl⟩
    have hN3s : N3 ≤ w.heap.size := Nat.le_of_eq hN3
    have lu : ∀ b, u.ownBlock = some b → b < N3 := fun b hb => by rw [hN3]; exact (X.lt hb).2
    replace X := X.weak (G' := fun b => N3 ≤ b) fun b hb h => by rw [hN3] at h; exact absurd hb (Nat.not_lt.2 h)
    clear hN3
    repeat refine seq ?_
    refine regn0 ?_
    refine tl_op hf (by decide) (idxD Tryz.underlying78 S39 (isE rfl (HoL.slN (N := Go.Mono.G0) fun b hb hh => hh)) rfl (by omega) (hy)) fun a w e' hf => ?_
    replace hT := hT.ext e'
    replace X := X.ext e'
    replace hN3s := Nat.le_trans hN3s e'.size
    replace e := Ext.tr e e'
    replace HoL := HoL.ext e'
    clear e'
    refine tl_op hf (by decide) (ldS T39 (isR rfl)) fun a w e' hf => ?_
    replace hT := hT.ext e'
    replace X := X.ext e'
    replace hN3s := Nat.le_trans hN3s e'.size
    replace e := Ext.tr e e'
    replace HoL := HoL.ext e'
    clear e'
    refine tl_alloc I39 hf (by decide) fun a b5 w e' hb5 hs5 B5 hf => ?_
    have hle5 := Nat.le_trans e.size (Nat.le_of_eq hb5.symm)
    have lo5_hN3s := Nat.le_trans hN3s (Nat.le_of_eq hb5.symm)
    have ne5_HoL := HoL.ne_new hb5
    replace hT := hT.ext e'
    replace X := X.ext e'
    replace hN3s := Nat.le_trans hN3s e'.size
    replace e := Ext.tr e e'
    replace HoL := HoL.ext e'
    clear e'
    have hr5 := ne5_HoL
    have h5 : N3 ≤ b5 := lo5_hN3s
    have hW5 : W.heap.size ≤ b5 := hle5
    have hu5 : u.ownBlock ≠ some b5 := fun h => by have := lu b5 h; omega
    replace hf := hf.keep [3, 5, 8, 9, 10, 13]
    dsimp only [keep, List.filterMap, look, Nat.beq, Option.map] at hf
    refine tl_stW T39 hf rfl rfl (wordsC_one _) B5 rfl (setC_size _) fun w hg hsz B5 hf => ?_
    replace X := X.ch ((Chg.rfl' (fun b => b = b5) _).gr hg (.inl rfl)) (fun b hb h => hu5 (by rw [← h]; exact hb)) (fun b h => by rw [h]; exact h5)
    replace e := e.gr hg (by omega); replace hT := hT.gr hg (by omega); replace HoL := HoL.grE hg hr5; clear hg
    refine tl_nil ?_
    replace X := X.weak (G' := Go.Mono.G0) fun b _ h => h.elim
    have hlu : ∀ b, GO Go.Mono.G0 u b → b < w.heap.size := fun b hb => hb.elim (fun h => h.elim) fun h => (X.lt h).2
    replace hf := hf.keep [3, 5, 8, 9, 10]
    dsimp only [keep, List.filterMap, look, Nat.beq, Option.map] at hf
    repeat refine seq ?_
    refine regn 4 hf (by decide +kernel) ?_
    refine st (mv rfl) ?_
    refine st ((ldW T39 rfl B5 rfl).eq ((rfl : _ = setV C))) ?_
    refine st (call1 (A := Dv (slE intE) (GO Go.Mono.G0 u) (elL C)) En31 rfl (fun v w he h => by cases h; exact (elementsO_spec C w (hT.ext he)).mono fun en w' ⟨z, k1, k2, k3⟩ => ⟨z, k1, k2, OwR.slN k3 fun b hb hh => by have h1 := hlu b hh; have h2 := (k3.lt hb).1; have h3 := he.size; omega⟩)) ?_
    refine st (bsl1 Tryz.underlying34 I26 rfl (by decide) rfl hlu (isR rfl)) ?_
    refine en fun a w e' hf => ?_
    replace hT := hT.ext e'
    replace X := X.ext e'
    replace e := Ext.tr e e'
    replace B5 := B5.ext e'
    replace HoL := HoL.ext e'
    clear e'
    have hrow : ∀ b, u.ownBlock = some b → N2 ≤ b := fun b hb => (X.lt hb).1
    refine tl_appX Tryz.underlying34 I26 rfl rfl hf (by decide) rfl X (isR rfl) (by simp only [List.length_singleton]; omega) (by simp only [List.length_singleton, maxLen]; omega) fun a u' w hg hat Hn hf => ?_
    replace e := e.gro hg (fun b hb => by have := hrow b hb; omega)
    replace hT := hT.gro hg (fun b hb => by have := hrow b hb; omega)
    replace HoL := HoL.groE hg (fun b hb hh => by have h1 := hrow b hh; have h2 := lp b hb; omega)
    clear X hg hat hrow B5
    have X := Hn
    clear Hn
    rw [← hsc] at X
    replace hf := hf.keep [3, 8, 9, 10, 18]
    dsimp only [keep, List.filterMap, look, Nat.beq, Option.map] at hf
    refine tl_as hf rfl (by decide) fun a hf => ?_
    refine tl_nil ?_
    try simp only [Exit.then, Exit.inBlock, ↓reduceIte]
    repeat refine seq ?_
    refine regn 1 hf (by decide +kernel) ?_
    refine st ((add rfl rfl (by omega)).eq (congrArg (Value.int .i64) (show (j : Int) + 1 = ((j + 1 : Nat) : Int) from rfl))) ?_
    refine en fun a w e' hf => ?_
    replace hT := hT.ext e'
    replace HoL := HoL.ext e'
    replace X := X.ext e'
    replace e := Ext.tr e e'
    clear e'
    refine tl_op hf (by decide) (mv rfl) fun a w e' hf => ?_
    replace hT := hT.ext e'
    replace HoL := HoL.ext e'
    replace X := X.ext e'
    replace e := Ext.tr e e'
    clear e'
    refine tl_nil ?_
    replace hf := hf.keep [3, 8, 9, 10]
    dsimp only [keep, List.filterMap, look, Nat.beq, Option.map] at hf
    refine ⟨_, ?_, j + 1, _, rfl, by omega, hf, e, ?_⟩
    · omega
    exact ⟨hT, HoL, X⟩
  · obtain rfl : j = ps.length := by have := of_decide_eq_false hc; (try dsimp only at this); omega
    clear hc
    simp only [Exit.then, Exit.inBlock, ↓reduceIte]
    rw [List.take_length] at X
    replace hf := hf.keep [3]
    dsimp only [keep, List.filterMap, look, Nat.beq, Option.map] at hf
    repeat refine seq ?_
    refine regn 1 hf (by decide +kernel) ?_
    refine st (mv rfl) ?_
    refine en fun a w e' hf => ?_
    replace X := X.ext e'
    replace e := Ext.tr e e'
    clear e'
    refine tl_as hf rfl (by decide) fun a hf => ?_
    refine tl_nil ?_
    refine wret ?_
    try simp only [Exit.then, Exit.inBlock]
    refine ret1 rfl hf rfl ?_
    rintro _ rfl
    exact ⟨_, rfl, e, X.sl0⟩
end Go.Mono
