/-
  Walks and plain facts, in this order: Tw3, TwL, MatB, R23a, R23b, TwC, MonoC, R23c, R23d, MonoN, TwO, TwM, R23e, R23f, Elms, Out, Bal3, Bal4, Bal5, Split, Centre, Path, Splitter, Bal, BelowS, Chked, Balance, Bal6, Bal7, Depth3, Bal8, Bal9, BalA, BalB, TwR, R23g.
  No condition.
-/
import Derived.Test.YtnknjdnfbaaeoaaGreatDoorFE
import Derived.Test.YtnknjdnfbaaeoaaGreatDoorFC
import Derived.Test.YtnknjdnfbaaeoaaGreatDoorFB
import Derived.ArgAppend
import Derived.Deep.Upon
import Derived.Deep.Slices
import Derived.Test.YtnknjdnfbaaeoaaGreatDoorFA
import Derived.Test.YtnknjdnfbaaeoaaGreatDoorFD
set_option linter.unusedVariables false
set_option linter.unusedSimpArgs false
namespace Go.Mono
open Go Go.Proofs Go.RowKit Go.Gr

/-- the end of a function: a slot and what a block holds -/
theorem ret2t {P : Program} {fn : Func} {t u s k : Nat} {R : Ending → World → Prop} {n : Nat} {a : Act} {w : World} {L : Env} {b : Nat} {cs : Array Value} {bt : TypeId} {A : VA} (hr : fn.results = #[.tmp s, .cell t u]) (ht : TI P u true k) (hf : Fr n a w L) (h : look L t = some (E (.pointer (some ⟨b, 0, none⟩)))) (h' : look L s = some A)
    (hb : Blk w b cs bt) (hs : cs.size = k) (hR : ∀ x, A.p x w → R (.returned (.tuple #[x, .agg cs])) w) : bodyPost P fn R .ret a w := by
  have hv : a.tmps.getD t undef = .pointer (some ⟨b, 0, none⟩) := hf.val t _ h
  have hv' : a.tmps[t]?.getD undef = .pointer (some ⟨b, 0, none⟩) := by simpa using hv
  obtain ⟨d, h1, h2⟩ := ht.u
  have hl := run_loadVar_row (P := P) w b bt u cs (0, 0) d hb h1 (by cases d <;> simp_all) (by rw [ht.s, hs])
  exact ⟨hf.defers, .tuple #[a.eval (.tmp s), .agg cs], by simp [results, hr, Act.eval, hv', asAddr, hl], hR _ (hf.val s A h')⟩
/-- the program's graph and the reference's: none where the graph is wrong or large -/
def frW (g : GT) (most : Int) : GT × Bool := if (decide (most < (g.1.length : Nat)) || decide ((40 : Int) < (g.2.length : Nat))) = true then (g, false) else if (ofR g.1 g.2).2 ≠ 0 then (g, false) else ((ofR g.1 g.2).1, true)
noncomputable def FrA (g : GT) (most : Int) : VA := ⟨fun v w => ((frW g most).2 = true → (Dv (ptE (grE 2000)) Go.Mono.G0 (some (frW g most).1)).p v w) ∧ ((frW g most).2 = false → v = .pointer none), fun v w w' e h => ⟨fun hc => Dv.ex (h.1 hc) e, h.2⟩⟩
theorem ofR_len {V : List VT} {E : List ET} (h : (ofR V E).2 = 0) : (ofR V E).1.1.length ≤ V.length + E.length ∧ (ofR V E).1.2.length ≤ V.length + E.length := by
  have : ∀ (l : List DT) (g : GT) (m : Nat), g.1.length ≤ m → g.2.length ≤ m → (l.foldl ofS (g, 0)).2 = 0 → (l.foldl ofS (g, 0)).1.1.length ≤ m + l.length ∧ (l.foldl ofS (g, 0)).1.2.length ≤ m + l.length := by
    intro l
    induction l with
    | nil => intro g m h1 h2 _; exact ⟨h1, h2⟩
    | cons d l ih =>
      intro g m h1 h2 h3
      rw [List.foldl_cons] at h3 ⊢
      by_cases hd : (doR g d).2 = 0
      · have e1 : ofS (g, 0) d = ((doR g d).1, 0) := by rw [ofS, if_neg (by simp), if_neg (by simpa using hd)]
        rw [e1] at h3 ⊢
        have := doR_len g d
        have h5 := ih (doR g d).1 (m + 1) (by omega) (by omega) h3
        rw [List.length_cons]; omega
      · have e1 : ofS (g, 0) d = (([], []), (doR g d).2) := by rw [ofS, if_neg (by simp), if_pos hd]
        rw [e1, ofS_stop (s := (([], []), (doR g d).2)) hd] at h3
        exact absurd h3 hd
  have h2 := this (V.map dV ++ E.map dE) ([], []) 0 (Nat.le_refl _) (Nat.le_refl _) h
  simpa [ofR] using h2
theorem ofR_ok {V : List VT} {E : List ET} (hV : ∀ x ∈ V, 0 ≤ x.2.1 ∧ x.2.1 < 256) (hE : ∀ x ∈ E, 0 ≤ x.2.1 ∧ x.2.1 < 256) : Gr.Ok (ofR V E).1 := by
  have z : Gr.Ok (([], []) : GT) := ⟨List.Pairwise.nil, List.Pairwise.nil, by simp, by simp, by simp⟩
  have : ∀ (l : List DT) (s : GT × Int), Gr.Ok s.1 → (∀ d ∈ l, 0 ≤ d.2.2.2.1 ∧ d.2.2.2.1 < 256) → Gr.Ok (l.foldl ofS s).1 := by
    intro l
    induction l with
    | nil => intro s h _; exact h
    | cons d l ih =>
      intro s h hl
      rw [List.foldl_cons]
      refine ih _ ?_ fun d hd => hl d (by simp [hd])
      unfold ofS
      split
      · exact h
      · split
        · exact z
        · exact ok_do h (hl d (by simp))
  refine this _ _ z fun d hd => ?_
  rcases List.mem_append.1 hd with h | h
  · obtain ⟨x, hx, rfl⟩ := List.mem_map.1 h; exact hV x hx
  · obtain ⟨x, hx, rfl⟩ := List.mem_map.1 h; exact hE x hx
/-- Build, at a valid graph -/
theorem build_post {G : Nat → Prop} (g : GT) (hg : Gr.Ok g) (v u : Value) (W : World) (h1 : (Dv (slE vtE) G g.1).p v W) (h2 : (Dv (slE etE) G g.2).p u W) (hl1 : g.1.length ≤ 1000) (hl2 : g.2.length ≤ 1000) {K : Nat → Prop} (hK : ∀ b, K b → b < W.heap.size) :
    Calls Tryz.prog 21 #[v, u] W (Post (Tup [Dv (ptE (grE 2000)) K (some g), E (I 0)]) W) :=
  Calls.mono (build_spec g.1 g.2 v u W h1 h2 (by omega) (by omega) (okD_V hg) (okD_E hg)) fun en w' ⟨e, hq⟩ => by
    obtain ⟨g', k1, k2, k3⟩ := bld_ok hg
    rcases hq with ⟨g2, b1, b2, b3, q1, rfl, q3, q4, q5, q6⟩ | ⟨c, q0, q1, _⟩
    · rw [k1] at q1; cases q1
      exact ⟨_, rfl, e, Tup.two ((q6.perm k2 k3).dv (by omega) (fun h => by have := hK _ h; omega) (fun h => by have := hK _ h; omega) (fun h => by have := hK _ h; omega)) rfl⟩
    · rw [k1] at q1; cases q1
theorem from23_spec {G : Nat → Prop} (g : GT) (most : Int) (v : Value) (W : World) (h : (Dv gtE G g).p v W) (hm : most ≤ 100) (hV : ∀ x ∈ g.1, 0 ≤ x.2.1 ∧ x.2.1 < 256) (hE : ∀ x ∈ g.2, 0 ≤ x.2.1 ∧ x.2.1 < 256) :
    Calls Tryz.prog 9 #[v, I most] W (Post (Tup [FrA g most, Dv gtE Go.Mono.G0 (frW g most).1]) W) := by
  obtain ⟨u1, u2, rfl, h1, h2⟩ := Dv.gt.1 (Dv.weak (G' := Go.Mono.G0) h fun b _ hb => hb.elim)
  have h1b := Dv.toB h1
  have h2b := Dv.toB h2
  have hgb : (Dv gtE (GB W Go.Mono.G0) g).p (.agg #[u1, u2]) W := Dv.gt.2 ⟨_, _, rfl, h1b, h2b⟩
  refine enter (args := [.agg #[u1, u2], I most]) (As := [E (.agg #[u1, u2]), E (I most)]) Tryz.func9 rfl Tryz.ntmps9 (Nat.le_of_ble_eq_true rfl) ?_ (fun a hf => ?_) (Nat.le_of_ble_eq_true rfl)
  rotate_left
  dsimp only [params, Nat.reduceAdd] at hf
  rotate_right
  · exact arg2 rfl rfl
  have e := Ext.rfl' W
  repeat refine seq ?_
  refine regn0 ?_
  refine tl_box hf rfl (by decide) fun a b2 w v2 hv2 e' hb2 hs2 B2 hf => ?_
  have hle2 := Nat.le_trans e.size (Nat.le_of_eq hb2.symm)
  replace e := Ext.tr e e'
  clear e'
  refine tl_as hf rfl (by decide) fun a hf => ?_
  refine tl_alloc I25 hf (by decide) fun a b5 w e' hb5 hs5 B5 hf => ?_
  have hle5 := Nat.le_trans e.size (Nat.le_of_eq hb5.symm)
  have lt5_B2 := B2.lt
  replace e := Ext.tr e e'
  replace B2 := B2.ext e'
  clear e'
  refine tl_nil ?_
  cases hv2
  repeat refine seq ?_
  refine regn 11 hf (by decide +kernel) ?_
  refine st (fldA Tryz.underlying25 rfl T22 (by decide) rfl) ?_
  refine st (ld1 T22 rfl (by assumption) rfl) ?_
  refine st (lenD Tryz.underlying22 (isE rfl (VA.st _ _ _ _ e h1))) ?_
  refine st (mv rfl) ?_
  refine st (gtr rfl rfl) ?_
  refine st (mv rfl) ?_
  refine sgE rfl rfl (.k 2 rfl .n) (fun hgd => fldA Tryz.underlying25 rfl T23 (by decide) rfl) ?_
  refine sgE rfl rfl (.c 20 rfl (fun h => h) .n) (fun hgd => ld1 T23 rfl (by assumption) rfl) ?_
  refine sgE rfl rfl (.c 21 rfl (fun h => h) .n) (fun hgd => lenD Tryz.underlying23 (isE rfl (VA.st _ _ _ _ e h2))) ?_
  refine sgE rfl rfl (.c 22 rfl (fun h => h) .n) (fun hgd => gtr rfl rfl) ?_
  refine st (pkOr rfl rfl (fun h => by rw [h]; rfl)) ?_
  refine en fun a w e' hf => ?_
  replace e := Ext.tr e e'
  replace B2 := B2.ext e'
  replace B5 := B5.ext e'
  clear e'
  refine tl_nil ?_
  repeat refine seq ?_
  refine ifc hf rfl (fun hb => ?_) (fun hb => ?_)
  · have hfw : frW g most = (g, false) := by rw [frW, if_pos hb]
    have hc2 : (#[u1, u2] : Array Value).all (·.oneCell') = true := one2 (slOne h1) (slOne h2)
    replace hf := hf.keep [2, 4, 5]
    dsimp only [keep, List.filterMap, look, Nat.beq, Option.map] at hf
    repeat refine seq ?_
    refine regJ 3 [0, 1] (Chg fun c => c = b5) (RelJ.one _) (fun w => ∃ cs, Blk w b5 cs 25 ∧ (E (.agg #[u1, u2])).p (.agg cs) w) (fun w w1 k h => h.imp fun cs h => ⟨h.1.ext k, h.2⟩) Mix.mix hf (by decide +kernel) (by decide +kernel) ?_
    refine ja ((ldW T25 rfl B2 rfl).eq ((rfl : _ = Value.agg #[u1, u2]))) ?_
    refine jf (fun w1 h1 => asg rfl) ?_
    refine jx (xstB T25 rfl B5 rfl rfl (fun v w hv => ⟨_, hv, rfl, hc2⟩) (fun v w w' hc hv => hv)) ?_
    refine je ?_
    refine fun a w hc HF hf => ?_
    try dsimp only [push] at hf
    obtain ⟨cs, B5, hcs⟩ := HF
    cases hcs
    replace e := e.ch hc (fun b hb => by rw [hb]; omega)
    clear hc
    refine tl_nil ?_
    refine wret (ret2t rfl T25 hf rfl rfl B5 rfl ?_)
    rintro _ rfl
    exact ⟨_, rfl, e, by rw [hfw]; exact Tup.two ⟨fun h => (by rw [hfw] at h; cases h), fun _ => rfl⟩ (VA.st _ _ _ _ e (Dv.weak h fun b _ hb => hb.elim))⟩
  have hfw0 : ¬ (decide (most < (g.1.length : Nat)) || decide ((40 : Int) < (g.2.length : Nat))) = true := by simpa using hb
  clear hb
  refine wskip ?_
  try simp only [Exit.then, Exit.inBlock, ↓reduceIte]
  have hvl : g.1.length ≤ 100 ∧ g.2.length ≤ 40 := by
    rw [Bool.or_eq_true, not_or, decide_eq_true_eq, decide_eq_true_eq] at hfw0
    omega
  replace hf := hf.keep [2, 4, 5]
  dsimp only [keep, List.filterMap, look, Nat.beq, Option.map] at hf
  obtain ⟨N6, hN6⟩ : ∃ N6, N6 = w.heap.size := ⟨_, rfl⟩
  have l5 : b5 < N6 := by rw [hN6]; exact B5.lt
  have l2 : b2 < N6 := by rw [hN6]; exact B2.lt
  have hN6s : N6 ≤ w.heap.size := Nat.le_of_eq hN6
  clear hN6
  have hofl := fun (h0 : (ofR g.1 g.2).2 = 0) => ofR_len h0
  have hofk := ofR_ok hV hE
  repeat refine seq ?_
  refine regn 8 hf (by decide +kernel) ?_
  refine st (fldA Tryz.underlying25 rfl T22 (by decide) rfl) ?_
  refine st (ld1 T22 rfl (by assumption) rfl) ?_
  refine st (fldA Tryz.underlying25 rfl T23 (by decide) rfl) ?_
  refine st (ld1 T23 rfl (by assumption) rfl) ?_
  refine st (call2 (A := Tup [Dv gtE (fun b => b < N6) (ofR g.1 g.2).1, E (I (ofR g.1 g.2).2)]) En31 rfl rfl (fun v u w he k1 k2 => by cases k1; cases k2; exact of05_spec g.1 g.2 _ _ w (VA.st _ _ _ _ (Ext.tr e he) h1) (VA.st _ _ _ _ (Ext.tr e he) h2) (by omega) (by omega) (fun b hb => Nat.lt_of_lt_of_le hb (Nat.le_trans hN6s he.size)))) ?_
  refine st (mv rfl) ?_
  refine st (ext_ rfl rfl) ?_
  refine st (ext_ rfl rfl) ?_
  refine en fun a w e' hf => ?_
  replace e := Ext.tr e e'
  replace B2 := B2.ext e'
  replace B5 := B5.ext e'
  clear e'
  obtain ⟨z, hz, hf⟩ := hf.opn 32 rfl
  obtain ⟨N7, hN7⟩ : ∃ N7, N7 = w.heap.size := ⟨_, rfl⟩
  obtain ⟨GZ, hGZ⟩ : ∃ GZ : Nat → Prop, GZ = fun b => b < N6 ∨ N7 ≤ b := ⟨_, rfl⟩
  have hzz : (Dv gtE GZ (ofR g.1 g.2).1).p z w := by
    rw [hGZ, hN7]; exact Dv.toB (Dv.weak hz fun b _ hb => hb)
  obtain ⟨z1, z2, rfl, hz1, hz2⟩ := Dv.gt.1 hzz
  have hzo : (#[z1, z2] : Array Value).all (·.oneCell') = true := one2 (slOne hz1) (slOne hz2)
  clear hz hzz
  have nZ : ∀ bb, (bb < N6 ∨ N7 ≤ bb) → GZ bb := fun bb hb => by rw [hGZ]; exact hb
  replace hf := hf.keep [2, 4, 5, 32, 33]
  dsimp only [keep, List.filterMap, look, Nat.beq, Option.map] at hf
  refine tl_alloc I25 hf (by decide) fun a b6 w e' hb6 hs6 B6 hf => ?_
  have hle6 := Nat.le_trans e.size (Nat.le_of_eq hb6.symm)
  have lt6_B2 := B2.lt
  have lt6_B5 := B5.lt
  replace hz1 := VA.st _ _ _ _ e' hz1
  replace hz2 := VA.st _ _ _ _ e' hz2
  replace e := Ext.tr e e'
  replace B2 := B2.ext e'
  replace B5 := B5.ext e'
  clear e'
  have l6 : N7 ≤ b6 := by omega
  have l67 : b6 < w.heap.size := B6.lt
  replace hf := hf.keep [2, 4, 5, 6, 32, 33]
  dsimp only [keep, List.filterMap, look, Nat.beq, Option.map] at hf
  refine tl_stW T25 hf rfl rfl hzo B6 rfl rfl fun w hg hsz B6 hf => ?_
  replace e := e.gr hg (by omega); replace B2 := B2.gr hg (by omega); replace B5 := B5.gr hg (by omega); replace hz1 := Dv.grN hz1 hg (fun bb hb => nZ bb (by cases hb; omega)); replace hz2 := Dv.grN hz2 hg (fun bb hb => nZ bb (by cases hb; omega)); clear hg
  refine tl_as hf rfl (by decide) fun a hf => ?_
  refine tl_nil ?_
  replace hf := hf.keep [2, 4, 5, 6, 7]
  dsimp only [keep, List.filterMap, look, Nat.beq, Option.map] at hf
  repeat refine seq ?_
  refine regn 2 hf (by decide +kernel) ?_
  refine st (mv rfl) ?_
  refine st (neq rfl rfl) ?_
  refine en fun a w e' hf => ?_
  replace hz1 := VA.st _ _ _ _ e' hz1
  replace hz2 := VA.st _ _ _ _ e' hz2
  replace e := Ext.tr e e'
  replace B2 := B2.ext e'
  replace B5 := B5.ext e'
  replace B6 := B6.ext e'
  clear e'
  refine tl_nil ?_
  repeat refine seq ?_
  refine ifc hf rfl (fun hb => ?_) (fun hb => ?_)
  · have hne : (ofR g.1 g.2).2 ≠ 0 := by simpa using hb
    have hfw : frW g most = (g, false) := by rw [frW, if_neg hfw0, if_pos hne]
    have hc2 : (#[u1, u2] : Array Value).all (·.oneCell') = true := one2 (slOne h1) (slOne h2)
    replace hf := hf.keep [2, 4, 5]
    dsimp only [keep, List.filterMap, look, Nat.beq, Option.map] at hf
    repeat refine seq ?_
    refine regJ 3 [0, 1] (Chg fun c => c = b5) (RelJ.one _) (fun w => ∃ cs, Blk w b5 cs 25 ∧ (E (.agg #[u1, u2])).p (.agg cs) w) (fun w w1 k h => h.imp fun cs h => ⟨h.1.ext k, h.2⟩) Mix.mix hf (by decide +kernel) (by decide +kernel) ?_
    refine ja ((ldW T25 rfl B2 rfl).eq ((rfl : _ = Value.agg #[u1, u2]))) ?_
    refine jf (fun w1 h1 => asg rfl) ?_
    refine jx (xstB T25 rfl B5 rfl rfl (fun v w hv => ⟨_, hv, rfl, hc2⟩) (fun v w w' hc hv => hv)) ?_
    refine je ?_
    refine fun a w hc HF hf => ?_
    try dsimp only [push] at hf
    obtain ⟨cs, B5, hcs⟩ := HF
    cases hcs
    replace e := e.ch hc (fun b hb => by rw [hb]; omega)
    clear hc
    refine tl_nil ?_
    refine wret (ret2t rfl T25 hf rfl rfl B5 rfl ?_)
    rintro _ rfl
    exact ⟨_, rfl, e, by rw [hfw]; exact Tup.two ⟨fun h => (by rw [hfw] at h; cases h), fun _ => rfl⟩ (VA.st _ _ _ _ e (Dv.weak h fun b _ hb => hb.elim))⟩
  have hof0 : (ofR g.1 g.2).2 = 0 := by simpa using hb
  clear hb
  have hfw : frW g most = ((ofR g.1 g.2).1, true) := by rw [frW, if_neg hfw0, if_neg (by simpa using hof0)]
  have hol := hofl hof0
  obtain ⟨gg, hgg⟩ : ∃ gg, gg = (ofR g.1 g.2).1 := ⟨_, rfl⟩
  rw [← hgg] at hz1 hz2 hofk hol hfw
  clear hgg hof0 hofl hfw0
  refine wskip ?_
  try simp only [Exit.then, Exit.inBlock, ↓reduceIte]
  replace hf := hf.keep [4, 5, 6]
  dsimp only [keep, List.filterMap, look, Nat.beq, Option.map] at hf
  obtain ⟨N8, hN8⟩ : ∃ N8, N8 = w.heap.size := ⟨_, rfl⟩
  have h78 : N7 ≤ N8 := by have := B6.lt; omega
  have h68 : b6 < N8 := by rw [hN8]; exact B6.lt
  have h58 : b5 < N8 := by rw [hN8]; exact B5.lt
  have hW8 : W.heap.size ≤ N8 := by rw [hN8]; exact e.size
  have hN8s : N8 ≤ w.heap.size := Nat.le_of_eq hN8
  clear hN8
  repeat refine seq ?_
  refine regn0 ?_
  refine tl_as hf rfl (by decide) fun a hf => ?_
  refine tl_nil ?_
  repeat refine seq ?_
  refine regn0 ?_
  refine tl_as hf rfl (by decide) fun a hf => ?_
  refine tl_nil ?_
  repeat refine seq ?_
  refine regn0 ?_
  refine tl_as hf rfl (by decide) fun a hf => ?_
  refine tl_nil ?_
  replace hf := hf.keep [4, 5, 6, 8, 9, 10]
  dsimp only [keep, List.filterMap, look, Nat.beq, Option.map] at hf
  repeat refine seq ?_
  refine blk (loopN (fun r0 a w => ∃ (k : Nat) (u : Value), r0 = gg.1.length - k ∧ k ≤ gg.1.length ∧ Fr 75 a w [(4, E (.pointer none)), (5, E (.pointer (some ⟨b5, 0, none⟩))), (6, E (.pointer (some ⟨b6, 0, none⟩))), (8, E u), (9, E (.slice none 0 0)), (10, E (I k))] ∧ Ext W w ∧ Blk w b5 #[.slice none 0 0, .slice none 0 0] 25 ∧ Blk w b6 #[z1, z2] 25 ∧ (Dv (slE vtE) GZ gg.1).p z1 w ∧ (Dv (slE etE) GZ gg.2).p z2 w ∧ OwR vtE 55 N8 Go.Mono.G0 w (gg.1.take k) u) gg.1.length ⟨0, .slice none 0 0, rfl, by omega, hf, e, ⟨B5, B6, hz1, hz2, OwR.nil vtE _ hN8s fun b hb => hb.elim⟩⟩ ?_)
  clear hf e; try clear B5; try clear B6; try clear hz1; try clear hz2; try clear Ho
  rintro r0 a w ⟨k, u, rfl, hk, hf, e, B5, B6, hz1, hz2, Ho⟩
  repeat refine seq ?_
  refine regn 5 hf (by decide +kernel) ?_
  refine st (mv rfl) ?_
  refine st (fldA Tryz.underlying25 rfl T22 (by decide) rfl) ?_
  refine st (ld1 T22 rfl B6 rfl) ?_
  refine st (lenD Tryz.underlying22 (isE rfl hz1)) ?_
  refine st (lss rfl rfl) ?_
  refine en fun a w e' hf => ?_
  replace hz1 := VA.st _ _ _ _ e' hz1
  replace hz2 := VA.st _ _ _ _ e' hz2
  replace e := Ext.tr e e'
  replace B5 := B5.ext e'
  replace B6 := B6.ext e'
  replace Ho := Ho.ext e'
  clear e'
  refine tl_nil ?_
  repeat refine seq ?_
  refine ifc hf rfl (fun hc => wskip ?_) (fun hc => wexit ?_)
  rotate_left
  rotate_left
  · have hlt : k < gg.1.length := by have := of_decide_eq_true hc; (try dsimp only at this); omega
    clear hc
    replace hf := hf.keep [4, 5, 6, 8, 9, 10]
    dsimp only [keep, List.filterMap, look, Nat.beq, Option.map] at hf
    repeat refine seq ?_
    refine blk ?_
    have hg := List.getElem?_eq_getElem hlt
    generalize gg.1[k] = y at hg
    have hlk := List.length_take_le k gg.1
    have n1 := Ho.neLt (b := b6) (by omega)
    have n2 := Ho.neLt (b := b5) (by omega)
    haveI iu : InR GZ u.ownBlock := ⟨fun b hb => nZ b (.inr (Nat.le_trans h78 (Ho.lt hb).1))⟩
    repeat refine seq ?_
    refine regn 7 hf (by decide +kernel) ?_
    refine st (mv rfl) ?_
    refine st (fldA Tryz.underlying25 rfl T22 (by decide) rfl) ?_
    refine st (ld1 T22 rfl B6 rfl) ?_
    refine st (mv rfl) ?_
    refine st (idxD Tryz.underlying22 S66 (isE rfl hz1) rfl (by omega) (hg)) ?_
    refine st (ldVt T66 (isR rfl)) ?_
    refine st (bsl1 Tryz.underlying52 I55 rfl (by decide) rfl Ho.avs (isVt rfl)) ?_
    refine en fun a w e' hf => ?_
    replace hz1 := VA.st _ _ _ _ e' hz1
    replace hz2 := VA.st _ _ _ _ e' hz2
    replace Ho := Ho.ext e'
    replace e := Ext.tr e e'
    replace B5 := B5.ext e'
    replace B6 := B6.ext e'
    clear e'
    haveI hin : ∀ G0, InR (GB W G0) _ := OwR.inGB (W := W) Ho (by omega)
    refine tl_app Tryz.underlying52 I55 rfl rfl hf (by decide) rfl Ho (isR rfl) (by simp only [List.length_singleton]; omega) (by simp only [List.length_singleton, maxLen]; omega) fun a v w hg hat Hn hf => ?_
    replace e := e.gro hg (Ho.row (W := W) (by omega))
    have hrow := Ho.row (W := W) (by omega)
    replace hz1 := Dv.grN hz1 hg (fun bb hb => nZ bb (.inr (Nat.le_trans h78 (Ho.lt hb).1)))
    replace hz2 := Dv.grN hz2 hg (fun bb hb => nZ bb (.inr (Nat.le_trans h78 (Ho.lt hb).1)))
    replace Ho := Hn
    clear hrow
    replace B5 := B5.gro hg (by assumption)
    replace B6 := B6.gro hg (by assumption)
    replace Ho := Hn; clear Hn hg hat hin
    refine tl_as hf rfl (by decide) fun a hf => ?_
    refine tl_nil ?_
    try simp only [Exit.then, Exit.inBlock, ↓reduceIte]
    repeat refine seq ?_
    refine regn 2 hf (by decide +kernel) ?_
    refine st (mv rfl) ?_
    refine st ((add rfl rfl (by omega)).eq (congrArg (Value.int .i64) (show (k : Int) + 1 = ((k + 1 : Nat) : Int) from rfl))) ?_
    refine en fun a w e' hf => ?_
    replace hz1 := VA.st _ _ _ _ e' hz1
    replace hz2 := VA.st _ _ _ _ e' hz2
    replace Ho := Ho.ext e'
    replace e := Ext.tr e e'
    replace B5 := B5.ext e'
    replace B6 := B6.ext e'
    clear e'
    refine tl_as hf rfl (by decide) fun a hf => ?_
    refine tl_nil ?_
    replace hf := hf.keep [4, 5, 6, 8, 9, 10]
    dsimp only [keep, List.filterMap, look, Nat.beq, Option.map] at hf
    refine ⟨_, ?_, k + 1, _, rfl, by omega, hf, e, ?_⟩
    · omega
    rw [take_succ_get hg]
    exact ⟨B5, B6, hz1, hz2, Ho⟩
  · obtain rfl : k = gg.1.length := by have := of_decide_eq_false hc; (try dsimp only at this); omega
    clear hc
    simp only [Exit.then, Exit.inBlock, ↓reduceIte]
    rw [List.take_length] at Ho
    obtain ⟨av, nv, cv, rfl⟩ := Dv.slF Ho.sl
    obtain ⟨NV, hNV⟩ : ∃ NV : Nat → Prop, NV = fun b => (Value.slice av nv cv).ownBlock ≠ some b := ⟨_, rfl⟩
    have HD : (Dv (slE vtE) NV gg.1).p (.slice av nv cv) w := Ho.slN fun b hb => by rw [hNV]; exact fun h => h hb
    obtain ⟨N5, hN5⟩ : ∃ N5, N5 = w.heap.size := ⟨_, rfl⟩
    have h89 : N8 ≤ N5 := by rw [hN5]; exact Ho.base
    have nV : ∀ bb, (bb < N8 ∨ N5 ≤ bb) → NV bb := fun bb hb => by rw [hNV]; intro h; have h3 := Ho.lt h; omega
    have hN5s : N5 ≤ w.heap.size := Nat.le_of_eq hN5
    clear hN5 hNV Ho
    replace hf := hf.keep [4, 5, 6, 8, 9]
    dsimp only [keep, List.filterMap, look, Nat.beq, Option.map] at hf
    repeat refine seq ?_
    refine regn0 ?_
    refine tl_as hf rfl (by decide) fun a hf => ?_
    refine tl_nil ?_
    replace hf := hf.keep [4, 5, 6, 8, 9, 11]
    dsimp only [keep, List.filterMap, look, Nat.beq, Option.map] at hf
    repeat refine seq ?_
    refine blk (loopN (fun r0 a w => ∃ (k : Nat) (u : Value), r0 = gg.2.length - k ∧ k ≤ gg.2.length ∧ Fr 75 a w [(4, E (.pointer none)), (5, E (.pointer (some ⟨b5, 0, none⟩))), (6, E (.pointer (some ⟨b6, 0, none⟩))), (8, E (.slice av nv cv)), (9, E u), (11, E (I k))] ∧ Ext W w ∧ Blk w b5 #[.slice none 0 0, .slice none 0 0] 25 ∧ Blk w b6 #[z1, z2] 25 ∧ (Dv (slE vtE) GZ gg.1).p z1 w ∧ (Dv (slE etE) GZ gg.2).p z2 w ∧ (Dv (slE vtE) NV gg.1).p (.slice av nv cv) w ∧ OwR etE 57 N5 Go.Mono.G0 w (gg.2.take k) u ∧ N5 ≤ w.heap.size) gg.2.length ⟨0, .slice none 0 0, rfl, by omega, hf, e, ⟨B5, B6, hz1, hz2, HD, OwR.nil etE _ hN5s fun b hb => hb.elim, hN5s⟩⟩ ?_)
    clear hf e; try clear B5; try clear B6; try clear hz1; try clear hz2; try clear HD; try clear Ho; try clear hN5s
    rintro r0 a w ⟨k, u, rfl, hk, hf, e, B5, B6, hz1, hz2, HD, Ho, hN5s⟩
    repeat refine seq ?_
    refine regn 5 hf (by decide +kernel) ?_
    refine st (mv rfl) ?_
    refine st (fldA Tryz.underlying25 rfl T23 (by decide) rfl) ?_
    refine st (ld1 T23 rfl B6 rfl) ?_
    refine st (lenD Tryz.underlying23 (isE rfl hz2)) ?_
    refine st (lss rfl rfl) ?_
    refine en fun a w e' hf => ?_
    replace hz1 := VA.st _ _ _ _ e' hz1
    replace hz2 := VA.st _ _ _ _ e' hz2
    replace HD := VA.st _ _ _ _ e' HD
    replace hN5s := Nat.le_trans hN5s e'.size
    replace e := Ext.tr e e'
    replace B5 := B5.ext e'
    replace B6 := B6.ext e'
    replace Ho := Ho.ext e'
    clear e'
    refine tl_nil ?_
    repeat refine seq ?_
    refine ifc hf rfl (fun hc => wskip ?_) (fun hc => wexit ?_)
    rotate_left
    rotate_left
    · have hlt : k < gg.2.length := by have := of_decide_eq_true hc; (try dsimp only at this); omega
      clear hc
      replace hf := hf.keep [4, 5, 6, 8, 9, 11]
      dsimp only [keep, List.filterMap, look, Nat.beq, Option.map] at hf
      repeat refine seq ?_
      refine blk ?_
      have hg := List.getElem?_eq_getElem hlt
      generalize gg.2[k] = y at hg
      have hlk := List.length_take_le k gg.2
      have h79 : N7 ≤ N5 := Nat.le_trans h78 h89
      have n1 := Ho.neLt (b := b6) (by omega)
      have n2 := Ho.neLt (b := b5) (by omega)
      haveI iu : InR GZ u.ownBlock := ⟨fun b hb => nZ b (.inr (Nat.le_trans h79 (Ho.lt hb).1))⟩
      repeat refine seq ?_
      refine regn 7 hf (by decide +kernel) ?_
      refine st (mv rfl) ?_
      refine st (fldA Tryz.underlying25 rfl T23 (by decide) rfl) ?_
      refine st (ld1 T23 rfl B6 rfl) ?_
      refine st (mv rfl) ?_
      refine st (idxD Tryz.underlying23 S74 (isE rfl hz2) rfl (by omega) (hg)) ?_
      refine st (ldEt T74 (isR rfl)) ?_
      refine st (bsl1 Tryz.underlying53 I57 rfl (by decide) rfl Ho.avs (isEt rfl)) ?_
      refine en fun a w e' hf => ?_
      replace hz1 := VA.st _ _ _ _ e' hz1
      replace hz2 := VA.st _ _ _ _ e' hz2
      replace HD := VA.st _ _ _ _ e' HD
      replace hN5s := Nat.le_trans hN5s e'.size
      replace Ho := Ho.ext e'
      replace e := Ext.tr e e'
      replace B5 := B5.ext e'
      replace B6 := B6.ext e'
      clear e'
      haveI hin : ∀ G0, InR (GB W G0) _ := OwR.inGB (W := W) Ho (by omega)
      refine tl_app Tryz.underlying53 I57 rfl rfl hf (by decide) rfl Ho (isR rfl) (by simp only [List.length_singleton]; omega) (by simp only [List.length_singleton, maxLen]; omega) fun a v w hg hat Hn hf => ?_
      replace e := e.gro hg (Ho.row (W := W) (by omega))
      have hrow := Ho.row (W := W) (by omega)
      replace hz1 := Dv.grN hz1 hg (fun bb hb => nZ bb (.inr (Nat.le_trans h79 (Ho.lt hb).1)))
      replace hz2 := Dv.grN hz2 hg (fun bb hb => nZ bb (.inr (Nat.le_trans h79 (Ho.lt hb).1)))
      replace HD := Dv.grN HD hg (fun bb hb => nV bb (.inr (Ho.lt hb).1))
      replace hN5s := Nat.le_trans hN5s hg.size
      replace Ho := Hn
      clear hrow
      replace B5 := B5.gro hg (by assumption)
      replace B6 := B6.gro hg (by assumption)
      replace Ho := Hn; clear Hn hg hat hin
      refine tl_as hf rfl (by decide) fun a hf => ?_
      refine tl_nil ?_
      try simp only [Exit.then, Exit.inBlock, ↓reduceIte]
      repeat refine seq ?_
      refine regn 2 hf (by decide +kernel) ?_
      refine st (mv rfl) ?_
      refine st ((add rfl rfl (by omega)).eq (congrArg (Value.int .i64) (show (k : Int) + 1 = ((k + 1 : Nat) : Int) from rfl))) ?_
      refine en fun a w e' hf => ?_
      replace hz1 := VA.st _ _ _ _ e' hz1
      replace hz2 := VA.st _ _ _ _ e' hz2
      replace HD := VA.st _ _ _ _ e' HD
      replace hN5s := Nat.le_trans hN5s e'.size
      replace Ho := Ho.ext e'
      replace e := Ext.tr e e'
      replace B5 := B5.ext e'
      replace B6 := B6.ext e'
      clear e'
      refine tl_as hf rfl (by decide) fun a hf => ?_
      refine tl_nil ?_
      replace hf := hf.keep [4, 5, 6, 8, 9, 11]
      dsimp only [keep, List.filterMap, look, Nat.beq, Option.map] at hf
      refine ⟨_, ?_, k + 1, _, rfl, by omega, hf, e, ?_⟩
      · omega
      rw [take_succ_get hg]
      exact ⟨B5, B6, hz1, hz2, HD, Ho, hN5s⟩
    · obtain rfl : k = gg.2.length := by have := of_decide_eq_false hc; (try dsimp only at this); omega
      clear hc
      simp only [Exit.then, Exit.inBlock, ↓reduceIte]
      rw [List.take_length] at Ho
      have h65 : b6 < N5 := by omega
      have h55 : b5 < N5 := by omega
      have hlg : gg.1.length ≤ 1000 ∧ gg.2.length ≤ 1000 := by omega
      replace hf := hf.keep [4, 5, 6, 8, 9]
      dsimp only [keep, List.filterMap, look, Nat.beq, Option.map] at hf
      repeat refine seq ?_
      refine regn 6 hf (by decide +kernel) ?_
      refine st (mv rfl) ?_
      refine st (mv rfl) ?_
      refine st (call2 (A := Tup [Dv (ptE (grE 2000)) (fun b => b < N5) (some gg), E (I 0)]) En21 rfl rfl (fun v u w he k1 k2 => by cases k1; cases k2; exact build_post gg hofk _ _ w (VA.st _ _ _ _ he (Dv.weak HD fun b _ hb => hb.elim)) (VA.st _ _ _ _ he Ho.sl) hlg.1 hlg.2 (fun b hb => Nat.lt_of_lt_of_le hb (Nat.le_trans hN5s he.size)))) ?_
      refine st (mv rfl) ?_
      refine st (ext_ rfl rfl) ?_
      refine st (ext_ rfl rfl) ?_
      refine en fun a w e' hf => ?_
      replace hz1 := VA.st _ _ _ _ e' hz1
      replace hz2 := VA.st _ _ _ _ e' hz2
      replace e := Ext.tr e e'
      replace B5 := B5.ext e'
      replace B6 := B6.ext e'
      clear e'
      refine tl_as hf rfl (by decide) fun a hf => ?_
      refine tl_as hf rfl (by decide) fun a hf => ?_
      refine tl_nil ?_
      replace hf := hf.keep [4, 5, 6, 12]
      dsimp only [keep, List.filterMap, look, Nat.beq, Option.map] at hf
      haveI ik : InR (fun b => b < N5) (some b5) := ⟨fun b hb => by cases hb; exact h55⟩
      have hzo : (#[z1, z2] : Array Value).all (·.oneCell') = true := one2 (slOne hz1) (slOne hz2)
      repeat refine seq ?_
      refine regJ 4 [2, 0, 1] (Chg fun c => c = b5) (RelJ.one _) (fun w => ∃ cs, Blk w b5 cs 25 ∧ (E (.agg #[z1, z2])).p (.agg cs) w) (fun w w1 k h => h.imp fun cs h => ⟨h.1.ext k, h.2⟩) Mix.mix hf (by decide +kernel) (by decide +kernel) ?_
      refine jk (mv rfl) ?_
      refine ja ((ldW T25 rfl B6 rfl).eq ((rfl : _ = Value.agg #[z1, z2]))) ?_
      refine jf (fun w1 h1 => asg rfl) ?_
      refine jx (xstB T25 rfl B5 rfl rfl (fun v w hv => ⟨_, hv, rfl, hzo⟩) (fun v w w' hc hv => hv)) ?_
      refine je ?_
      refine fun a w hc HF hf => ?_
      try dsimp only [push] at hf
      obtain ⟨cs, B5, hcs⟩ := HF
      cases hcs
      replace e := e.ch hc (fun b hb => by rw [hb]; omega)
      replace hz1 := Dv.ch hz1 hc (fun b hb => nZ b (.inl (by rw [hb]; exact l5)))
      replace hz2 := Dv.ch hz2 hc (fun b hb => nZ b (.inl (by rw [hb]; exact l5)))
      clear hc
      refine tl_nil ?_
      refine wret (ret2t rfl T25 hf rfl rfl B5 rfl ?_)
      rintro x hx
      exact ⟨_, rfl, e, Tup.two ⟨fun _ => by rw [hfw]; exact Dv.weak hx fun b _ hb => hb.elim, fun h => by rw [hfw] at h; cases h⟩ (by rw [hfw]; exact Dv.gt.2 ⟨_, _, rfl, Dv.weak hz1 fun b _ hb => hb.elim, Dv.weak hz2 fun b _ hb => hb.elim⟩)⟩
end Go.Mono

namespace Go.Mono
open Go Go.Proofs Go.RowKit Go.Gr
theorem insV_len (l : List VT) (x : VT) : (insV l x).length = l.length + 1 := by
  have := (insW_perm (fun y => lt1 x.1 y.1) x l).length_eq
  rw [List.length_cons] at this
  exact this
theorem doR_dV (g : GT) (x : VT) : (doR g (dV x)).1.1.length ≤ g.1.length + 1 := by
  unfold doR
  split
  · exact Nat.le_succ _
  · rw [if_pos (by rfl)]
    dsimp only
    rw [insV_len]
    exact Nat.le_refl _
theorem doR_dE (g : GT) (x : ET) : (doR g (dE x)).1.1 = g.1 := by
  unfold doR
  split
  · rfl
  · rw [if_neg (show ¬((dE x).1 == 0) = true from (by decide : ¬((2 : Int) == 0) = true)), if_pos (by rfl)]
theorem ofV_len : ∀ (l : List VT) (s : GT × Int), ((l.map dV).foldl ofS s).1.1.length ≤ s.1.1.length + l.length := by
  intro l
  induction l with
  | nil => intro s; exact Nat.le_refl _
  | cons x l ih =>
    intro s
    rw [List.map_cons, List.foldl_cons]
    refine Nat.le_trans (ih _) ?_
    have h : (ofS s (dV x)).1.1.length ≤ s.1.1.length + 1 := by
      unfold ofS
      split
      · exact Nat.le_succ _
      · split
        · exact Nat.zero_le _
        · exact doR_dV s.1 x
    rw [List.length_cons]; omega
theorem ofE_len : ∀ (l : List ET) (s : GT × Int), ((l.map dE).foldl ofS s).1.1.length ≤ s.1.1.length := by
  intro l
  induction l with
  | nil => intro s; exact Nat.le_refl _
  | cons x l ih =>
    intro s
    rw [List.map_cons, List.foldl_cons]
    refine Nat.le_trans (ih _) ?_
    unfold ofS
    split
    · exact Nat.le_refl _
    · split
      · exact Nat.zero_le _
      · dsimp only; rw [doR_dE]; exact Nat.le_refl _
theorem ofR_vlen (V : List VT) (E' : List ET) : (ofR V E').1.1.length ≤ V.length := by
  rw [ofR, List.foldl_append]
  refine Nat.le_trans (ofE_len _ _) (Nat.le_trans (ofV_len V _) ?_)
  simp
/-- what is known of a law's graph -/
structure TwOk (gg : GT) (most : Int) : Prop where
  ok : Gr.Ok gg
  l1 : gg.1.length ≤ most
  l2 : gg.2.length ≤ 1000
theorem twOk {g : GT} {most : Int} (h : (frW g most).2 = true) (hV : ∀ x ∈ g.1, 0 ≤ x.2.1 ∧ x.2.1 < 256) (hE : ∀ x ∈ g.2, 0 ≤ x.2.1 ∧ x.2.1 < 256) (hm : most ≤ 100) : TwOk (frW g most).1 most := by
  by_cases h1 : (decide (most < (g.1.length : Nat)) || decide ((40 : Int) < (g.2.length : Nat))) = true
  · rw [frW, if_pos h1] at h; cases h
  · by_cases h2 : (ofR g.1 g.2).2 ≠ 0
    · rw [frW, if_neg h1, if_pos h2] at h; cases h
    · have e : frW g most = ((ofR g.1 g.2).1, true) := by rw [frW, if_neg h1, if_neg h2]
      have h3 := ofR_vlen g.1 g.2
      have h4 := ofR_len (V := g.1) (E := g.2) (Decidable.not_not.1 h2)
      rw [Bool.or_eq_true, not_or, decide_eq_true_eq, decide_eq_true_eq] at h1
      rw [e]
      exact ⟨ofR_ok hV hE, by dsimp only; omega, by dsimp only; omega⟩
end Go.Mono

namespace Go.Mono
open Go Go.RowKit
def bC (n : Nat) (f : Nat → Bool) : Array Value := ((List.range n).map fun j => Value.bool (f j)).toArray
theorem bC_size (n : Nat) (f : Nat → Bool) : (bC n f).size = n := by simp [bC]
theorem bC_get {n i : Nat} {f : Nat → Bool} (h : i < n) : (bC n f)[i]? = some (.bool (f i)) := by simp [bC, h]
theorem bC_congr {n : Nat} {f g : Nat → Bool} (h : ∀ i, i < n → f i = g i) : bC n f = bC n g := by
  unfold bC
  congr 1
  exact List.map_congr_left fun i hi => by rw [h i (List.mem_range.1 hi)]
theorem bC_set (n : Nat) (f : Nat → Bool) (j : Nat) (b : Bool) : (bC n f).setIfInBounds j (.bool b) = bC n (fun i => if i = j then b else f i) := by
  apply Array.ext_getElem?
  intro i
  by_cases hi : i < n
  · rw [bC_get hi]
    by_cases hk : i = j
    · subst hk
      rw [Array.getElem?_setIfInBounds_self_of_lt (by rw [bC_size]; exact hi)]
      simp
    · rw [Array.getElem?_setIfInBounds_ne (Ne.symm hk), bC_get hi]
      simp [hk]
  · rw [Array.getElem?_eq_none (by simp [bC_size]; omega), Array.getElem?_eq_none (by simp [bC_size]; omega)]
theorem bC_made (n : Nat) : (List.replicate n (Value.bool false)).toArray = bC n fun _ => false := by
  apply Array.ext_getElem?
  intro i
  by_cases hi : i < n
  · rw [bC_get hi]; simp [hi]
  · rw [Array.getElem?_eq_none (by simp; omega), Array.getElem?_eq_none (by simp [bC_size]; omega)]
def oC (n k : Nat) (rb : Nat → Nat) : Array Value := ((List.range n).map fun i => if i < k then Value.slice (some ⟨rb i, 0, none⟩) n n else .slice none 0 0).toArray
theorem oC_size (n k : Nat) (rb : Nat → Nat) : (oC n k rb).size = n := by simp [oC]
theorem oC_get {n k i : Nat} {rb : Nat → Nat} (h : i < k) (hk : k ≤ n) : (oC n k rb)[i]? = some (.slice (some ⟨rb i, 0, none⟩) n n) := by
  have : i < n := by omega
  simp [oC, h, this]
theorem oC_made (n : Nat) (rb : Nat → Nat) : (List.replicate n (Value.slice none 0 0)).toArray = oC n 0 rb := by
  apply Array.ext_getElem?
  intro i
  by_cases hi : i < n
  · simp [oC, hi]
  · rw [Array.getElem?_eq_none (by simp; omega), Array.getElem?_eq_none (by simp [oC_size]; omega)]
def adB (rb : Nat → Nat) (k b : Nat) : Nat → Nat := fun i => if i = k then b else rb i
theorem oC_set {n k b : Nat} {rb : Nat → Nat} (hk : k < n) : (oC n k rb).setIfInBounds k (.slice (some ⟨b, 0, none⟩) n n) = oC n (k + 1) (adB rb k b) := by
  apply Array.ext_getElem?
  intro i
  by_cases hi : i < n
  · by_cases hik : i = k
    · subst hik
      rw [Array.getElem?_setIfInBounds_self_of_lt (by rw [oC_size]; exact hi), oC_get (Nat.lt_succ_self _) hi]
      simp [adB]
    · rw [Array.getElem?_setIfInBounds_ne (Ne.symm hik)]
      by_cases h : i < k
      · rw [oC_get h (by omega), oC_get (show i < k + 1 by omega) (by omega)]
        simp [adB, hik]
      · have h' : ¬ i < k + 1 := by omega
        simp [oC, hi, h, h']
  · rw [Array.getElem?_eq_none (by simp [oC_size]; omega), Array.getElem?_eq_none (by simp [oC_size]; omega)]
/-- a square of truth values, of which k rows are made -/
structure MatR (tr tb : TypeId) (N n k : Nat) (rb : Nat → Nat) (M : Nat → Nat → Bool) (bo : Nat) (w : World) : Prop where
  o : Blk w bo (oC n k rb) tr
  r : ∀ i, i < k → Blk w (rb i) (bC n (M i)) tb
  d : ∀ i j, i < k → j < k → rb i = rb j → i = j
  lo : N ≤ bo ∧ ∀ i, i < k → N ≤ rb i
  ty : tr ≠ tb
section
variable {tr tb : TypeId} {N n k : Nat} {rb : Nat → Nat} {M M' : Nat → Nat → Bool} {bo : Nat} {w w' : World}
theorem Blk.tyNe {a b : Nat} {cs cs' : Array Value} {t t' : TypeId} (h : Blk w a cs t) (h' : Blk w b cs' t') (ht : t ≠ t') : a ≠ b := by
  rintro rfl
  unfold Blk at h h'
  rw [h] at h'
  cases h'; exact ht rfl
theorem MatR.gro (h : MatR tr tb N n k rb M bo w) {row : Option Nat} (hg : w.grownBy w' row) (h0 : row ≠ some bo) (h1 : ∀ i, i < k → row ≠ some (rb i)) : MatR tr tb N n k rb M bo w' :=
  ⟨(hg.block bo h.o.lt (fun e => h0 e.symm)).trans h.o, fun i hi => (hg.block _ (h.r i hi).lt (fun e => h1 i hi e.symm)).trans (h.r i hi), h.d, h.lo, h.ty⟩
theorem MatR.ext (h : MatR tr tb N n k rb M bo w) (e : Ext w w') : MatR tr tb N n k rb M bo w' := ⟨h.o.ext e, fun i hi => (h.r i hi).ext e, h.d, h.lo, h.ty⟩
theorem MatR.congr (h : MatR tr tb N n k rb M bo w) (hM : ∀ i, i < k → ∀ j, j < n → M i j = M' i j) : MatR tr tb N n k rb M' bo w :=
  ⟨h.o, fun i hi => by rw [← bC_congr (hM i hi)]; exact h.r i hi, h.d, h.lo, h.ty⟩
theorem MatR.add (h : MatR tr tb N n k rb M bo w) {b : Nat} {f : Nat → Bool} (hb : Blk w b (bC n f) tb) (hn : ∀ i, i < k → rb i ≠ b) (hN : N ≤ b) (hk : k < n) (hg : w.grownBy w' (some bo)) (ho : Blk w' bo ((oC n k rb).setIfInBounds k (.slice (some ⟨b, 0, none⟩) n n)) tr) :
    MatR tr tb N n (k + 1) (adB rb k b) (fun i => if i = k then f else M i) bo w' := by
  refine ⟨by rw [← oC_set hk]; exact ho, fun i hi => ?_, fun i j hi hj hij => ?_, ⟨h.lo.1, fun i hi => ?_⟩, h.ty⟩
  · by_cases hik : i = k
    · subst hik
      simp only [adB, if_true]
      exact hb.gr hg fun e => h.o.tyNe hb h.ty e.symm
    · simp only [adB, if_neg hik]
      exact (h.r i (by omega)).gr hg fun e => h.o.tyNe (h.r i (by omega)) h.ty e.symm
  · by_cases hik : i = k <;> by_cases hjk : j = k
    · omega
    · simp only [adB, if_neg hjk, hik, if_true] at hij
      exact absurd hij.symm (hn j (by omega))
    · simp only [adB, if_neg hik, hjk, if_true] at hij
      exact absurd hij (hn i (by omega))
    · simp only [adB, if_neg hik, if_neg hjk] at hij
      exact h.d i j (by omega) (by omega) hij
  · by_cases hik : i = k
    · simp only [adB, hik, if_true]; exact hN
    · simp only [adB, if_neg hik]; exact h.lo.2 i (by omega)
def upM (M : Nat → Nat → Bool) (i j : Nat) (b : Bool) : Nat → Nat → Bool := fun a c => if a = i ∧ c = j then b else M a c
theorem MatR.put (h : MatR tr tb N n k rb M bo w) {i j : Nat} {b : Bool} (hi : i < k) (hg : w.grownBy w' (some (rb i))) (hb : Blk w' (rb i) ((bC n (M i)).setIfInBounds j (.bool b)) tb) : MatR tr tb N n k rb (upM M i j b) bo w' := by
  refine ⟨h.o.gr hg (h.o.tyNe (h.r i hi) h.ty), fun a ha => ?_, h.d, h.lo, h.ty⟩
  by_cases hai : a = i
  · subst hai
    rw [bC_set] at hb
    rw [show (upM M a j b a) = fun c => if c = j then b else M a c from funext fun c => by simp [upM]]
    exact hb
  · rw [show upM M i j b a = M a from funext fun c => by simp [upM, hai]]
    exact (h.r a ha).gr hg fun e => hai (h.d a i ha hi e)
theorem MatR.ne (h : MatR tr tb N n k rb M bo w) {b : Nat} {cs : Array Value} {t : TypeId} (hb : Blk w b cs t) (h1 : t ≠ tr) (h2 : t ≠ tb) : b ≠ bo ∧ ∀ i, i < k → b ≠ rb i :=
  ⟨hb.tyNe h.o h1, fun i hi => hb.tyNe (h.r i hi) h2⟩
end
end Go.Mono

namespace Go.Mono
open Go Go.Proofs Go.RowKit Go.Gr

def idsG (g : GT) : List Int := g.1.map (·.1)
theorem ids_spec {G : Nat → Prop} (g : GT) (v : Value) (W : World) (h : (Dv gtE G g).p v W) (hl : g.1.length ≤ 100000) :
    Calls Tryz.prog 13 #[v] W (Post (OwA intE 3 W.heap.size Go.Mono.G0 (idsG g)) W) := by
  obtain ⟨u1, u2, rfl, h1, h2⟩ := Dv.gt.1 (Dv.weak (G' := Go.Mono.G0) h fun b _ hb => hb.elim)
  have h1b := Dv.toB h1
  refine enter (args := [.agg #[u1, u2]]) (As := [E (.agg #[u1, u2])]) Tryz.func13 rfl Tryz.ntmps13 (Nat.le_of_ble_eq_true rfl) ?_ (fun a hf => ?_) (Nat.le_of_ble_eq_true rfl)
  rotate_left
  dsimp only [params, Nat.reduceAdd] at hf
  rotate_right
  · exact arg1 rfl
  have e := Ext.rfl' W
  repeat refine seq ?_
  refine regn0 ?_
  refine tl_box hf rfl (by decide) fun a b1 w v1 hv1 e' hb1 hs1 B1 hf => ?_
  have hle1 := Nat.le_trans e.size (Nat.le_of_eq hb1.symm)
  replace e := Ext.tr e e'
  clear e'
  refine tl_as hf rfl (by decide) fun a hf => ?_
  refine tl_nil ?_
  cases hv1
  replace B1 : Blk w b1 #[u1, u2] 25 := B1
  obtain ⟨N, hN⟩ : ∃ N, N = w.heap.size := ⟨_, rfl⟩
  have l1 : b1 < N := by rw [hN]; exact B1.lt
  have hNs : N ≤ w.heap.size := Nat.le_of_eq hN
  have hWN : W.heap.size ≤ N := by rw [hN]; exact e.size
  clear hN
  repeat refine seq ?_
  refine regn0 ?_
  refine tl_as hf rfl (by decide) fun a hf => ?_
  refine tl_nil ?_
  repeat refine seq ?_
  refine regn0 ?_
  refine tl_as hf rfl (by decide) fun a hf => ?_
  refine tl_nil ?_
  replace hf := hf.keep [1, 3, 4]
  dsimp only [keep, List.filterMap, look, Nat.beq, Option.map] at hf
  repeat refine seq ?_
  refine blk (loopN (fun r0 a w => ∃ (k : Nat) (u : Value), r0 = g.1.length - k ∧ k ≤ g.1.length ∧ Fr 22 a w [(1, E (ptr b1)), (3, E u), (4, E (I k))] ∧ Ext W w ∧ Blk w b1 #[u1, u2] 25 ∧ OwR intE 3 N Go.Mono.G0 w ((idsG g).take k) u) g.1.length ⟨0, .slice none 0 0, rfl, by omega, hf, e, ⟨B1, OwR.nil intE _ hNs fun b hb => hb.elim⟩⟩ ?_)
  clear hf e; try clear B1; try clear Ho
  rintro r0 a w ⟨k, u, rfl, hk, hf, e, B1, Ho⟩
  repeat refine seq ?_
  refine regn 5 hf (by decide +kernel) ?_
  refine st (mv rfl) ?_
  refine st (fldA Tryz.underlying25 rfl T22 (by decide) rfl) ?_
  refine st (ld1 T22 rfl B1 rfl) ?_
  refine st (lenD Tryz.underlying22 (isE rfl (VA.st _ _ _ _ e h1))) ?_
  refine st (lss rfl rfl) ?_
  refine en fun a w e' hf => ?_
  replace e := Ext.tr e e'
  replace B1 := B1.ext e'
  replace Ho := Ho.ext e'
  clear e'
  refine tl_nil ?_
  repeat refine seq ?_
  refine ifc hf rfl (fun hc => wskip ?_) (fun hc => wexit ?_)
  rotate_left
  rotate_left
  · have hlt : k < g.1.length := by have := of_decide_eq_true hc; (try dsimp only at this); omega
    clear hc
    replace hf := hf.keep [1, 3, 4]
    dsimp only [keep, List.filterMap, look, Nat.beq, Option.map] at hf
    repeat refine seq ?_
    refine blk ?_
    have hx := List.getElem?_eq_getElem hlt
    generalize g.1[k] = y at hx
    have hxi : (idsG g)[k]? = some y.1 := by rw [idsG, List.getElem?_map, hx]; rfl
    have hlk := List.length_take_le k (idsG g)
    have hlI : (idsG g).length = g.1.length := by simp [idsG]
    repeat refine seq ?_
    refine regn 8 hf (by decide +kernel) ?_
    refine st (mv rfl) ?_
    refine st (fldA Tryz.underlying25 rfl T22 (by decide) rfl) ?_
    refine st (ld1 T22 rfl B1 rfl) ?_
    refine st (mv rfl) ?_
    refine st (idxD Tryz.underlying22 S66 (isE rfl (VA.st _ _ _ _ e h1b)) rfl (by omega) (hx)) ?_
    refine st (fldD Tryz.underlying66 rfl T3 (by decide) (Fld.fst Fld.refl) (isR rfl)) ?_
    refine st (ldI T3 (isR rfl)) ?_
    refine st (bsl1 Tryz.underlying30 I3 rfl (by decide) rfl Ho.avs (isI rfl)) ?_
    refine en fun a w e' hf => ?_
    replace B1 := B1.ext e'
    replace Ho := Ho.ext e'
    replace e := Ext.tr e e'
    clear e'
    haveI hin : ∀ G0, InR (GB W G0) _ := OwR.inGB (W := W) Ho hWN
    refine tl_app Tryz.underlying30 I3 rfl rfl hf (by decide) rfl Ho (isR rfl) (by simp only [List.length_singleton]; omega) (by simp only [List.length_singleton, maxLen]; omega) fun a v w hg hat Hn hf => ?_
    replace e := e.gro hg (Ho.row (W := W) hWN)
    have hrow := Ho.row (W := W) hWN
    replace B1 := B1.gro hg (Ho.neLt l1)
    replace Ho := Hn
    clear hrow
    replace Ho := Hn; clear Hn hg hat hin
    refine tl_as hf rfl (by decide) fun a hf => ?_
    refine tl_nil ?_
    rw [← take_succ_get hxi] at Ho
    try simp only [Exit.then, Exit.inBlock, ↓reduceIte]
    repeat refine seq ?_
    refine regn 2 hf (by decide +kernel) ?_
    refine st (mv rfl) ?_
    refine st ((add rfl rfl (by omega)).eq (congrArg (Value.int .i64) (show (k : Int) + 1 = ((k + 1 : Nat) : Int) from rfl))) ?_
    refine en fun a w e' hf => ?_
    replace e := Ext.tr e e'
    replace B1 := B1.ext e'
    replace Ho := Ho.ext e'
    clear e'
    refine tl_as hf rfl (by decide) fun a hf => ?_
    refine tl_nil ?_
    replace hf := hf.keep [1, 3, 4]
    dsimp only [keep, List.filterMap, look, Nat.beq, Option.map] at hf
    refine ⟨_, ?_, k + 1, _, rfl, by omega, hf, e, ?_⟩
    · omega
    exact ⟨B1, Ho⟩
  · obtain rfl : k = g.1.length := by have := of_decide_eq_false hc; (try dsimp only at this); omega
    clear hc
    simp only [Exit.then, Exit.inBlock, ↓reduceIte]
    rw [show g.1.length = (idsG g).length by simp [idsG], List.take_length] at Ho
    repeat refine seq ?_
    refine regn 1 hf (by decide +kernel) ?_
    refine st (mv rfl) ?_
    refine en fun a w e' hf => ?_
    replace e := Ext.tr e e'
    replace Ho := Ho.ext e'
    clear e'
    refine tl_as hf rfl (by decide) fun a hf => ?_
    refine tl_nil ?_
    refine wret (ret1 rfl hf rfl ?_)
    rintro _ rfl
    exact ⟨_, rfl, e, Ho.low hWN fun b hb => hb.elim⟩
end Go.Mono

namespace Go.Mono
open Go Go.Proofs Go.RowKit Go.Gr

abbrev Mx := Nat → Nat → Bool
/-- who is joined at the start, by position -/
def M0 (g : GT) : Mx := fun a c => decide (0 ≤ edgF g.2 (gi (idsG g) a) (gi (idsG g) c))
def nrTo (M : Mx) (gone : Nat → Bool) (p k : Nat) : List Nat := (List.range k).filter fun j => M p j && !gone j
theorem nrTo_succ (M : Mx) (gone : Nat → Bool) (p k : Nat) : nrTo M gone p (k + 1) = nrTo M gone p k ++ if (M p k && !gone k) = true then [k] else [] := by
  rw [nrTo, List.range_succ, List.filter_append, nrTo, List.filter_cons, List.filter_nil]
theorem nrTo_len (M : Mx) (gone : Nat → Bool) (p k : Nat) : (nrTo M gone p k).length ≤ k := by
  have := List.length_filter_le (fun j => M p j && !gone j) (List.range k)
  rw [List.length_range] at this
  exact this
theorem nrTo_lt {M : Mx} {gone : Nat → Bool} {p k j : Nat} (h : j ∈ nrTo M gone p k) : j < k := List.mem_range.1 (List.mem_filter.1 h).1
theorem nrTo_nodup (M : Mx) (gone : Nat → Bool) (p k : Nat) : (nrTo M gone p k).Nodup := List.nodup_range.sublist List.filter_sublist
def fillB (a : Nat) (M : Mx) (b : Nat) : Mx := if a ≠ b then upM M a b true else M
def fillA (nr : List Nat) (M : Mx) (a : Nat) : Mx := nr.foldl (fillB a) M
def fillM (nr : List Nat) (M : Mx) : Mx := nr.foldl (fillA nr) M
/-- one vertex eliminated: who is joined, who is gone, the greatest number so far -/
def csS (n : Nat) (s : Mx × (Nat → Bool) × Int) (p : Nat) : Mx × (Nat → Bool) × Int :=
  let gone := fun i => if i = p then true else s.2.1 i
  let nr := nrTo s.1 gone p n
  (fillM nr s.1, gone, if s.2.2 < (nr.length : Nat) then (nr.length : Nat) else s.2.2)
def csTo (g : GT) (order : List Int) : Mx × (Nat → Bool) × Int := order.foldl (fun s x => csS g.1.length s (fndF g.1 x).toNat) (M0 g, fun _ => false, -1)
def costG (g : GT) (order : List Int) : Int := (csTo g order).2.2
theorem nodup_inj {α : Type} {l : List α} (hn : l.Nodup) {i j : Nat} {a : α} (hi : l[i]? = some a) (hj : l[j]? = some a) : i = j := by
  obtain ⟨h1, rfl⟩ := List.getElem?_eq_some_iff.1 hi
  obtain ⟨h2, h3⟩ := List.getElem?_eq_some_iff.1 hj
  have hp := List.pairwise_iff_getElem.1 hn
  rcases Nat.lt_trichotomy i j with h | h | h
  · exact absurd h3.symm (hp i j h1 h2 h)
  · exact h
  · exact absurd h3 (hp j i h2 h1 h)
theorem cost_spec {G G' : Nat → Prop} (g : GT) (order : List Int) (v u : Value) (W : World) (h : (Dv gtE G g).p v W) (h' : (Dv (slE intE) G' order).p u W) (hl : g.1.length ≤ 1000) (hl2 : g.2.length ≤ 1000) (hlo : order.length ≤ 1000) (hin : ∀ x ∈ order, 0 ≤ fndF g.1 x ∧ fndF g.1 x < (g.1.length : Nat)) :
    Calls Tryz.prog 17 #[v, u] W (Post (E (I (costG g order))) W) := by
  obtain ⟨u1, u2, rfl, h1, h2⟩ := Dv.gt.1 (Dv.weak (G' := Go.Mono.G0) h fun b _ hb => hb.elim)
  have hg0 : (Dv gtE Go.Mono.G0 g).p (.agg #[u1, u2]) W := Dv.gt.2 ⟨_, _, rfl, h1, h2⟩
  have hord : (Dv (slE intE) Go.Mono.G0 order).p u W := Dv.weak h' fun b _ hb => hb.elim
  clear h h'
  refine enter (args := [.agg #[u1, u2], u]) (As := [E (.agg #[u1, u2]), E u]) Tryz.func17 rfl Tryz.ntmps17 (Nat.le_of_ble_eq_true rfl) ?_ (fun a hf => ?_) (Nat.le_of_ble_eq_true rfl)
  rotate_left
  dsimp only [params, Nat.reduceAdd] at hf
  rotate_right
  · exact arg2 rfl rfl
  have e := Ext.rfl' W
  obtain ⟨n, hn⟩ : ∃ n, n = g.1.length := ⟨_, rfl⟩
  have hlI : (idsG g).length = n := by simp [idsG, hn]
  repeat refine seq ?_
  refine regn0 ?_
  refine tl_box hf rfl (by decide) fun a b2 w v2 hv2 e' hb2 hs2 B2 hf => ?_
  have hle2 := Nat.le_trans e.size (Nat.le_of_eq hb2.symm)
  replace e := Ext.tr e e'
  clear e'
  refine tl_as hf rfl (by decide) fun a hf => ?_
  refine tl_nil ?_
  cases hv2
  replace B2 : Blk w b2 #[u1, u2] 25 := B2
  replace hf := hf.keep [1, 2, 4]
  dsimp only [keep, List.filterMap, look, Nat.beq, Option.map] at hf
  have e1 := e
  obtain ⟨N1, hN1⟩ : ∃ N1, N1 = w.heap.size := ⟨_, rfl⟩
  have hN1s : N1 ≤ w.heap.size := Nat.le_of_eq hN1
  have l2 : b2 < N1 := by rw [hN1]; exact B2.lt
  repeat refine seq ?_
  refine regn 2 hf (by decide +kernel) ?_
  refine st ((ldW T25 rfl B2 rfl).eq ((rfl : _ = Value.agg #[u1, u2]))) ?_
  refine st (call1 (A := OwA intE 3 N1 Go.Mono.G0 (idsG g)) En13 rfl (fun v w he k => by cases k; exact (ids_spec g _ w (VA.st _ _ _ _ (Ext.tr e1 he) hg0) (by omega)).mono fun en w' ⟨u, k1, k2, k3⟩ => ⟨u, k1, k2, OwR.low k3 (Nat.le_trans hN1s he.size) fun b hb => hb.elim⟩)) ?_
  refine en fun a w e' hf => ?_
  replace e := Ext.tr e e'
  replace B2 := B2.ext e'
  clear e'
  refine tl_as hf rfl (by decide) fun a hf => ?_
  refine tl_nil ?_
  obtain ⟨iv, Hi, hf⟩ := hf.opn 5 rfl
  replace Hi : OwR intE 3 N1 Go.Mono.G0 w (idsG g) iv := Hi
  obtain ⟨N, hN⟩ : ∃ N, N = w.heap.size := ⟨_, rfl⟩
  have hNs : N ≤ w.heap.size := Nat.le_of_eq hN
  have hWN : W.heap.size ≤ N := by rw [hN]; exact e.size
  have l2N : b2 < N := by rw [hN]; exact B2.lt
  have HI : (Dv (slE intE) (fun b => N ≤ b) (idsG g)).p iv w := Hi.slN fun b hb hh => by have := (Hi.lt hb).2; omega
  clear Hi hN hN1s hN1 l2 e1
  replace hf := hf.keep [1, 2, 4, 5]
  dsimp only [keep, List.filterMap, look, Nat.beq, Option.map] at hf
  repeat refine seq ?_
  refine regn 2 hf (by decide +kernel) ?_
  refine st (mv rfl) ?_
  refine st ((lenD Tryz.underlying30 (isE rfl HI)).eq (congrArg I (congrArg Int.ofNat hlI))) ?_
  refine en fun a w e' hf => ?_
  replace HI := VA.st _ _ _ _ e' HI
  replace hNs := Nat.le_trans hNs e'.size
  replace e := Ext.tr e e'
  replace B2 := B2.ext e'
  clear e'
  refine tl_as hf rfl (by decide) fun a hf => ?_
  refine tl_nil ?_
  replace hf := hf.keep [1, 2, 4, 5, 6]
  dsimp only [keep, List.filterMap, look, Nat.beq, Option.map] at hf
  replace hf := hf.upd 6 rfl (B := E (I (n : Nat))) (fun v h => h)
  replace hf := hf.keep [1, 2, 4, 5, 6]
  dsimp only [keep, List.filterMap, look, Nat.beq, Option.map] at hf
  repeat refine seq ?_
  refine regn 1 hf (by decide +kernel) ?_
  refine st (mv rfl) ?_
  refine en fun a w e' hf => ?_
  replace HI := VA.st _ _ _ _ e' HI
  replace hNs := Nat.le_trans hNs e'.size
  replace e := Ext.tr e e'
  replace B2 := B2.ext e'
  clear e'
  refine tl_mk Tryz.underlying89 I90 rfl hf (by decide) rfl (by omega) (by decide) fun a b23 w e' hb23 hs23 B23 hf => ?_
  have hle23 := Nat.le_trans e.size (Nat.le_of_eq hb23.symm)
  have lo23_hNs := Nat.le_trans hNs (Nat.le_of_eq hb23.symm)
  have lt23_B2 := B2.lt
  replace HI := VA.st _ _ _ _ e' HI
  replace hNs := Nat.le_trans hNs e'.size
  replace e := Ext.tr e e'
  replace B2 := B2.ext e'
  clear e'
  refine tl_as hf rfl (by decide) fun a hf => ?_
  refine tl_nil ?_
  rw [oC_made n fun _ => 0] at B23
  have n23 : N ≤ b23 := by omega
  have HM : MatR 90 4 N n 0 (fun _ => 0) (M0 g) b23 w := ⟨B23, fun i hi => by omega, fun i j hi => by omega, ⟨n23, fun i hi => by omega⟩, by decide⟩
  clear B23
  replace hf := hf.keep [1, 2, 5, 6, 7]
  dsimp only [keep, List.filterMap, look, Nat.beq, Option.map] at hf
  repeat refine seq ?_
  refine regn0 ?_
  refine tl_as hf rfl (by decide) fun a hf => ?_
  refine tl_nil ?_
  replace hf := hf.keep [1, 2, 5, 6, 7, 8]
  dsimp only [keep, List.filterMap, look, Nat.beq, Option.map] at hf
  repeat refine seq ?_
  refine blk (loopN (fun r0 a w => ∃ (k : Nat) (rb : Nat → Nat), r0 = n - k ∧ k ≤ n ∧ Fr 130 a w [(1, E u), (2, E (ptr b2)), (5, E iv), (6, E (I (n : Nat))), (7, E (.slice (some ⟨b23, 0, none⟩) n n)), (8, E (I k))] ∧ Ext W w ∧ Blk w b2 #[u1, u2] 25 ∧ (Dv (slE intE) (fun b => N ≤ b) (idsG g)).p iv w ∧ MatR 90 4 N n k rb (M0 g) b23 w) n ⟨0, fun _ => 0, rfl, by omega, hf, e, ⟨B2, HI, HM⟩⟩ ?_)
  clear hf e; try clear B2; try clear HI; try clear HM
  rintro r0 a w ⟨k, rb, rfl, hk, hf, e, B2, HI, HM⟩
  repeat refine seq ?_
  refine regn 3 hf (by decide +kernel) ?_
  refine st (mv rfl) ?_
  refine st (mv rfl) ?_
  refine st (lss rfl rfl) ?_
  refine en fun a w e' hf => ?_
  replace HI := VA.st _ _ _ _ e' HI
  replace HM := HM.ext e'
  replace e := Ext.tr e e'
  replace B2 := B2.ext e'
  clear e'
  refine tl_nil ?_
  repeat refine seq ?_
  refine ifc hf rfl (fun hc => wskip ?_) (fun hc => wexit ?_)
  rotate_left
  rotate_left
  · have hlt : k < n := by have := of_decide_eq_true hc; (try dsimp only at this); omega
    clear hc
    replace hf := hf.keep [1, 2, 5, 6, 7, 8]
    dsimp only [keep, List.filterMap, look, Nat.beq, Option.map] at hf
    repeat refine seq ?_
    refine blk ?_
    have hNs : N ≤ w.heap.size := Nat.le_of_lt (Nat.lt_of_le_of_lt n23 HM.o.lt)
    repeat refine seq ?_
    refine regn 3 hf (by decide +kernel) ?_
    refine st (mv rfl) ?_
    refine st (mv rfl) ?_
    refine st (mv rfl) ?_
    refine en fun a w e' hf => ?_
    replace HI := VA.st _ _ _ _ e' HI
    replace HM := HM.ext e'
    replace hNs := Nat.le_trans hNs e'.size
    replace e := Ext.tr e e'
    replace B2 := B2.ext e'
    clear e'
    have hfr : ∀ i, i < k → rb i < w.heap.size := fun i hi => (HM.r i hi).lt
    refine tl_mk Tryz.underlying90 I4 rfl hf (by decide) rfl (by omega) (by decide) fun a b32 w e' hb32 hs32 B32 hf => ?_
    have hle32 := Nat.le_trans e.size (Nat.le_of_eq hb32.symm)
    have lo32_hNs := Nat.le_trans hNs (Nat.le_of_eq hb32.symm)
    have lt32_B2 := B2.lt
    replace HI := VA.st _ _ _ _ e' HI
    replace HM := HM.ext e'
    replace hNs := Nat.le_trans hNs e'.size
    replace e := Ext.tr e e'
    replace B2 := B2.ext e'
    clear e'
    refine tl_op hf (by decide) (idxS Tryz.underlying89 S90 rfl rfl (by omega)) fun a w e' hf => ?_
    replace HI := VA.st _ _ _ _ e' HI
    replace HM := HM.ext e'
    replace hNs := Nat.le_trans hNs e'.size
    replace e := Ext.tr e e'
    replace B2 := B2.ext e'
    replace B32 := B32.ext e'
    clear e'
    rw [bC_made] at B32
    have n32 : N ≤ b32 := by omega
    refine tl_st1 T90 hf rfl rfl rfl HM.o (by rw [oC_size]; omega) fun w hg hsz Bo hf => ?_
    rw [show 0 + ((k : Nat) : Int).toNat * 1 = k by omega] at Bo
    have nb23 : b23 ≠ b32 := HM.o.tyNe B32 (by decide)
    replace HM := HM.add B32 (fun i hi => by have := hfr i hi; omega) n32 hlt hg Bo
    replace e := e.gr hg (by omega); replace B2 := B2.gr hg (by omega); replace HI := Dv.grN HI hg (fun bb hb => by cases hb; omega)
    clear hg Bo B32 hfr hNs
    replace HM : MatR 90 4 N n (k + 1) (adB rb k b32) (fun a c => if a < k ∨ c < 0 then M0 g a c else false) b23 w := HM.congr fun i hi j hj => by
      by_cases h : i = k
      · simp [h]
      · have h' : i < k := by omega
        simp [h, h']
    generalize adB rb k b32 = rb' at HM
    refine tl_nil ?_
    replace hf := hf.keep [1, 2, 5, 6, 7, 8]
    dsimp only [keep, List.filterMap, look, Nat.beq, Option.map] at hf
    repeat refine seq ?_
    refine regn0 ?_
    refine tl_as hf rfl (by decide) fun a hf => ?_
    refine tl_nil ?_
    replace hf := hf.keep [1, 2, 5, 6, 7, 8, 9]
    dsimp only [keep, List.filterMap, look, Nat.beq, Option.map] at hf
    repeat refine seq ?_
    refine blk (loopN (fun r0 a w => ∃ (j : Nat) , r0 = n - j ∧ j ≤ n ∧ Fr 130 a w [(1, E u), (2, E (ptr b2)), (5, E iv), (6, E (I (n : Nat))), (7, E (.slice (some ⟨b23, 0, none⟩) n n)), (8, E (I k)), (9, E (I j))] ∧ Ext W w ∧ Blk w b2 #[u1, u2] 25 ∧ (Dv (slE intE) (fun b => N ≤ b) (idsG g)).p iv w ∧ MatR 90 4 N n (k + 1) rb' (fun a c => if a < k ∨ c < j then M0 g a c else false) b23 w) n ⟨0, rfl, by omega, hf, e, ⟨B2, HI, HM⟩⟩ ?_)
    clear hf e; try clear B2; try clear HI; try clear HM
    rintro r0 a w ⟨j, rfl, hj, hf, e, B2, HI, HM⟩
    repeat refine seq ?_
    refine regn 3 hf (by decide +kernel) ?_
    refine st (mv rfl) ?_
    refine st (mv rfl) ?_
    refine st (lss rfl rfl) ?_
    refine en fun a w e' hf => ?_
    replace HI := VA.st _ _ _ _ e' HI
    replace HM := HM.ext e'
    replace e := Ext.tr e e'
    replace B2 := B2.ext e'
    clear e'
    refine tl_nil ?_
    repeat refine seq ?_
    refine ifc hf rfl (fun hc => wskip ?_) (fun hc => wexit ?_)
    rotate_left
    rotate_left
    · have hltj : j < n := by have := of_decide_eq_true hc; (try dsimp only at this); omega
      clear hc
      replace hf := hf.keep [1, 2, 5, 6, 7, 8, 9]
      dsimp only [keep, List.filterMap, look, Nat.beq, Option.map] at hf
      repeat refine seq ?_
      refine blk ?_
      have hxk : (idsG g)[k]? = some (gi (idsG g) k) := gi_get (by omega)
      have hxj : (idsG g)[j]? = some (gi (idsG g) j) := gi_get (by omega)
      repeat refine seq ?_
      refine reg 17 Mix.mix hf (by decide +kernel) ?_
      refine st (mv rfl) ?_
      refine st (mv rfl) ?_
      refine st (idxS Tryz.underlying89 S90 rfl rfl (by omega)) ?_
      refine st (ld1 (v := .slice (some ⟨rb' k, 0, none⟩) n n) T90 rfl HM.o (by rw [show 0 + ((k : Nat) : Int).toNat * 1 = k by omega]; exact oC_get (Nat.lt_succ_self _) hlt)) ?_
      refine st (mv rfl) ?_
      refine st ((ldW T25 rfl B2 rfl).eq ((rfl : _ = Value.agg #[u1, u2]))) ?_
      refine st (mv rfl) ?_
      refine st (mv rfl) ?_
      refine st (idxD Tryz.underlying30 S3 (isE rfl HI) rfl (by omega) (hxk)) ?_
      refine st (ldI T3 (isR rfl)) ?_
      refine st (mv rfl) ?_
      refine st (mv rfl) ?_
      refine st (idxD Tryz.underlying30 S3 (isE rfl HI) rfl (by omega) (hxj)) ?_
      refine st (ldI T3 (isR rfl)) ?_
      refine st (call3 (A := E (I (edgF g.2 (gi (idsG g) k) (gi (idsG g) j)))) En42 rfl rfl rfl (fun v u s w he k1 k2 k3 => by cases k1; cases k2; cases k3; exact edge_spec g _ _ _ w (VA.st _ _ _ _ (Ext.tr e he) hg0) (by omega))) ?_
      refine st (geq rfl rfl) ?_
      refine st (idxS Tryz.underlying90 S4 rfl rfl (by omega)) ?_
      refine en fun a w e' hf => ?_
      replace HI := VA.st _ _ _ _ e' HI
      replace HM := HM.ext e'
      replace e := Ext.tr e e'
      replace B2 := B2.ext e'
      clear e'
      replace hf := hf.keep [1, 2, 5, 6, 7, 8, 9, 54, 55]
      dsimp only [keep, List.filterMap, look, Nat.beq, Option.map] at hf
      refine tl_st1 T4 hf rfl rfl rfl (HM.r k (Nat.lt_succ_self _)) (by rw [bC_size]; omega) fun w hg hsz Br hf => ?_
      rw [show 0 + ((j : Nat) : Int).toNat * 1 = j by omega] at Br
      have nr2 := (HM.lo.2 k (Nat.lt_succ_self _))
      replace HM := HM.put (Nat.lt_succ_self _) hg Br
      replace e := e.gr hg (by omega); replace B2 := B2.gr hg (by omega); replace HI := Dv.grN HI hg (fun bb hb => by cases hb; exact nr2)
      clear hg Br nr2
      replace HM : MatR 90 4 N n (k + 1) rb' (fun a c => if a < k ∨ c < j + 1 then M0 g a c else false) b23 w := HM.congr fun a ha c hc => by
        unfold upM
        by_cases h1 : a = k ∧ c = j
        · rw [if_pos h1, h1.1, h1.2, if_pos (.inr (Nat.lt_succ_self _))]; rfl
        · rw [if_neg h1]
          dsimp only
          by_cases h2 : a < k ∨ c < j
          · rw [if_pos h2, if_pos (h2.imp id fun h => by omega)]
          · rw [if_neg h2, if_neg (fun h => h2 (h.imp id fun h => by omega))]
      refine tl_nil ?_
      try simp only [Exit.then, Exit.inBlock, ↓reduceIte]
      repeat refine seq ?_
      refine regn 2 hf (by decide +kernel) ?_
      refine st (mv rfl) ?_
      refine st ((add rfl rfl (by omega)).eq (congrArg (Value.int .i64) (show (j : Int) + 1 = ((j + 1 : Nat) : Int) from rfl))) ?_
      refine en fun a w e' hf => ?_
      replace HI := VA.st _ _ _ _ e' HI
      replace HM := HM.ext e'
      replace e := Ext.tr e e'
      replace B2 := B2.ext e'
      clear e'
      refine tl_as hf rfl (by decide) fun a hf => ?_
      refine tl_nil ?_
      replace hf := hf.keep [1, 2, 5, 6, 7, 8, 9]
      dsimp only [keep, List.filterMap, look, Nat.beq, Option.map] at hf
      refine ⟨_, ?_, j + 1, rfl, by omega, hf, e, ?_⟩
      · omega
      exact ⟨B2, HI, HM⟩
    · obtain rfl : n = j := by have := of_decide_eq_false hc; (try dsimp only at this); omega
      clear hc
      simp only [Exit.then, Exit.inBlock, ↓reduceIte]
      replace HM : MatR 90 4 N n (k + 1) rb' (M0 g) b23 w := HM.congr fun a ha c hc => by simp [hc]
      try simp only [Exit.then, Exit.inBlock, ↓reduceIte]
      repeat refine seq ?_
      refine regn 2 hf (by decide +kernel) ?_
      refine st (mv rfl) ?_
      refine st ((add rfl rfl (by omega)).eq (congrArg (Value.int .i64) (show (k : Int) + 1 = ((k + 1 : Nat) : Int) from rfl))) ?_
      refine en fun a w e' hf => ?_
      replace HI := VA.st _ _ _ _ e' HI
      replace HM := HM.ext e'
      replace e := Ext.tr e e'
      replace B2 := B2.ext e'
      clear e'
      refine tl_as hf rfl (by decide) fun a hf => ?_
      refine tl_nil ?_
      replace hf := hf.keep [1, 2, 5, 6, 7, 8]
      dsimp only [keep, List.filterMap, look, Nat.beq, Option.map] at hf
      refine ⟨_, ?_, k + 1, rb', rfl, by omega, hf, e, ?_⟩
      · omega
      exact ⟨B2, HI, HM⟩
  · obtain rfl : n = k := by have := of_decide_eq_false hc; (try dsimp only at this); omega
    clear hc
    simp only [Exit.then, Exit.inBlock, ↓reduceIte]
    clear HI
    have hNs : N ≤ w.heap.size := Nat.le_of_lt (Nat.lt_of_le_of_lt n23 HM.o.lt)
    replace hf := hf.keep [1, 2, 6, 7]
    dsimp only [keep, List.filterMap, look, Nat.beq, Option.map] at hf
    have hfr : ∀ i, i < n → rb i < w.heap.size := fun i hi => (HM.r i hi).lt
    repeat refine seq ?_
    refine regn0 ?_
    refine tl_op hf (by decide) (mv rfl) fun a w e' hf => ?_
    replace HM := HM.ext e'
    replace hNs := Nat.le_trans hNs e'.size
    replace e := Ext.tr e e'
    replace B2 := B2.ext e'
    clear e'
    have hfr2 : ∀ i, i < n → rb i < w.heap.size := fun i hi => (HM.r i hi).lt
    refine tl_mk Tryz.underlying90 I4 rfl hf (by decide) rfl (by omega) (by decide) fun a b57 w e' hb57 hs57 B57 hf => ?_
    have hle57 := Nat.le_trans e.size (Nat.le_of_eq hb57.symm)
    have lo57_hNs := Nat.le_trans hNs (Nat.le_of_eq hb57.symm)
    have lt57_B2 := B2.lt
    replace HM := HM.ext e'
    replace hNs := Nat.le_trans hNs e'.size
    replace e := Ext.tr e e'
    replace B2 := B2.ext e'
    clear e'
    refine tl_as hf rfl (by decide) fun a hf => ?_
    refine tl_nil ?_
    rw [bC_made] at B57
    have n57 : N ≤ b57 := by omega
    have hgb : ∀ i, i < n → rb i ≠ b57 := fun i hi => by have := hfr2 i hi; omega
    have ng23 : b57 ≠ b23 := (HM.o.tyNe B57 (by decide)).symm
    clear hfr hfr2
    replace hf := hf.keep [1, 2, 6, 7, 10]
    dsimp only [keep, List.filterMap, look, Nat.beq, Option.map] at hf
    repeat refine seq ?_
    refine regn0 ?_
    refine tl_as hf rfl (by decide) fun a hf => ?_
    refine tl_nil ?_
    repeat refine seq ?_
    refine regn0 ?_
    refine tl_as hf rfl (by decide) fun a hf => ?_
    refine tl_nil ?_
    clear hNs
    replace hf := hf.keep [1, 2, 6, 7, 10, 11, 12]
    dsimp only [keep, List.filterMap, look, Nat.beq, Option.map] at hf
    repeat refine seq ?_
    refine blk (loopN (fun r0 a w => ∃ (k : Nat) (zs : Mx × (Nat → Bool) × Int), r0 = order.length - k ∧ k ≤ order.length ∧ Fr 130 a w [(1, E u), (2, E (ptr b2)), (6, E (I (n : Nat))), (7, E (.slice (some ⟨b23, 0, none⟩) n n)), (10, E (.slice (some ⟨b57, 0, none⟩) n n)), (11, E (I zs.2.2)), (12, E (I k))] ∧ Ext W w ∧ Blk w b2 #[u1, u2] 25 ∧ Blk w b57 (bC n zs.2.1) 4 ∧ MatR 90 4 N n n rb zs.1 b23 w ∧ (order.take k).foldl (fun s x => csS n s (fndF g.1 x).toNat) (M0 g, fun _ => false, -1) = zs) order.length ⟨0, (M0 g,  fun _ => false,  -1), rfl, by omega, hf, e, ⟨B2, B57, HM, rfl⟩⟩ ?_)
    clear hf e; try clear B2; try clear B57; try clear HM; try clear hst
    rintro r0 a w ⟨k, zs, rfl, hk, hf, e, B2, B57, HM, hst⟩
    repeat refine seq ?_
    refine regn 4 hf (by decide +kernel) ?_
    refine st (mv rfl) ?_
    refine st (mv rfl) ?_
    refine st (lenD Tryz.underlying30 (isE rfl (VA.st _ _ _ _ e hord))) ?_
    refine st (lss rfl rfl) ?_
    refine en fun a w e' hf => ?_
    replace HM := HM.ext e'
    replace e := Ext.tr e e'
    replace B2 := B2.ext e'
    replace B57 := B57.ext e'
    clear e'
    refine tl_nil ?_
    repeat refine seq ?_
    refine ifc hf rfl (fun hc => wskip ?_) (fun hc => wexit ?_)
    rotate_left
    rotate_left
    · have hlt : k < order.length := by have := of_decide_eq_true hc; (try dsimp only at this); omega
      clear hc
      replace hf := hf.keep [1, 2, 6, 7, 10, 11, 12]
      dsimp only [keep, List.filterMap, look, Nat.beq, Option.map] at hf
      repeat refine seq ?_
      refine blk ?_
      obtain ⟨M, gone, most⟩ := zs
      dsimp only at *
      have hx : order[k]? = some (gi order k) := gi_get hlt
      obtain ⟨x, hxe⟩ : ∃ x, x = gi order k := ⟨_, rfl⟩
      rw [← hxe] at hx
      have hxm := hin x (List.mem_of_getElem? hx)
      obtain ⟨p, hp⟩ : ∃ p : Nat, fndF g.1 x = (p : Int) := ⟨(fndF g.1 x).toNat, by omega⟩
      have hpn : p < n := by rw [hp] at hxm; omega
      have hstep : (order.take (k + 1)).foldl (fun s x => csS n s (fndF g.1 x).toNat) (M0 g, fun _ => false, -1) = csS n (M, gone, most) p := by rw [take_succ_get hx, List.foldl_append, hst, List.foldl_cons, List.foldl_nil, hp, Int.toNat_natCast]
      clear hst
      have hNs : N ≤ w.heap.size := Nat.le_of_lt (Nat.lt_of_le_of_lt n23 HM.o.lt)
      repeat refine seq ?_
      refine reg 6 Mix.mix hf (by decide +kernel) ?_
      refine st ((ldW T25 rfl B2 rfl).eq ((rfl : _ = Value.agg #[u1, u2]))) ?_
      refine st (mv rfl) ?_
      refine st (mv rfl) ?_
      refine st (idxD Tryz.underlying30 S3 (isE rfl (VA.st _ _ _ _ e hord)) rfl (by omega) (hx)) ?_
      refine st (ldI T3 (isR rfl)) ?_
      refine st (call2 (A := E (I (p : Nat))) En28 rfl rfl (fun v u w he k1 k2 => by cases k1; cases k2; have := find_spec g x _ w (VA.st _ _ _ _ (Ext.tr e he) hg0) (by omega); rwa [hp] at this)) ?_
      refine en fun a w e' hf => ?_
      replace HM := HM.ext e'
      replace hNs := Nat.le_trans hNs e'.size
      replace e := Ext.tr e e'
      replace B2 := B2.ext e'
      replace B57 := B57.ext e'
      clear e'
      refine tl_as hf rfl (by decide) fun a hf => ?_
      refine tl_nil ?_
      replace hf := hf.keep [1, 2, 6, 7, 10, 11, 12, 13]
      dsimp only [keep, List.filterMap, look, Nat.beq, Option.map] at hf
      repeat refine seq ?_
      refine regn 3 hf (by decide +kernel) ?_
      refine st (mv rfl) ?_
      refine st (mv rfl) ?_
      refine st (idxS Tryz.underlying90 S4 rfl rfl (by omega)) ?_
      refine en fun a w e' hf => ?_
      replace HM := HM.ext e'
      replace hNs := Nat.le_trans hNs e'.size
      replace e := Ext.tr e e'
      replace B2 := B2.ext e'
      replace B57 := B57.ext e'
      clear e'
      refine tl_st1 T4 hf rfl rfl rfl B57 (by rw [bC_size]; omega) fun w hg hsz B57 hf => ?_
      rw [show 0 + ((p : Nat) : Int).toNat * 1 = p by omega, bC_set] at B57
      replace HM := HM.gro hg (fun h => ng23 (by cases h; rfl)) (fun i hi h => hgb i hi (by cases h; rfl))
      replace e := e.gr hg (by omega); replace B2 := B2.gr hg (by omega); replace hNs := Nat.le_trans hNs hg.size
      clear hg
      refine tl_nil ?_
      obtain ⟨gone', hgo⟩ : ∃ gone' : Nat → Bool, gone' = fun i => if i = p then true else gone i := ⟨_, rfl⟩
      rw [← hgo] at B57
      replace hf := hf.keep [1, 2, 6, 7, 10, 11, 12, 13]
      dsimp only [keep, List.filterMap, look, Nat.beq, Option.map] at hf
      repeat refine seq ?_
      refine regn0 ?_
      refine tl_as hf rfl (by decide) fun a hf => ?_
      refine tl_nil ?_
      repeat refine seq ?_
      refine regn0 ?_
      refine tl_as hf rfl (by decide) fun a hf => ?_
      refine tl_nil ?_
      replace hf := hf.keep [1, 2, 6, 7, 10, 11, 12, 13, 14, 15]
      dsimp only [keep, List.filterMap, look, Nat.beq, Option.map] at hf
      repeat refine seq ?_
      refine blk (loopN (fun r0 a w => ∃ (j : Nat) (uv : Value), r0 = n - j ∧ j ≤ n ∧ Fr 130 a w [(1, E u), (2, E (ptr b2)), (6, E (I (n : Nat))), (7, E (.slice (some ⟨b23, 0, none⟩) n n)), (10, E (.slice (some ⟨b57, 0, none⟩) n n)), (11, E (I most)), (12, E (I k)), (13, E (I (p : Nat))), (14, E uv), (15, E (I j))] ∧ Ext W w ∧ Blk w b2 #[u1, u2] 25 ∧ Blk w b57 (bC n gone') 4 ∧ MatR 90 4 N n n rb M b23 w ∧ OwR intE 3 N Go.Mono.G0 w (natL (nrTo M gone' p j)) uv) n ⟨0, .slice none 0 0, rfl, by omega, hf, e, ⟨B2, B57, HM, OwR.nil intE _ hNs fun b hb => hb.elim⟩⟩ ?_)
      clear hf e; try clear B2; try clear B57; try clear HM; try clear Ho
      rintro r0 a w ⟨j, uv, rfl, hj, hf, e, B2, B57, HM, Ho⟩
      repeat refine seq ?_
      refine regn 3 hf (by decide +kernel) ?_
      refine st (mv rfl) ?_
      refine st (mv rfl) ?_
      refine st (lss rfl rfl) ?_
      refine en fun a w e' hf => ?_
      replace HM := HM.ext e'
      replace e := Ext.tr e e'
      replace B2 := B2.ext e'
      replace B57 := B57.ext e'
      replace Ho := Ho.ext e'
      clear e'
      refine tl_nil ?_
      repeat refine seq ?_
      refine ifc hf rfl (fun hc => wskip ?_) (fun hc => wexit ?_)
      rotate_left
      rotate_left
      · have hltj : j < n := by have := of_decide_eq_true hc; (try dsimp only at this); omega
        clear hc
        replace hf := hf.keep [1, 2, 6, 7, 10, 11, 12, 13, 14, 15]
        dsimp only [keep, List.filterMap, look, Nat.beq, Option.map] at hf
        repeat refine seq ?_
        refine blk ?_
        have hsuc := nrTo_succ M gone' p j
        have hll := nrTo_len M gone' p j
        have hLn : (natL (nrTo M gone' p j)).length = (nrTo M gone' p j).length := by simp [natL]
        cases hMp : M p j with
        | false =>
          rw [hMp, Bool.false_and, if_neg (by decide), List.append_nil] at hsuc
          repeat refine seq ?_
          refine regn 14 hf (by decide +kernel) ?_
          refine st (mv rfl) ?_
          refine st (mv rfl) ?_
          refine st (idxS Tryz.underlying89 S90 rfl rfl (by omega)) ?_
          refine st (ld1 (v := .slice (some ⟨rb p, 0, none⟩) n n) T90 rfl HM.o (by rw [show 0 + ((p : Nat) : Int).toNat * 1 = p by omega]; exact oC_get hpn (Nat.le_refl _))) ?_
          refine st (mv rfl) ?_
          refine st (idxS Tryz.underlying90 S4 rfl rfl (by omega)) ?_
          refine st ((ld1 (v := .bool (M p j)) T4 rfl (HM.r p hpn) (by rw [show 0 + ((j : Nat) : Int).toNat * 1 = j by omega]; exact bC_get hltj)).eq (congrArg Value.bool (hMp))) ?_
          refine st (mv rfl) ?_
          refine sn rfl rfl rfl ?_
          refine sn rfl rfl rfl ?_
          refine sn rfl rfl rfl ?_
          refine sn rfl rfl rfl ?_
          refine sn rfl rfl rfl ?_
          refine st (pkF rfl rfl) ?_
          refine en fun a w e' hf => ?_
          replace HM := HM.ext e'
          replace e := Ext.tr e e'
          replace B2 := B2.ext e'
          replace B57 := B57.ext e'
          replace Ho := Ho.ext e'
          clear e'
          refine tl_nil ?_
          repeat refine seq ?_
          refine ifc hf rfl (fun h => by cases h) (fun _ => ?_)
          refine wskip ?_
          try simp only [Exit.then, Exit.inBlock, ↓reduceIte]
          try simp only [Exit.then, Exit.inBlock, ↓reduceIte]
          repeat refine seq ?_
          refine regn 2 hf (by decide +kernel) ?_
          refine st (mv rfl) ?_
          refine st ((add rfl rfl (by omega)).eq (congrArg (Value.int .i64) (show (j : Int) + 1 = ((j + 1 : Nat) : Int) from rfl))) ?_
          refine en fun a w e' hf => ?_
          replace HM := HM.ext e'
          replace e := Ext.tr e e'
          replace B2 := B2.ext e'
          replace B57 := B57.ext e'
          replace Ho := Ho.ext e'
          clear e'
          refine tl_as hf rfl (by decide) fun a hf => ?_
          refine tl_nil ?_
          replace hf := hf.keep [1, 2, 6, 7, 10, 11, 12, 13, 14, 15]
          dsimp only [keep, List.filterMap, look, Nat.beq, Option.map] at hf
          refine ⟨_, ?_, j + 1, _, rfl, by omega, hf, e, ?_⟩
          · omega
          rw [hsuc]
          exact ⟨B2, B57, HM, Ho⟩
        | true =>
          rw [hMp, Bool.true_and] at hsuc
          repeat refine seq ?_
          refine regn 14 hf (by decide +kernel) ?_
          refine st (mv rfl) ?_
          refine st (mv rfl) ?_
          refine st (idxS Tryz.underlying89 S90 rfl rfl (by omega)) ?_
          refine st (ld1 (v := .slice (some ⟨rb p, 0, none⟩) n n) T90 rfl HM.o (by rw [show 0 + ((p : Nat) : Int).toNat * 1 = p by omega]; exact oC_get hpn (Nat.le_refl _))) ?_
          refine st (mv rfl) ?_
          refine st (idxS Tryz.underlying90 S4 rfl rfl (by omega)) ?_
          refine st ((ld1 (v := .bool (M p j)) T4 rfl (HM.r p hpn) (by rw [show 0 + ((j : Nat) : Int).toNat * 1 = j by omega]; exact bC_get hltj)).eq (congrArg Value.bool (hMp))) ?_
          refine st (mv rfl) ?_
          refine sy rfl rfl (mv rfl) ?_
          refine sy rfl rfl (mv rfl) ?_
          refine sy rfl rfl (idxS Tryz.underlying90 S4 rfl rfl (by omega)) ?_
          refine sy rfl rfl (ld1 (v := .bool (gone' j)) T4 rfl B57 (by rw [show 0 + ((j : Nat) : Int).toNat * 1 = j by omega]; exact bC_get hltj)) ?_
          refine sy rfl rfl (notp rfl) ?_
          refine st (pkT rfl rfl) ?_
          refine en fun a w e' hf => ?_
          replace HM := HM.ext e'
          replace e := Ext.tr e e'
          replace B2 := B2.ext e'
          replace B57 := B57.ext e'
          replace Ho := Ho.ext e'
          clear e'
          refine tl_nil ?_
          repeat refine seq ?_
          refine ifc hf rfl (fun hb => ?_) (fun hb => ?_)
          · rw [if_pos hb] at hsuc
            replace hf := hf.keep [1, 2, 6, 7, 10, 11, 12, 13, 14, 15]
            dsimp only [keep, List.filterMap, look, Nat.beq, Option.map] at hf
            repeat refine seq ?_
            refine regn 3 hf (by decide +kernel) ?_
            refine st (mv rfl) ?_
            refine st (mv rfl) ?_
            refine st (bsl1 Tryz.underlying30 I3 rfl (by decide) rfl Ho.avs (isI rfl)) ?_
            refine en fun a w e' hf => ?_
            replace B2 := B2.ext e'
            replace B57 := B57.ext e'
            replace HM := HM.ext e'
            replace Ho := Ho.ext e'
            replace e := Ext.tr e e'
            clear e'
            haveI hin : ∀ G0, InR (GB W G0) _ := OwR.inGB (W := W) Ho hWN
            refine tl_app Tryz.underlying30 I3 rfl rfl hf (by decide) rfl Ho (isR rfl) (by simp only [List.length_singleton]; omega) (by simp only [List.length_singleton, maxLen]; omega) fun a v w hg hat Hn hf => ?_
            replace e := e.gro hg (Ho.row (W := W) hWN)
            have hrow := Ho.row (W := W) hWN
            replace B2 := B2.gro hg (Ho.neLt l2N)
            replace B57 := B57.gro hg (Ho.neB B57 (by decide))
            replace HM := HM.gro hg (Ho.neB HM.o (by decide)) (fun i hi => Ho.neB (HM.r i hi) (by decide))
            replace Ho := Hn
            clear hrow
            replace Ho := Hn; clear Hn hg hat hin
            refine tl_as hf rfl (by decide) fun a hf => ?_
            refine tl_nil ?_
            try simp only [Exit.then, Exit.inBlock, ↓reduceIte]
            repeat refine seq ?_
            refine regn 2 hf (by decide +kernel) ?_
            refine st (mv rfl) ?_
            refine st ((add rfl rfl (by omega)).eq (congrArg (Value.int .i64) (show (j : Int) + 1 = ((j + 1 : Nat) : Int) from rfl))) ?_
            refine en fun a w e' hf => ?_
            replace HM := HM.ext e'
            replace e := Ext.tr e e'
            replace B2 := B2.ext e'
            replace B57 := B57.ext e'
            replace Ho := Ho.ext e'
            clear e'
            refine tl_as hf rfl (by decide) fun a hf => ?_
            refine tl_nil ?_
            replace hf := hf.keep [1, 2, 6, 7, 10, 11, 12, 13, 14, 15]
            dsimp only [keep, List.filterMap, look, Nat.beq, Option.map] at hf
            refine ⟨_, ?_, j + 1, _, rfl, by omega, hf, e, ?_⟩
            · omega
            rw [hsuc]
            exact ⟨B2, B57, HM, by rw [natL, List.map_append]; exact Ho⟩
          · rw [if_neg (by simpa using hb), List.append_nil] at hsuc
            refine wskip ?_
            try simp only [Exit.then, Exit.inBlock, ↓reduceIte]
            try simp only [Exit.then, Exit.inBlock, ↓reduceIte]
            repeat refine seq ?_
            refine regn 2 hf (by decide +kernel) ?_
            refine st (mv rfl) ?_
            refine st ((add rfl rfl (by omega)).eq (congrArg (Value.int .i64) (show (j : Int) + 1 = ((j + 1 : Nat) : Int) from rfl))) ?_
            refine en fun a w e' hf => ?_
            replace HM := HM.ext e'
            replace e := Ext.tr e e'
            replace B2 := B2.ext e'
            replace B57 := B57.ext e'
            replace Ho := Ho.ext e'
            clear e'
            refine tl_as hf rfl (by decide) fun a hf => ?_
            refine tl_nil ?_
            replace hf := hf.keep [1, 2, 6, 7, 10, 11, 12, 13, 14, 15]
            dsimp only [keep, List.filterMap, look, Nat.beq, Option.map] at hf
            refine ⟨_, ?_, j + 1, _, rfl, by omega, hf, e, ?_⟩
            · omega
            rw [hsuc]
            exact ⟨B2, B57, HM, Ho⟩
      · obtain rfl : n = j := by have := of_decide_eq_false hc; (try dsimp only at this); omega
        clear hc
        simp only [Exit.then, Exit.inBlock, ↓reduceIte]
        obtain ⟨nr, hnr⟩ : ∃ nr, nr = nrTo M gone' p n := ⟨_, rfl⟩
        rw [← hnr] at Ho
        have hnd : nr.Nodup := by rw [hnr]; exact nrTo_nodup _ _ _ _
        have hnl : nr.length ≤ n := by rw [hnr]; exact nrTo_len _ _ _ _
        have hlt' : ∀ a ∈ nr, a < n := fun a ha => by rw [hnr] at ha; exact nrTo_lt ha
        have hLn : (natL nr).length = nr.length := by simp [natL]
        have hLi : (((natL nr).length : Nat) : Int) = ((nr.length : Nat) : Int) := by rw [hLn]
        have hcs : csS n (M, gone, most) p = (fillM nr M, gone', if most < ((nr.length : Nat) : Int) then ((nr.length : Nat) : Int) else most) := by rw [hnr, hgo]; rfl
        rw [hcs] at hstep
        clear hnr hgo hcs
        repeat refine seq ?_
        refine regn 4 hf (by decide +kernel) ?_
        refine st (mv rfl) ?_
        refine st ((lenD Tryz.underlying30 (isE rfl Ho.sl)).eq (congrArg I hLi)) ?_
        refine st (mv rfl) ?_
        refine st (gtr rfl rfl) ?_
        refine en fun a w e' hf => ?_
        replace HM := HM.ext e'
        replace e := Ext.tr e e'
        replace B2 := B2.ext e'
        replace B57 := B57.ext e'
        replace Ho := Ho.ext e'
        clear e'
        refine tl_nil ?_
        obtain ⟨most', hmost⟩ : ∃ most' : Int, most' = if most < ((nr.length : Nat) : Int) then ((nr.length : Nat) : Int) else most := ⟨_, rfl⟩
        rw [← hmost] at hstep
        replace hf := hf.keep [1, 2, 6, 7, 10, 11, 12, 14, 99]
        dsimp only [keep, List.filterMap, look, Nat.beq, Option.map] at hf
        repeat refine seq ?_
        refine cut (J := fun a w => Fr 130 a w [(1, E u), (2, E (ptr b2)), (6, E (I (n : Nat))), (7, E (.slice (some ⟨b23, 0, none⟩) n n)), (10, E (.slice (some ⟨b57, 0, none⟩) n n)), (11, E (I most')), (12, E (I k)), (14, E uv)] ∧ Ext W w ∧ Blk w b2 #[u1, u2] 25 ∧ Blk w b57 (bC n gone') 4 ∧ MatR 90 4 N n n rb M b23 w ∧ OwR intE 3 N Go.Mono.G0 w (natL nr) uv) ?_ (fun a w hJ => ?_)
        · repeat refine seq ?_
          refine ifc hf rfl (fun hb => ?_) (fun hb => ?_)
          · have hb' : most < (nr.length : Nat) := of_decide_eq_true hb
            rw [if_pos hb'] at hmost
            repeat refine seq ?_
            refine regn 2 hf (by decide +kernel) ?_
            refine st (mv rfl) ?_
            refine st ((lenD Tryz.underlying30 (isE rfl Ho.sl)).eq (congrArg I (show (((natL nr).length : Nat) : Int) = most' by rw [hmost, hLn]))) ?_
            refine en fun a w e' hf => ?_
            replace HM := HM.ext e'
            replace e := Ext.tr e e'
            replace B2 := B2.ext e'
            replace B57 := B57.ext e'
            replace Ho := Ho.ext e'
            clear e'
            refine tl_as hf rfl (by decide) fun a hf => ?_
            refine tl_nil ?_
            replace hf := hf.keep [1, 2, 6, 7, 10, 11, 12, 14]
            dsimp only [keep, List.filterMap, look, Nat.beq, Option.map] at hf
            exact ⟨rfl, hf, e, B2, B57, HM, Ho⟩
          · have hb' : ¬ most < (nr.length : Nat) := of_decide_eq_false hb
            rw [if_neg hb'] at hmost
            refine wskip ?_
            rw [← hmost] at hf
            replace hf := hf.keep [1, 2, 6, 7, 10, 11, 12, 14]
            dsimp only [keep, List.filterMap, look, Nat.beq, Option.map] at hf
            exact ⟨rfl, hf, e, B2, B57, HM, Ho⟩
        clear hf e B2 B57 HM Ho
        obtain ⟨hf, e, B2, B57, HM, Ho⟩ := hJ
        try simp only [Exit.then]
        clear hmost
        repeat refine seq ?_
        refine regn0 ?_
        refine tl_as hf rfl (by decide) fun a hf => ?_
        refine tl_nil ?_
        replace hf := hf.keep [1, 2, 6, 7, 10, 11, 12, 14, 16]
        dsimp only [keep, List.filterMap, look, Nat.beq, Option.map] at hf
        repeat refine seq ?_
        refine blk (loopN (fun r0 a w => ∃ (i : Nat) , r0 = nr.length - i ∧ i ≤ nr.length ∧ Fr 130 a w [(1, E u), (2, E (ptr b2)), (6, E (I (n : Nat))), (7, E (.slice (some ⟨b23, 0, none⟩) n n)), (10, E (.slice (some ⟨b57, 0, none⟩) n n)), (11, E (I most')), (12, E (I k)), (14, E uv), (16, E (I i))] ∧ Ext W w ∧ Blk w b2 #[u1, u2] 25 ∧ Blk w b57 (bC n gone') 4 ∧ MatR 90 4 N n n rb ((nr.take i).foldl (fillA nr) M) b23 w ∧ OwR intE 3 N Go.Mono.G0 w (natL nr) uv) nr.length ⟨0, rfl, by omega, hf, e, ⟨B2, B57, HM, Ho⟩⟩ ?_)
        clear hf e; try clear B2; try clear B57; try clear HM; try clear Ho
        rintro r0 a w ⟨i, rfl, hi, hf, e, B2, B57, HM, Ho⟩
        repeat refine seq ?_
        refine regn 4 hf (by decide +kernel) ?_
        refine st (mv rfl) ?_
        refine st (mv rfl) ?_
        refine st ((lenD Tryz.underlying30 (isE rfl Ho.sl)).eq (congrArg I hLi)) ?_
        refine st (lss rfl rfl) ?_
        refine en fun a w e' hf => ?_
        replace HM := HM.ext e'
        replace e := Ext.tr e e'
        replace B2 := B2.ext e'
        replace B57 := B57.ext e'
        replace Ho := Ho.ext e'
        clear e'
        refine tl_nil ?_
        repeat refine seq ?_
        refine ifc hf rfl (fun hc => wskip ?_) (fun hc => wexit ?_)
        rotate_left
        rotate_left
        · have hlti : i < nr.length := by have := of_decide_eq_true hc; (try dsimp only at this); omega
          clear hc
          replace hf := hf.keep [1, 2, 6, 7, 10, 11, 12, 14, 16]
          dsimp only [keep, List.filterMap, look, Nat.beq, Option.map] at hf
          repeat refine seq ?_
          refine blk ?_
          have hai := List.getElem?_eq_getElem hlti
          generalize nr[i] = a0 at hai
          have ha0 := hlt' a0 (List.mem_of_getElem? hai)
          have haI : (natL nr)[i]? = some (a0 : Int) := by rw [natL, List.getElem?_map, hai]; rfl
          have hsI : (nr.take (i + 1)).foldl (fillA nr) M = fillA nr ((nr.take i).foldl (fillA nr) M) a0 := by rw [take_succ_get hai, List.foldl_append]; rfl
          obtain ⟨Mi, hMi⟩ : ∃ Mi, Mi = (nr.take i).foldl (fillA nr) M := ⟨_, rfl⟩
          rw [← hMi] at HM hsI
          repeat refine seq ?_
          refine regn0 ?_
          refine tl_as hf rfl (by decide) fun a hf => ?_
          refine tl_nil ?_
          replace hf := hf.keep [1, 2, 6, 7, 10, 11, 12, 14, 16, 17]
          dsimp only [keep, List.filterMap, look, Nat.beq, Option.map] at hf
          repeat refine seq ?_
          refine blk (loopN (fun r0 a w => ∃ (j : Nat) , r0 = nr.length - j ∧ j ≤ nr.length ∧ Fr 130 a w [(1, E u), (2, E (ptr b2)), (6, E (I (n : Nat))), (7, E (.slice (some ⟨b23, 0, none⟩) n n)), (10, E (.slice (some ⟨b57, 0, none⟩) n n)), (11, E (I most')), (12, E (I k)), (14, E uv), (16, E (I i)), (17, E (I j))] ∧ Ext W w ∧ Blk w b2 #[u1, u2] 25 ∧ Blk w b57 (bC n gone') 4 ∧ MatR 90 4 N n n rb ((nr.take j).foldl (fillB a0) Mi) b23 w ∧ OwR intE 3 N Go.Mono.G0 w (natL nr) uv) nr.length ⟨0, rfl, by omega, hf, e, ⟨B2, B57, HM, Ho⟩⟩ ?_)
          clear hf e; try clear B2; try clear B57; try clear HM; try clear Ho
          rintro r0 a w ⟨j, rfl, hj, hf, e, B2, B57, HM, Ho⟩
          repeat refine seq ?_
          refine regn 4 hf (by decide +kernel) ?_
          refine st (mv rfl) ?_
          refine st (mv rfl) ?_
          refine st ((lenD Tryz.underlying30 (isE rfl Ho.sl)).eq (congrArg I hLi)) ?_
          refine st (lss rfl rfl) ?_
          refine en fun a w e' hf => ?_
          replace HM := HM.ext e'
          replace e := Ext.tr e e'
          replace B2 := B2.ext e'
          replace B57 := B57.ext e'
          replace Ho := Ho.ext e'
          clear e'
          refine tl_nil ?_
          repeat refine seq ?_
          refine ifc hf rfl (fun hc => wskip ?_) (fun hc => wexit ?_)
          rotate_left
          rotate_left
          · have hltj : j < nr.length := by have := of_decide_eq_true hc; (try dsimp only at this); omega
            clear hc
            replace hf := hf.keep [1, 2, 6, 7, 10, 11, 12, 14, 16, 17]
            dsimp only [keep, List.filterMap, look, Nat.beq, Option.map] at hf
            repeat refine seq ?_
            refine blk ?_
            have hbj := List.getElem?_eq_getElem hltj
            generalize nr[j] = c0 at hbj
            have hc0 := hlt' c0 (List.mem_of_getElem? hbj)
            have hbI : (natL nr)[j]? = some (c0 : Int) := by rw [natL, List.getElem?_map, hbj]; rfl
            have hsJ : (nr.take (j + 1)).foldl (fillB a0) Mi = fillB a0 ((nr.take j).foldl (fillB a0) Mi) c0 := by rw [take_succ_get hbj, List.foldl_append]; rfl
            obtain ⟨Mj, hMj⟩ : ∃ Mj, Mj = (nr.take j).foldl (fillB a0) Mi := ⟨_, rfl⟩
            rw [← hMj] at HM hsJ
            have hij : a0 = c0 ↔ i = j := ⟨fun h => nodup_inj hnd hai (by rw [h]; exact hbj), fun h => by rw [h, hbj] at hai; exact (Option.some.inj hai).symm⟩
            repeat refine seq ?_
            refine regn 3 hf (by decide +kernel) ?_
            refine st (mv rfl) ?_
            refine st (mv rfl) ?_
            refine st (neq rfl rfl) ?_
            refine en fun a w e' hf => ?_
            replace HM := HM.ext e'
            replace e := Ext.tr e e'
            replace B2 := B2.ext e'
            replace B57 := B57.ext e'
            replace Ho := Ho.ext e'
            clear e'
            refine tl_nil ?_
            repeat refine seq ?_
            refine ifc hf rfl (fun hb => ?_) (fun hb => ?_)
            · have hne : a0 ≠ c0 := fun h => by have := hij.1 h; simp [this] at hb
              rw [fillB, if_pos hne] at hsJ
              replace hf := hf.keep [1, 2, 6, 7, 10, 11, 12, 14, 16, 17]
              dsimp only [keep, List.filterMap, look, Nat.beq, Option.map] at hf
              repeat refine seq ?_
              refine reg 12 Mix.mix hf (by decide +kernel) ?_
              refine st (mv rfl) ?_
              refine st (mv rfl) ?_
              refine st (mv rfl) ?_
              refine st (idxD Tryz.underlying30 S3 (isE rfl Ho.sl) rfl (by omega) (haI)) ?_
              refine st (ldI T3 (isR rfl)) ?_
              refine st (idxS Tryz.underlying89 S90 rfl rfl (by omega)) ?_
              refine st (ld1 (v := .slice (some ⟨rb a0, 0, none⟩) n n) T90 rfl HM.o (by rw [show 0 + ((a0 : Nat) : Int).toNat * 1 = a0 by omega]; exact oC_get ha0 (Nat.le_refl _))) ?_
              refine st (mv rfl) ?_
              refine st (mv rfl) ?_
              refine st (idxD Tryz.underlying30 S3 (isE rfl Ho.sl) rfl (by omega) (hbI)) ?_
              refine st (ldI T3 (isR rfl)) ?_
              refine st (idxS Tryz.underlying90 S4 rfl rfl (by omega)) ?_
              refine en fun a w e' hf => ?_
              replace HM := HM.ext e'
              replace e := Ext.tr e e'
              replace B2 := B2.ext e'
              replace B57 := B57.ext e'
              replace Ho := Ho.ext e'
              clear e'
              replace hf := hf.keep [1, 2, 6, 7, 10, 11, 12, 14, 16, 17, 128]
              dsimp only [keep, List.filterMap, look, Nat.beq, Option.map] at hf
              refine tl_st1 T4 hf rfl rfl rfl (HM.r a0 ha0) (by rw [bC_size]; omega) fun w hg hsz Br hf => ?_
              rw [show 0 + ((c0 : Nat) : Int).toNat * 1 = c0 by omega] at Br
              have zr := HM.lo.2 a0 ha0
              replace Ho := Ho.grE hg (Ho.neB (HM.r a0 ha0) (by decide))
              replace HM := HM.put ha0 hg Br
              replace e := e.gr hg (by omega); replace B2 := B2.gr hg (by omega); replace B57 := B57.gr hg (fun h => hgb a0 ha0 h.symm)
              clear hg Br zr
              refine tl_nil ?_
              try simp only [Exit.then, Exit.inBlock, ↓reduceIte]
              repeat refine seq ?_
              refine regn 2 hf (by decide +kernel) ?_
              refine st (mv rfl) ?_
              refine st ((add rfl rfl (by omega)).eq (congrArg (Value.int .i64) (show (j : Int) + 1 = ((j + 1 : Nat) : Int) from rfl))) ?_
              refine en fun a w e' hf => ?_
              replace HM := HM.ext e'
              replace e := Ext.tr e e'
              replace B2 := B2.ext e'
              replace B57 := B57.ext e'
              replace Ho := Ho.ext e'
              clear e'
              refine tl_as hf rfl (by decide) fun a hf => ?_
              refine tl_nil ?_
              replace hf := hf.keep [1, 2, 6, 7, 10, 11, 12, 14, 16, 17]
              dsimp only [keep, List.filterMap, look, Nat.beq, Option.map] at hf
              refine ⟨_, ?_, j + 1, rfl, by omega, hf, e, ?_⟩
              · omega
              rw [hsJ]
              exact ⟨B2, B57, HM, Ho⟩
            · have hne : ¬ a0 ≠ c0 := fun h => by
                have : ¬ i = j := fun h' => h (hij.2 h')
                simp at hb; omega
              rw [fillB, if_neg hne] at hsJ
              refine wskip ?_
              try simp only [Exit.then, Exit.inBlock, ↓reduceIte]
              try simp only [Exit.then, Exit.inBlock, ↓reduceIte]
              repeat refine seq ?_
              refine regn 2 hf (by decide +kernel) ?_
              refine st (mv rfl) ?_
              refine st ((add rfl rfl (by omega)).eq (congrArg (Value.int .i64) (show (j : Int) + 1 = ((j + 1 : Nat) : Int) from rfl))) ?_
              refine en fun a w e' hf => ?_
              replace HM := HM.ext e'
              replace e := Ext.tr e e'
              replace B2 := B2.ext e'
              replace B57 := B57.ext e'
              replace Ho := Ho.ext e'
              clear e'
              refine tl_as hf rfl (by decide) fun a hf => ?_
              refine tl_nil ?_
              replace hf := hf.keep [1, 2, 6, 7, 10, 11, 12, 14, 16, 17]
              dsimp only [keep, List.filterMap, look, Nat.beq, Option.map] at hf
              refine ⟨_, ?_, j + 1, rfl, by omega, hf, e, ?_⟩
              · omega
              rw [hsJ]
              exact ⟨B2, B57, HM, Ho⟩
          · obtain rfl : nr.length = j := by have := of_decide_eq_false hc; (try dsimp only at this); omega
            clear hc
            simp only [Exit.then, Exit.inBlock, ↓reduceIte]
            rw [List.take_length] at HM
            try simp only [Exit.then, Exit.inBlock, ↓reduceIte]
            repeat refine seq ?_
            refine regn 2 hf (by decide +kernel) ?_
            refine st (mv rfl) ?_
            refine st ((add rfl rfl (by omega)).eq (congrArg (Value.int .i64) (show (i : Int) + 1 = ((i + 1 : Nat) : Int) from rfl))) ?_
            refine en fun a w e' hf => ?_
            replace HM := HM.ext e'
            replace e := Ext.tr e e'
            replace B2 := B2.ext e'
            replace B57 := B57.ext e'
            replace Ho := Ho.ext e'
            clear e'
            refine tl_as hf rfl (by decide) fun a hf => ?_
            refine tl_nil ?_
            replace hf := hf.keep [1, 2, 6, 7, 10, 11, 12, 14, 16]
            dsimp only [keep, List.filterMap, look, Nat.beq, Option.map] at hf
            refine ⟨_, ?_, i + 1, rfl, by omega, hf, e, ?_⟩
            · omega
            rw [hsI]
            exact ⟨B2, B57, HM, Ho⟩
        · obtain rfl : nr.length = i := by have := of_decide_eq_false hc; (try dsimp only at this); omega
          clear hc
          simp only [Exit.then, Exit.inBlock, ↓reduceIte]
          rw [List.take_length] at HM
          replace hf := hf.keep [1, 2, 6, 7, 10, 11, 12]
          dsimp only [keep, List.filterMap, look, Nat.beq, Option.map] at hf
          clear Ho
          try simp only [Exit.then, Exit.inBlock, ↓reduceIte]
          repeat refine seq ?_
          refine regn 2 hf (by decide +kernel) ?_
          refine st (mv rfl) ?_
          refine st ((add rfl rfl (by omega)).eq (congrArg (Value.int .i64) (show (k : Int) + 1 = ((k + 1 : Nat) : Int) from rfl))) ?_
          refine en fun a w e' hf => ?_
          replace HM := HM.ext e'
          replace e := Ext.tr e e'
          replace B2 := B2.ext e'
          replace B57 := B57.ext e'
          clear e'
          refine tl_as hf rfl (by decide) fun a hf => ?_
          refine tl_nil ?_
          replace hf := hf.keep [1, 2, 6, 7, 10, 11, 12]
          dsimp only [keep, List.filterMap, look, Nat.beq, Option.map] at hf
          refine ⟨_, ?_, k + 1, (fillM nr M, gone', most'), rfl, by omega, hf, e, ?_⟩
          · omega
          exact ⟨B2, B57, HM, hstep⟩
    · obtain rfl : order.length = k := by have := of_decide_eq_false hc; (try dsimp only at this); omega
      clear hc
      simp only [Exit.then, Exit.inBlock, ↓reduceIte]
      rw [List.take_length] at hst
      replace hf := hf.keep [11]
      dsimp only [keep, List.filterMap, look, Nat.beq, Option.map] at hf
      repeat refine seq ?_
      refine regn 1 hf (by decide +kernel) ?_
      refine st (mv rfl) ?_
      refine en fun a w e' hf => ?_
      replace e := Ext.tr e e'
      clear e'
      refine tl_as hf rfl (by decide) fun a hf => ?_
      refine tl_nil ?_
      refine wret ?_
      try simp only [Exit.then, Exit.inBlock]
      refine ret1 rfl hf rfl ?_
      rintro _ rfl
      exact ⟨_, rfl, e, congrArg I (by rw [costG, csTo, ← hn, hst])⟩
end Go.Mono

namespace Go.Mono
open Go Go.Proofs Go.RowKit Go.Gr

/-- the vertex at a position -/
def idN (g : GT) (p : Nat) : Nat := (gi (idsG g) p).toNat
section
variable {g : GT}
theorem idN_at (G : Gr.Ok g) {p : Nat} (hp : p < g.1.length) : gi (idsG g) p = (idN g p : Int) ∧ (vset g.1).getLsbD (idN g p) = true := by
  have h1 : (idsG g)[p]? = some (gi (idsG g) p) := gi_get (by simp [idsG]; exact hp)
  have h2 := List.mem_of_getElem? h1
  rw [idsG] at h2
  obtain ⟨x, hx, hxe⟩ := List.mem_map.1 h2
  rw [← idsG] at hxe
  have h3 := idOk_r (G.rv x hx).1
  have h4 : gi (idsG g) p = (idN g p : Int) := by rw [idN]; omega
  exact ⟨h4, (mem_vset G).2 ⟨x, hx, by rw [hxe, h4]⟩⟩
theorem idN_inj (G : Gr.Ok g) {p q : Nat} (hp : p < g.1.length) (hq : q < g.1.length) (h : idN g p = idN g q) : p = q := by
  have hnd : (idsG g).Nodup := List.pairwise_map.2 (G.sv.imp fun h => by
    have := (lt1_asy h).2; exact this)
  have h1 : (idsG g)[p]? = some (gi (idsG g) p) := gi_get (by simp [idsG]; exact hp)
  have h2 : (idsG g)[q]? = some (gi (idsG g) q) := gi_get (by simp [idsG]; exact hq)
  rw [(idN_at G hp).1] at h1
  rw [(idN_at G hq).1, ← h] at h2
  exact nodup_inj hnd h1 h2
theorem fnd_at (G : Gr.Ok g) {v : Nat} (hv : (vset g.1).getLsbD v = true) : ∃ p : Nat, fndF g.1 (v : Int) = (p : Int) ∧ p < g.1.length ∧ idN g p = v := by
  obtain ⟨x, hx, hxe⟩ := (mem_vset G).1 hv
  cases hf : g.1.findIdx? (fun y => decide (y.1 = (v : Int))) with
  | none =>
    have := List.findIdx?_eq_none_iff.1 hf x hx
    simp [hxe] at this
  | some p =>
    obtain ⟨hp, h1, _⟩ := List.findIdx?_eq_some_iff_getElem.1 hf
    refine ⟨p, by rw [fndF, hf], hp, ?_⟩
    have h2 : g.1[p].1 = (v : Int) := of_decide_eq_true h1
    have h3 : (idsG g)[p]? = some (v : Int) := by rw [idsG, List.getElem?_map, List.getElem?_eq_getElem hp, ← h2]; rfl
    have h4 : (idsG g)[p]? = some (gi (idsG g) p) := gi_get (by simp [idsG]; exact hp)
    rw [h3] at h4
    have := Option.some.inj h4
    rw [idN, ← this]; rfl
theorem edg_at (G : Gr.Ok g) (i j : Nat) : 0 ≤ edgF g.2 (i : Int) (j : Int) ↔ Adj g i j := by
  unfold edgF
  cases hf : g.2.findIdx? (fun y => isEd y (i : Int) (j : Int)) with
  | none =>
    refine ⟨fun h => by simp at h, fun ⟨x, hx, h⟩ => ?_⟩
    have h1 := List.findIdx?_eq_none_iff.1 hf x hx
    rw [isEd] at h1
    rcases h with h | h <;> rw [h] at h1 <;> simp at h1
  | some p =>
    obtain ⟨hp, h1, _⟩ := List.findIdx?_eq_some_iff_getElem.1 hf
    refine ⟨fun _ => ⟨g.2[p], List.getElem_mem hp, ?_⟩, fun _ => by simp⟩
    rw [isEd, Bool.or_eq_true, Bool.and_eq_true, Bool.and_eq_true, beq_iff_eq, beq_iff_eq, beq_iff_eq, beq_iff_eq] at h1
    rcases h1 with ⟨h1, h2⟩ | ⟨h1, h2⟩
    · exact .inl (Prod.ext h1 h2)
    · exact .inr (Prod.ext h1 h2)
theorem fillB_at (a : Nat) (M : Mx) (b i j : Nat) : fillB a M b i j = (M i j || (decide (i = a) && decide (j = b) && decide (a ≠ b))) := by
  unfold fillB
  by_cases h : a ≠ b
  · rw [if_pos h, upM]
    by_cases h2 : i = a ∧ j = b
    · rw [if_pos h2]; simp [h2.1, h2.2, h]
    · rw [if_neg h2]
      have : (decide (i = a) && decide (j = b)) = false := by
        rw [Bool.and_eq_false_iff, decide_eq_false_iff_not, decide_eq_false_iff_not]
        exact Classical.not_and_iff_not_or_not.1 h2
      rw [this]; simp
  · rw [if_neg h]; simp [h]
theorem fillA_at (a : Nat) (i j : Nat) : ∀ (nr : List Nat) (M : Mx), nr.foldl (fillB a) M i j = true ↔ M i j = true ∨ (i = a ∧ j ∈ nr ∧ a ≠ j) := by
  intro nr
  induction nr with
  | nil => intro M; simp
  | cons b nr ih =>
    intro M
    rw [List.foldl_cons, ih, fillB_at, Bool.or_eq_true, Bool.and_eq_true, Bool.and_eq_true, decide_eq_true_eq, decide_eq_true_eq, decide_eq_true_eq, List.mem_cons]
    constructor
    · rintro ((h | ⟨⟨h1, h2⟩, h3⟩) | ⟨h1, h2, h3⟩)
      · exact .inl h
      · exact .inr ⟨h1, .inl h2, by rw [h2]; exact h3⟩
      · exact .inr ⟨h1, .inr h2, h3⟩
    · rintro (h | ⟨h1, h2 | h2, h3⟩)
      · exact .inl (.inl h)
      · exact .inl (.inr ⟨⟨h1, h2⟩, by rw [← h2]; exact h3⟩)
      · exact .inr ⟨h1, h2, h3⟩
theorem fillM_at (mr : List Nat) (i j : Nat) : ∀ (nr : List Nat) (M : Mx), nr.foldl (fillA mr) M i j = true ↔ M i j = true ∨ (i ∈ nr ∧ j ∈ mr ∧ i ≠ j) := by
  intro nr
  induction nr with
  | nil => intro M; simp
  | cons b nr ih =>
    intro M
    rw [List.foldl_cons, ih, fillA, fillA_at, List.mem_cons]
    constructor
    · rintro ((h | ⟨h1, h2, h3⟩) | ⟨h1, h2, h3⟩)
      · exact .inl h
      · exact .inr ⟨.inl h1, h2, by rw [h1]; exact h3⟩
      · exact .inr ⟨.inr h1, h2, h3⟩
    · rintro (h | ⟨h1 | h1, h2, h3⟩)
      · exact .inl (.inl h)
      · exact .inl (.inr ⟨h1, h2, by rw [← h1]; exact h3⟩)
      · exact .inr ⟨h1, h2, h3⟩
/-- what the square says when the vertices of S are gone -/
structure CsI (g : GT) (S : BS) (s : Mx × (Nat → Bool) × Int) : Prop where
  go : ∀ p, p < g.1.length → (s.2.1 p = true ↔ S.getLsbD (idN g p) = true)
  mx : ∀ p q, p < g.1.length → q < g.1.length → p ≠ q → ¬S.getLsbD (idN g p) = true → ¬S.getLsbD (idN g q) = true → (s.1 p q = true ↔ Via (nbA g) S (idN g p) (idN g q))
theorem nb_symm (G : Gr.Ok g) : ∀ i j : Nat, (nbA g (i : Int)).getLsbD j = true → (nbA g (j : Int)).getLsbD i = true := fun i j h => (nbA_bit G).2 ((nbA_bit G).1 h).symm
theorem csI_0 (G : Gr.Ok g) : CsI g 0 (M0 g, fun _ => false, -1) := by
  refine ⟨fun p hp => ⟨fun h => (nomatch h), fun h => absurd h (bit_zero _)⟩, fun p q hp hq hne _ _ => ?_⟩
  show decide (0 ≤ edgF g.2 (gi (idsG g) p) (gi (idsG g) q)) = true ↔ _
  rw [decide_eq_true_eq, (idN_at G hp).1, (idN_at G hq).1, edg_at G, ← nbA_bit G]
  refine ⟨.one, fun h => ?_⟩
  cases h with
  | one h => exact h
  | step _ ht _ => exact absurd ht (bit_zero _)
theorem csI_step (G : Gr.Ok g) {S : BS} {s : Mx × (Nat → Bool) × Int} (h : CsI g S s) {p : Nat} (hp : p < g.1.length) (hS : ¬S.getLsbD (idN g p) = true) :
    CsI g (ins S (idN g p : Int)) (csS g.1.length s p) ∧ (csS g.1.length s p).2.2 = max s.2.2 (rn (nbA g) S (idN g p)) := by
  obtain ⟨M, gone, most⟩ := s
  have hv := (idN_at G hp).2
  have hv' := bit_lt hv
  obtain ⟨go, hgo⟩ : ∃ go : Nat → Bool, go = fun i => if i = p then true else gone i := ⟨_, rfl⟩
  obtain ⟨nr, hnr⟩ : ∃ nr, nr = nrTo M go p g.1.length := ⟨_, rfl⟩
  have e : csS g.1.length (M, gone, most) p = (fillM nr M, go, if most < ((nr.length : Nat) : Int) then ((nr.length : Nat) : Int) else most) := by rw [hnr, hgo]; rfl
  have hgoi : ∀ q, q < g.1.length → (go q = true ↔ (ins S (idN g p : Int)).getLsbD (idN g q) = true) := fun q hq => by
    rw [hgo, bit_ins S hv']
    by_cases hqp : q = p
    · simp [hqp]
    · have h1 : idN g q ≠ idN g p := fun h => hqp (idN_inj G hq hp h)
      simp only [if_neg hqp]
      rw [h.go q hq]
      exact ⟨.inl, fun h => h.elim id fun h => absurd h h1⟩
  have hmem : ∀ q, q ∈ nr ↔ q < g.1.length ∧ q ≠ p ∧ ¬S.getLsbD (idN g q) = true ∧ Via (nbA g) S (idN g p) (idN g q) := fun q => by
    rw [hnr, nrTo, List.mem_filter, List.mem_range, Bool.and_eq_true, Bool.not_eq_true']
    constructor
    · rintro ⟨hq, h1, h2⟩
      have h3 : ¬(ins S (idN g p : Int)).getLsbD (idN g q) = true := fun hh => by rw [(hgoi q hq).2 hh] at h2; cases h2
      rw [bit_ins S hv'] at h3
      have hqp : q ≠ p := fun hh => h3 (.inr (by rw [hh]))
      have h4 : ¬S.getLsbD (idN g q) = true := fun hh => h3 (.inl hh)
      exact ⟨hq, hqp, h4, (h.mx p q hp hq (Ne.symm hqp) hS h4).1 h1⟩
    · rintro ⟨hq, hqp, h4, h5⟩
      refine ⟨hq, (h.mx p q hp hq (Ne.symm hqp) hS h4).2 h5, ?_⟩
      cases hg : go q with
      | false => rfl
      | true =>
        have := (hgoi q hq).1 hg
        rw [bit_ins S hv'] at this
        exact this.elim (fun hh => absurd hh h4) fun hh => absurd (idN_inj G hq hp hh) hqp
  have hlen : ((nr.length : Nat) : Int) = rn (nbA g) S (idN g p) := by
    have hperm : (nr.map (idN g)).Perm (elems (reB (nbA g) S (idN g p : Int))) := by
      have hn1 : (nr.map (idN g)).Nodup := by
        have hnd : nr.Nodup := by rw [hnr]; exact nrTo_nodup _ _ _ _
        refine List.pairwise_map.2 (List.Pairwise.imp_of_mem (fun {a b} ha hb hab hh => hab (idN_inj G ((hmem a).1 ha).1 ((hmem b).1 hb).1 hh)) hnd)
      have hn2 : (elems (reB (nbA g) S (idN g p : Int))).Nodup := List.Nodup.sublist List.filter_sublist List.nodup_range
      refine (List.perm_ext_iff_of_nodup hn1 hn2).2 fun u => ?_
      rw [List.mem_map, mem_elems, reB_bit hv']
      constructor
      · rintro ⟨q, hq, rfl⟩
        obtain ⟨k1, k2, k3, k4⟩ := (hmem q).1 hq
        exact ⟨bit_lt (idN_at G k1).2, k4, k3, fun hh => k2 (idN_inj G k1 hp hh)⟩
      · rintro ⟨_, k1, k2, k3⟩
        have hu := k1.inn (V := vset g.1) fun i j hh => (((nbA_bit G).1 hh).inn G).2.1
        obtain ⟨q, _, hq, rfl⟩ := fnd_at G hu
        exact ⟨q, (hmem q).2 ⟨hq, fun hh => k3 (by rw [hh]), k2, k1⟩, rfl⟩
    have := hperm.length_eq
    rw [List.length_map, card_elems] at this
    rw [rn, this]
  rw [e]
  refine ⟨⟨fun q hq => hgoi q hq, fun a b ha hb hab h1 h2 => ?_⟩, ?_⟩
  · rw [bit_ins S hv'] at h1 h2
    have a1 : ¬S.getLsbD (idN g a) = true := fun hh => h1 (.inl hh)
    have b1 : ¬S.getLsbD (idN g b) = true := fun hh => h2 (.inl hh)
    have a2 : a ≠ p := fun hh => h1 (.inr (by rw [hh]))
    have b2 : b ≠ p := fun hh => h2 (.inr (by rw [hh]))
    show fillM nr M a b = true ↔ _
    rw [fillM, fillM_at, h.mx a b ha hb hab a1 b1, hmem, hmem, Via.ins hv']
    constructor
    · rintro (k | ⟨⟨_, _, _, k1⟩, ⟨_, _, _, k2⟩, _⟩)
      · exact .inl k
      · exact .inr ⟨k1.symm (nb_symm G), k2⟩
    · rintro (k | ⟨k1, k2⟩)
      · exact .inl k
      · exact .inr ⟨⟨ha, a2, a1, k1.symm (nb_symm G)⟩, ⟨hb, b2, b1, k2⟩, hab⟩
  · show (if most < ((nr.length : Nat) : Int) then ((nr.length : Nat) : Int) else most) = _
    rw [hlen]
    split <;> (dsimp only; omega)
theorem cs_widL (G : Gr.Ok g) : ∀ (l : List Nat) (S : BS) (s : Mx × (Nat → Bool) × Int), CsI g S s → -1 ≤ s.2.2 → l.Nodup → (∀ v ∈ l, (vset g.1).getLsbD v = true ∧ ¬S.getLsbD v = true) →
    ((natL l).foldl (fun s x => csS g.1.length s (fndF g.1 x).toNat) s).2.2 = max s.2.2 (widL (nbA g) S l)
  | [], S, s, _, h0, _, _ => by
    show s.2.2 = max s.2.2 (-1)
    omega
  | v :: l, S, s, h, h0, hnd, hl => by
    obtain ⟨p, hp1, hp2, hp3⟩ := fnd_at G (hl v (by simp)).1
    obtain ⟨n1, n2⟩ := List.nodup_cons.1 hnd
    have hS := (hl v (by simp)).2
    have hv' := bit_lt (hl v (by simp)).1
    obtain ⟨k1, k2⟩ := csI_step G h hp2 (by rw [hp3]; exact hS)
    rw [hp3] at k1 k2
    have ih := cs_widL G l (ins S (v : Int)) (csS g.1.length s p) k1 (by rw [k2]; omega) n2 fun u hu => ⟨(hl u (by simp [hu])).1, fun hh => by
      rw [bit_ins S hv'] at hh
      exact hh.elim (hl u (by simp [hu])).2 fun hh => n1 (by rw [← hh]; exact hu)⟩
    have e1 : (natL (v :: l)).foldl (fun s x => csS g.1.length s (fndF g.1 x).toNat) s = (natL l).foldl (fun s x => csS g.1.length s (fndF g.1 x).toNat) (csS g.1.length s p) := by
      rw [natL, List.map_cons, List.foldl_cons, hp1, Int.toNat_natCast]; rfl
    rw [e1, ih, k2, widL]
    omega
theorem widL_ge (nb : Int → BS) : ∀ (l : List Nat) (S : BS), -1 ≤ widL nb S l
  | [], S => Int.le_refl _
  | v :: l, S => by have := widL_ge nb l (ins S (v : Int)); rw [widL]; omega
/-- COST IS THE WIDTH OF THE ORDER -/
theorem cost_widL (G : Gr.Ok g) {l : List Nat} (hnd : l.Nodup) (hl : ∀ v ∈ l, (vset g.1).getLsbD v = true) : costG g (natL l) = widL (nbA g) 0 l := by
  have h := cs_widL G l 0 (M0 g, fun _ => false, -1) (csI_0 G) (Int.le_refl _) hnd fun v hv => ⟨hl v hv, bit_zero v⟩
  have h2 := widL_ge (nbA g) l 0
  rw [costG, csTo, h]
  dsimp only
  omega
end
end Go.Mono

namespace Go.Mono
open Go Go.RowKit
/-- a slice of numbers without room, in a block from N on -/
def FuA (te : TypeId) (N : Nat) (xs : List Int) : VA := ⟨fun v w => ∃ b, N ≤ b ∧ v = .slice (some ⟨b, 0, none⟩) xs.length xs.length ∧ Blk w b (xs.map (Value.int .i64)).toArray te, fun v w w' e ⟨b, h1, h2, h3⟩ => ⟨b, h1, h2, h3.ext e⟩⟩
theorem int_cells_all {G : Nat → Prop} {w : World} : ∀ l : List Int, Cells intE G w l (l.map (Value.int .i64))
  | [] => rfl
  | d :: l => ⟨[.int .i64 d], l.map (Value.int .i64), rfl, rfl, int_cells_all l⟩
section
variable {P : Program} {w0 : World} {L : Env} {dst : Option Tmp} {ty : TypeId} {pos : String} {aft : Array Edge} {g : Option (Nat × Bool)} {t te : TypeId} {N : Nat}
theorem bslF1 {x : Operand} {z : Int} {bz : Nat} {z0 : Value} (ht : P.underlying t = some (.slice te)) (hi : (P.info? te).map (fun i => (i.zero, i.size, i.bytes)) = some (some z0, 1, bz)) (hz0 : z0.cells.size = 1)
    (hx : opd L x = some (E (.int .i64 z))) (hN : N ≤ w0.heap.size) : OpC P w0 L ⟨dst, .buildSlice t 1 #[(0, x)], ty, pos, aft, g⟩ (FuA te N [z]) := by
  refine ⟨fun ρ w he hv => ?_⟩
  have hxv := opE hv (x := x) (by simp [Op.operands]) hx
  obtain ⟨it, hit, hiz, hsz, _⟩ := info_parts hi
  have hfl := fill_seq (k := 1) [Value.int .i64 z] [[Value.int .i64 z]] 0 [] ((Array.range (1 * 1)).map (z0.cells[· % z0.cells.size]!)) rfl (by simp) (by simp) (by simp) (by simp)
  have hr := run_buildSlice (P := P) w t te 1 #[(0, .int .i64 z)] #[.int .i64 z] it z0 ht hit hiz (by rw [hsz]; omega) (by rw [hsz]; omega) (by rw [hsz]; exact hfl)
  have hrun : (execOp ρ ⟨dst, .buildSlice t 1 #[(0, x)], ty, pos, aft, g⟩).run P w = .ok (.value (.slice (some ⟨w.heap.size, 0, none⟩) 1 1)) (w.alloc (.cells #[.int .i64 z] te)) := by
    simp only [execOp, Sem.run_bind, List.map_toArray, List.map_cons, List.map_nil, hxv, hr, Result.andThen_ok, Sem.run_pure]
  simp only [OpR, hrun]
  exact ⟨ext_alloc _ _, w.heap.size, Nat.le_trans hN he.size, rfl, blk_alloc w _ _⟩
end
end Go.Mono

namespace Go.Mono
open Go Go.Proofs Go.RowKit Go.Gr

end Go.Mono

namespace Go.Mono
open Go Go.Proofs Go.RowKit Go.Gr

end Go.Mono

namespace Go.Mono
open Go Go.RowKit
theorem run_equalIn_pp {P : Program} (w : World) (d : Nat) (t : TypeId) (p q : Option Addr) (h : P.underlying t = some (.pointer (P.pointee t))) (hpq : p = none ∨ q = none) : (Op.equalIn (d + 1) t (.pointer p) (.pointer q)).run P w = .ok (p.isNone && q.isNone) w := by
  rcases hpq with rfl | rfl
  · cases q <;> simp [Op.equalIn, run_underlying h]
  · cases p <;> simp [Op.equalIn, run_underlying h]
theorem run_equal_pp {P : Program} (w : World) (t : TypeId) (p q : Option Addr) (h : P.underlying t = some (.pointer (P.pointee t))) (hpq : p = none ∨ q = none) : (Op.equal t (.pointer p) (.pointer q)).run P w = .ok (p.isNone && q.isNone) w := run_equalIn_pp w 9999 t p q h hpq
theorem eqlPP {P : Program} {w0 : World} {L : Env} {dst : Option Tmp} {ty : TypeId} {pos : String} {aft : Array Edge} {g : Option (Nat × Bool)} {x y : Operand} {t yt pe : TypeId} {p q : Option Addr} (ht0 : P.underlying t = some (.pointer pe)) (hx : opd L x = some (E (.pointer p))) (hy : opd L y = some (E (.pointer q))) (hpq : p = none ∨ q = none) :
    OpC P w0 L ⟨dst, .binOp .eql t x y yt, ty, pos, aft, g⟩ (E (.bool (p.isNone && q.isNone))) :=
  opc_eql hx hy (fun w => rfl) rfl fun w _ => run_equal_pp w t p q (ptee ht0) hpq
end Go.Mono

namespace Go.Mono
open Go Go.Proofs Go.RowKit Go.Gr
section
variable {g : GT}
theorem natL_in (G : Gr.Ok g) {l : List Nat} (hm : ∀ i ∈ l, (vset g.1).getLsbD i = true) : ∀ x ∈ natL l, 0 ≤ fndF g.1 x ∧ fndF g.1 x < (g.1.length : Nat) := fun x hx => by
  obtain ⟨v, hv, rfl⟩ := List.mem_map.1 hx
  obtain ⟨p, h1, h2, _⟩ := fnd_at G (hm v hv)
  rw [h1]; omega
end
end Go.Mono

namespace Go.Mono
open Go Go.Proofs Go.RowKit Go.Gr

section
variable {nb : Int → BS} {all : BS} {W : Int}
end
end Go.Mono

namespace Go.Mono
open Go Go.Proofs Go.RowKit Go.Gr

theorem neNew {x y : Value} {N : Nat} (h : ∀ b, x.ownBlock = some b → b < N) (hy : y.ownBlock = some N) : ∀ b, y.ownBlock = some b → x.ownBlock ≠ some b := fun b hb hx => by
  have := h b hx
  rw [hy] at hb; cases hb; omega
theorem in_spec {G : Nat → Prop} (xs : List Int) (n : Int) (v : Value) (W : World) (h : (Dv (slE intE) G xs).p v W) (hl : xs.length ≤ 100000) :
    Calls Tryz.prog 45 #[v, I n] W (Post (E (B (decide (n ∈ xs)))) W) := by
  refine enter (args := [v, I n]) (As := [Dv (slE intE) G0 xs, E (I n)]) Tryz.func45 rfl Tryz.ntmps45 (Nat.le_of_ble_eq_true rfl) ?_ (fun a hf => ?_) (Nat.le_of_ble_eq_true rfl)
  rotate_left
  dsimp only [params, Nat.reduceAdd] at hf
  rotate_right
  · exact arg2 (Dv.weak h fun b _ hb => hb.elim) rfl
  have e := Ext.rfl' W
  repeat refine seq ?_
  refine regn0 ?_
  refine tl_as hf rfl (by decide) fun a hf => ?_
  refine tl_nil ?_
  repeat refine seq ?_
  refine regn0 ?_
  refine tl_as hf rfl (by decide) fun a hf => ?_
  refine tl_nil ?_
  replace hf := hf.keep [0, 1, 5]
  dsimp only [keep, List.filterMap, look, Nat.beq, Option.map] at hf
  repeat refine seq ?_
  refine blk (loopN (fun r0 a w => ∃ (k : Nat) , r0 = xs.length - k ∧ k ≤ xs.length ∧ Fr 18 a w [(0, Dv (slE intE) G0 xs), (1, E (I n)), (5, E (I k))] ∧ Ext W w ∧ (∀ y ∈ xs.take k, y ≠ n)) xs.length ⟨0, rfl, by omega, hf, e, (by simp)⟩ ?_)
  clear hf e; try clear hn
  rintro r0 a w ⟨k, rfl, hk, hf, e, hn⟩
  repeat refine seq ?_
  refine regn 4 hf (by decide +kernel) ?_
  refine st (mv rfl) ?_
  refine st (mv rfl) ?_
  refine st (lenD Tryz.underlying30 (isR rfl)) ?_
  refine st (lss rfl rfl) ?_
  refine en fun a w e' hf => ?_
  replace e := Ext.tr e e'
  clear e'
  refine tl_nil ?_
  repeat refine seq ?_
  refine ifc hf rfl (fun hc => wskip ?_) (fun hc => wexit ?_)
  rotate_left
  rotate_left
  · have hlt : k < xs.length := by have := of_decide_eq_true hc; (try dsimp only at this); omega
    clear hc
    replace hf := hf.keep [0, 1, 5]
    dsimp only [keep, List.filterMap, look, Nat.beq, Option.map] at hf
    repeat refine seq ?_
    refine blk ?_
    have hx := gi_get hlt
    repeat refine seq ?_
    refine regn 6 hf (by decide +kernel) ?_
    refine st (mv rfl) ?_
    refine st (mv rfl) ?_
    refine st (idxD Tryz.underlying30 S3 (isR rfl) rfl (by omega) (hx)) ?_
    refine st (ldI T3 (isR rfl)) ?_
    refine st (mv rfl) ?_
    refine st (eql rfl rfl) ?_
    refine en fun a w e' hf => ?_
    replace e := Ext.tr e e'
    clear e'
    refine tl_nil ?_
    repeat refine seq ?_
    refine ifc hf rfl (fun hb => ?_) (fun hb => ?_)
    · have hm : n ∈ xs := by
        have := List.mem_of_getElem? hx
        rwa [show gi xs k = n by simpa using hb] at this
      repeat refine seq ?_
      refine regn0 ?_
      refine tl_as hf rfl (by decide) fun a hf => ?_
      refine tl_nil ?_
      refine wret ?_
      try simp only [Exit.then, Exit.inBlock]
      refine ret1 rfl hf rfl ?_
      rintro _ rfl
      exact ⟨_, rfl, e, congrArg B (decide_eq_true hm).symm⟩
    · refine wskip ?_
      try simp only [Exit.then, Exit.inBlock, ↓reduceIte]
      try simp only [Exit.then, Exit.inBlock, ↓reduceIte]
      repeat refine seq ?_
      refine regn 2 hf (by decide +kernel) ?_
      refine st (mv rfl) ?_
      refine st ((add rfl rfl (by omega)).eq (congrArg (Value.int .i64) (show (k : Int) + 1 = ((k + 1 : Nat) : Int) from rfl))) ?_
      refine en fun a w e' hf => ?_
      replace e := Ext.tr e e'
      clear e'
      refine tl_as hf rfl (by decide) fun a hf => ?_
      refine tl_nil ?_
      replace hf := hf.keep [0, 1, 5]
      dsimp only [keep, List.filterMap, look, Nat.beq, Option.map] at hf
      refine ⟨_, ?_, k + 1, rfl, by omega, hf, e, ?_⟩
      · omega
      intro y hy
      rw [take_succ_get hx] at hy
      rcases List.mem_append.1 hy with h | h
      · exact hn y h
      · rw [List.mem_singleton.1 h]; simpa using hb
  · obtain rfl : k = xs.length := by have := of_decide_eq_false hc; (try dsimp only at this); omega
    clear hc
    simp only [Exit.then, Exit.inBlock, ↓reduceIte]
    have hm : n ∉ xs := fun h => hn n (by rw [List.take_length]; exact h) rfl
    repeat refine seq ?_
    refine regn0 ?_
    refine tl_as hf rfl (by decide) fun a hf => ?_
    refine tl_nil ?_
    refine wret ?_
    try simp only [Exit.then, Exit.inBlock]
    refine ret1 rfl hf rfl ?_
    rintro _ rfl
    exact ⟨_, rfl, e, congrArg B (decide_eq_false hm).symm⟩
def nearTo (g : GT) (n : Int) (k : Nat) : List Int := ((idsG g).take k).filter fun x => decide (0 ≤ edgF g.2 x n)
def nearG (g : GT) (n : Int) : List Int := (idsG g).filter fun x => decide (0 ≤ edgF g.2 x n)
def onP (g : GT) (n : Int) (j : Nat) : Bool := match g.2[j]? with
  | some y => y.1.1 == n || y.1.2 == n
  | none => false
def onTo (g : GT) (n : Int) (k : Nat) : List Int := ((List.range k).filter (onP g n)).map fun j : Nat => (j : Int)
theorem nearTo_succ {g : GT} {k : Nat} {x : Int} (n : Int) (h : (idsG g)[k]? = some x) : nearTo g n (k + 1) = nearTo g n k ++ if decide (0 ≤ edgF g.2 x n) = true then [x] else [] := by
  rw [nearTo, take_succ_get h, List.filter_append, nearTo, List.filter_cons, List.filter_nil]
theorem onTo_succ {g : GT} {k : Nat} {y : ET} (n : Int) (h : g.2[k]? = some y) : onTo g n (k + 1) = onTo g n k ++ if (y.1.1 == n || y.1.2 == n) = true then [(k : Int)] else [] := by
  rw [onTo, List.range_succ, List.filter_append, List.map_append, ← onTo, List.filter_cons, List.filter_nil, show onP g n k = (y.1.1 == n || y.1.2 == n) by rw [onP, h]]
  split <;> rfl
theorem nearTo_len (g : GT) (n : Int) (k : Nat) : (nearTo g n k).length ≤ k := Nat.le_trans (List.length_filter_le _ _) (List.length_take_le _ _)
theorem onTo_len (g : GT) (n : Int) (k : Nat) : (onTo g n k).length ≤ k := by
  rw [onTo, List.length_map]
  have := List.length_filter_le (onP g n) (List.range k)
  rwa [List.length_range] at this
theorem near05_spec {G : Nat → Prop} (g : GT) (n : Int) (v : Value) (W : World) (h : (Dv gtE G g).p v W) (hl : g.1.length ≤ 100000) (hl2 : g.2.length ≤ 100000) {M : Nat} (hM : M ≤ W.heap.size) :
    Calls Tryz.prog 46 #[v, I n] W (Post (Tup [OwA intE 3 M Go.Mono.G0 (nearG g n), Dv (slE intE) Go.Mono.G0 (onTo g n g.2.length)]) W) := by
  obtain ⟨p1, p2, rfl, h1, h2⟩ := Dv.gt.1 (Dv.weak (G' := Go.Mono.G0) h fun b _ hb => hb.elim)
  have hg0 : (Dv gtE Go.Mono.G0 g).p (.agg #[p1, p2]) W := Dv.gt.2 ⟨_, _, rfl, h1, h2⟩
  have h1b := Dv.toB h1
  have h2b := Dv.toB h2
  have hG : ∀ b, Go.Mono.G0 b → b < W.heap.size := fun b hb => hb.elim
  refine enter (args := [.agg #[p1, p2], I n]) (As := [E (.agg #[p1, p2]), E (I n)]) Tryz.func46 rfl Tryz.ntmps46 (Nat.le_of_ble_eq_true rfl) ?_ (fun a hf => ?_) (Nat.le_of_ble_eq_true rfl)
  rotate_left
  dsimp only [params, Nat.reduceAdd] at hf
  rotate_right
  · exact arg2 rfl rfl
  have e := Ext.rfl' W
  repeat refine seq ?_
  refine regn0 ?_
  refine tl_box hf rfl (by decide) fun a b2 w v2 hv2 e' hb2 hs2 B2 hf => ?_
  have hle2 := Nat.le_trans e.size (Nat.le_of_eq hb2.symm)
  replace e := Ext.tr e e'
  clear e'
  refine tl_as hf rfl (by decide) fun a hf => ?_
  refine tl_as hf rfl (by decide) fun a hf => ?_
  refine tl_nil ?_
  cases hv2
  replace B2 : Blk w b2 #[p1, p2] 25 := B2
  obtain ⟨N, hN⟩ : ∃ N, N = w.heap.size := ⟨_, rfl⟩
  have l2 : b2 < N := by rw [hN]; exact B2.lt
  have hNs : N ≤ w.heap.size := Nat.le_of_eq hN
  have hWN : W.heap.size ≤ N := by rw [hN]; exact e.size
  clear hN
  refine seq (regn0 ?_)
  refine tl_bsl0 N Go.Mono.G0 intE Tryz.underlying30 S3 hf (by decide) hNs (fun b hb => hb.elim) fun a q1 w e' hov1 H1 hf => ?_
  replace B2 := B2.ext e'; replace hNs := Nat.le_trans hNs e'.size; replace e := Ext.tr e e'; clear e'
  have hlt1 : ∀ b, q1.ownBlock = some b → b < w.heap.size := fun b hb => (H1.lt hb).2
  refine tl_bsl0 N Go.Mono.G0 intE Tryz.underlying30 S3 hf (by decide) hNs (fun b hb => hb.elim) fun a q2 w e' hov2 H2 hf => ?_
  have hne := neNew hlt1 hov2
  replace H1 := H1.ext e'; replace B2 := B2.ext e'; replace hNs := Nat.le_trans hNs e'.size; replace e := Ext.tr e e'; clear e'
  clear hov1 hov2 hlt1
  refine tl_as hf rfl (by decide) fun a hf => ?_
  refine tl_as hf rfl (by decide) fun a hf => ?_
  refine tl_nil ?_
  replace hf := hf.keep [1, 2, 6, 7]
  dsimp only [keep, List.filterMap, look, Nat.beq, Option.map] at hf
  obtain ⟨N2, hN2⟩ : ∃ N2, N2 = w.heap.size := ⟨_, rfl⟩
  have hlt2 : ∀ b, q2.ownBlock = some b → b < N2 := fun b hb => by rw [hN2]; exact (H2.lt hb).2
  have hN2s : N2 ≤ w.heap.size := Nat.le_of_eq hN2
  clear hN2
  repeat refine seq ?_
  refine regn0 ?_
  refine tl_as hf rfl (by decide) fun a hf => ?_
  refine tl_nil ?_
  replace hf := hf.keep [1, 2, 6, 7, 8]
  dsimp only [keep, List.filterMap, look, Nat.beq, Option.map] at hf
  repeat refine seq ?_
  refine blk (loopN (fun r0 a w => ∃ (k : Nat) (u1 : Value), r0 = g.1.length - k ∧ k ≤ g.1.length ∧ Fr 69 a w [(1, E (I n)), (2, E (ptr b2)), (6, E u1), (7, E q2), (8, E (I k))] ∧ Ext W w ∧ Blk w b2 #[p1, p2] 25 ∧ OwR intE 3 N Go.Mono.G0 w (nearTo g n k) u1 ∧ OwR intE 3 N Go.Mono.G0 w [] q2 ∧ (∀ b, q2.ownBlock = some b → u1.ownBlock ≠ some b) ∧ N2 ≤ w.heap.size) g.1.length ⟨0, q1, rfl, by omega, hf, e, ⟨B2, H1, H2, hne, hN2s⟩⟩ ?_)
  clear hf e; try clear B2; try clear H1; try clear H2; try clear hne; try clear hN2s
  rintro r0 a w ⟨k, u1, rfl, hk, hf, e, B2, H1, H2, hne, hN2s⟩
  repeat refine seq ?_
  refine regn 5 hf (by decide +kernel) ?_
  refine st (mv rfl) ?_
  refine st (fldA Tryz.underlying25 rfl T22 (by decide) rfl) ?_
  refine st (ld1 T22 rfl B2 rfl) ?_
  refine st (lenD Tryz.underlying22 (isE rfl (VA.st _ _ _ _ e h1))) ?_
  refine st (lss rfl rfl) ?_
  refine en fun a w e' hf => ?_
  replace H1 := H1.ext e'
  replace H2 := H2.ext e'
  replace hN2s := Nat.le_trans hN2s e'.size
  replace e := Ext.tr e e'
  replace B2 := B2.ext e'
  clear e'
  refine tl_nil ?_
  repeat refine seq ?_
  refine ifc hf rfl (fun hc => wskip ?_) (fun hc => wexit ?_)
  rotate_left
  rotate_left
  · have hlt : k < g.1.length := by have := of_decide_eq_true hc; (try dsimp only at this); omega
    clear hc
    replace hf := hf.keep [1, 2, 6, 7, 8]
    dsimp only [keep, List.filterMap, look, Nat.beq, Option.map] at hf
    repeat refine seq ?_
    refine blk ?_
    have hx := List.getElem?_eq_getElem hlt
    generalize g.1[k] = y at hx
    have hxi : (idsG g)[k]? = some y.1 := by rw [idsG, List.getElem?_map, hx]; rfl
    have hsc := nearTo_succ n hxi
    have hlk := nearTo_len g n k
    have e0 := e
    repeat refine seq ?_
    refine reg 10 Mix.mix hf (by decide +kernel) ?_
    refine st ((ldW T25 rfl B2 rfl).eq ((rfl : _ = Value.agg #[p1, p2]))) ?_
    refine st (fldA Tryz.underlying25 rfl T22 (by decide) rfl) ?_
    refine st (ld1 T22 rfl B2 rfl) ?_
    refine st (mv rfl) ?_
    refine st (idxD Tryz.underlying22 S66 (isE rfl (VA.st _ _ _ _ e h1b)) rfl (by omega) (hx)) ?_
    refine st (fldD Tryz.underlying66 rfl T3 (by decide) (Fld.fst Fld.refl) (isR rfl)) ?_
    refine st (ldI T3 (isR rfl)) ?_
    refine st (mv rfl) ?_
    refine st (call3 (A := E (I (edgF g.2 y.1 n))) En42 rfl rfl rfl (fun v u s w he k1 k2 k3 => by cases k1; cases k2; cases k3; exact edge_spec g _ _ _ w (VA.st _ _ _ _ (Ext.tr e0 he) hg0) hl2)) ?_
    refine st (geq rfl rfl) ?_
    refine en fun a w e' hf => ?_
    replace H1 := H1.ext e'
    replace H2 := H2.ext e'
    replace hN2s := Nat.le_trans hN2s e'.size
    replace e := Ext.tr e e'
    replace B2 := B2.ext e'
    clear e'
    refine tl_nil ?_
    repeat refine seq ?_
    refine ifc hf rfl (fun hb => ?_) (fun hb => ?_)
    · have hb' := of_decide_eq_true hb
      rw [if_pos (decide_eq_true hb')] at hsc
      replace hf := hf.keep [1, 2, 6, 7, 8]
      dsimp only [keep, List.filterMap, look, Nat.beq, Option.map] at hf
      repeat refine seq ?_
      refine regn 8 hf (by decide +kernel) ?_
      refine st (mv rfl) ?_
      refine st (fldA Tryz.underlying25 rfl T22 (by decide) rfl) ?_
      refine st (ld1 T22 rfl B2 rfl) ?_
      refine st (mv rfl) ?_
      refine st (idxD Tryz.underlying22 S66 (isE rfl (VA.st _ _ _ _ e h1b)) rfl (by omega) (hx)) ?_
      refine st (fldD Tryz.underlying66 rfl T3 (by decide) (Fld.fst Fld.refl) (isR rfl)) ?_
      refine st (ldI T3 (isR rfl)) ?_
      refine st (bsl1 Tryz.underlying30 I3 rfl (by decide) rfl H1.avs (isI rfl)) ?_
      refine en fun a w e' hf => ?_
      replace B2 := B2.ext e'
      replace H2 := H2.ext e'
      replace hne := hne
      replace hN2s := Nat.le_trans hN2s e'.size
      replace H1 := H1.ext e'
      replace e := Ext.tr e e'
      clear e'
      haveI hin : ∀ G0, InR (GB W G0) _ := OwR.inGB (W := W) H1 hWN
      refine tl_app Tryz.underlying30 I3 rfl rfl hf (by decide) rfl H1 (isR rfl) (by simp only [List.length_singleton]; omega) (by simp only [List.length_singleton, maxLen]; omega) fun a v w hg hat Hn hf => ?_
      replace e := e.gro hg (H1.row (W := W) hWN)
      have hrow := H1.row (W := W) hWN
      replace B2 := B2.gro hg (H1.neLt l2)
      replace H2 := H2.groE hg hne
      replace hne := fun b hb => own_ne hat (hne b hb) (Nat.lt_of_lt_of_le (hlt2 b hb) hN2s)
      replace hN2s := Nat.le_trans hN2s hg.size
      replace H1 := Hn
      clear hrow
      replace H1 := Hn; clear Hn hg hat hin
      refine tl_as hf rfl (by decide) fun a hf => ?_
      refine tl_nil ?_
      rw [← hsc] at H1
      try simp only [Exit.then, Exit.inBlock, ↓reduceIte]
      repeat refine seq ?_
      refine regn 2 hf (by decide +kernel) ?_
      refine st (mv rfl) ?_
      refine st ((add rfl rfl (by omega)).eq (congrArg (Value.int .i64) (show (k : Int) + 1 = ((k + 1 : Nat) : Int) from rfl))) ?_
      refine en fun a w e' hf => ?_
      replace B2 := B2.ext e'
      replace H2 := H2.ext e'
      replace hne := hne
      replace hN2s := Nat.le_trans hN2s e'.size
      replace H1 := H1.ext e'
      replace e := Ext.tr e e'
      clear e'
      refine tl_as hf rfl (by decide) fun a hf => ?_
      refine tl_nil ?_
      replace hf := hf.keep [1, 2, 6, 7, 8]
      dsimp only [keep, List.filterMap, look, Nat.beq, Option.map] at hf
      refine ⟨_, ?_, k + 1, _, rfl, by omega, hf, e, ?_⟩
      · omega
      exact ⟨B2, H1, H2, hne, hN2s⟩
    · have hb' := of_decide_eq_false hb
      rw [if_neg (by simpa using hb'), List.append_nil] at hsc
      rw [← hsc] at H1
      refine wskip ?_
      try simp only [Exit.then, Exit.inBlock, ↓reduceIte]
      try simp only [Exit.then, Exit.inBlock, ↓reduceIte]
      repeat refine seq ?_
      refine regn 2 hf (by decide +kernel) ?_
      refine st (mv rfl) ?_
      refine st ((add rfl rfl (by omega)).eq (congrArg (Value.int .i64) (show (k : Int) + 1 = ((k + 1 : Nat) : Int) from rfl))) ?_
      refine en fun a w e' hf => ?_
      replace B2 := B2.ext e'
      replace H2 := H2.ext e'
      replace hne := hne
      replace hN2s := Nat.le_trans hN2s e'.size
      replace H1 := H1.ext e'
      replace e := Ext.tr e e'
      clear e'
      refine tl_as hf rfl (by decide) fun a hf => ?_
      refine tl_nil ?_
      replace hf := hf.keep [1, 2, 6, 7, 8]
      dsimp only [keep, List.filterMap, look, Nat.beq, Option.map] at hf
      refine ⟨_, ?_, k + 1, _, rfl, by omega, hf, e, ?_⟩
      · omega
      exact ⟨B2, H1, H2, hne, hN2s⟩
  · obtain rfl : k = g.1.length := by have := of_decide_eq_false hc; (try dsimp only at this); omega
    clear hc
    simp only [Exit.then, Exit.inBlock, ↓reduceIte]
    rw [show nearTo g n g.1.length = nearG g n by rw [nearTo, nearG, show g.1.length = (idsG g).length by simp [idsG], List.take_length]] at H1
    obtain ⟨N1, hN1⟩ : ∃ N1, N1 = w.heap.size := ⟨_, rfl⟩
    have hlt1 : ∀ b, u1.ownBlock = some b → b < N1 := fun b hb => by rw [hN1]; exact (H1.lt hb).2
    have hN1s : N1 ≤ w.heap.size := Nat.le_of_eq hN1
    have hne1 : ∀ b, u1.ownBlock = some b → q2.ownBlock ≠ some b := fun b h1 h2 => hne b h2 h1
    clear hN1 hne
    replace hf := hf.keep [1, 2, 6, 7]
    dsimp only [keep, List.filterMap, look, Nat.beq, Option.map] at hf
    repeat refine seq ?_
    refine regn0 ?_
    refine tl_as hf rfl (by decide) fun a hf => ?_
    refine tl_nil ?_
    replace hf := hf.keep [1, 2, 6, 7, 9]
    dsimp only [keep, List.filterMap, look, Nat.beq, Option.map] at hf
    repeat refine seq ?_
    refine blk (loopN (fun r0 a w => ∃ (k : Nat) (u2 : Value), r0 = g.2.length - k ∧ k ≤ g.2.length ∧ Fr 69 a w [(1, E (I n)), (2, E (ptr b2)), (6, E u1), (7, E u2), (9, E (I k))] ∧ Ext W w ∧ Blk w b2 #[p1, p2] 25 ∧ OwR intE 3 N Go.Mono.G0 w (nearG g n) u1 ∧ OwR intE 3 N Go.Mono.G0 w (onTo g n k) u2 ∧ (∀ b, u1.ownBlock = some b → u2.ownBlock ≠ some b) ∧ N1 ≤ w.heap.size) g.2.length ⟨0, q2, rfl, by omega, hf, e, ⟨B2, H1, H2, hne1, hN1s⟩⟩ ?_)
    clear hf e; try clear B2; try clear H1; try clear H2; try clear hne1; try clear hN1s
    rintro r0 a w ⟨k, u2, rfl, hk, hf, e, B2, H1, H2, hne1, hN1s⟩
    repeat refine seq ?_
    refine regn 5 hf (by decide +kernel) ?_
    refine st (mv rfl) ?_
    refine st (fldA Tryz.underlying25 rfl T23 (by decide) rfl) ?_
    refine st (ld1 T23 rfl B2 rfl) ?_
    refine st (lenD Tryz.underlying23 (isE rfl (VA.st _ _ _ _ e h2))) ?_
    refine st (lss rfl rfl) ?_
    refine en fun a w e' hf => ?_
    replace H1 := H1.ext e'
    replace H2 := H2.ext e'
    replace hN1s := Nat.le_trans hN1s e'.size
    replace e := Ext.tr e e'
    replace B2 := B2.ext e'
    clear e'
    refine tl_nil ?_
    repeat refine seq ?_
    refine ifc hf rfl (fun hc => wskip ?_) (fun hc => wexit ?_)
    rotate_left
    rotate_left
    · have hlt : k < g.2.length := by have := of_decide_eq_true hc; (try dsimp only at this); omega
      clear hc
      replace hf := hf.keep [1, 2, 6, 7, 9]
      dsimp only [keep, List.filterMap, look, Nat.beq, Option.map] at hf
      repeat refine seq ?_
      refine blk ?_
      have hx := List.getElem?_eq_getElem hlt
      generalize g.2[k] = y at hx
      have hsc := onTo_succ n hx
      have hlk := onTo_len g n k
      repeat refine seq ?_
      refine regn 18 hf (by decide +kernel) ?_
      refine st (fldA Tryz.underlying25 rfl T23 (by decide) rfl) ?_
      refine st (ld1 T23 rfl B2 rfl) ?_
      refine st (mv rfl) ?_
      refine st (idxD Tryz.underlying23 S74 (isE rfl (VA.st _ _ _ _ e h2b)) rfl (by omega) (hx)) ?_
      refine st (fldD Tryz.underlying74 rfl T3 (by decide) (Fld.fst (Fld.fst Fld.refl)) (isR rfl)) ?_
      refine st (ldI T3 (isR rfl)) ?_
      refine st (mv rfl) ?_
      refine st (eql rfl rfl) ?_
      refine st (mv rfl) ?_
      refine sgE rfl rfl (.k 2 rfl .n) (fun hgd => fldA Tryz.underlying25 rfl T23 (by decide) rfl) ?_
      refine sgE rfl rfl (.c 54 rfl (fun h => h) .n) (fun hgd => ld1 T23 rfl B2 rfl) ?_
      refine sgE rfl rfl (.k 9 rfl .n) (fun hgd => mv rfl) ?_
      refine sgE rfl rfl (.c 55 rfl (fun h => h) (.c 56 rfl (fun h => h) .n)) (fun hgd => idxD Tryz.underlying23 S74 (isE rfl (VA.st _ _ _ _ e h2b)) rfl rfl (hx)) ?_
      refine sgE rfl rfl (.c 57 rfl (fun h => h) .n) (fun hgd => fldD Tryz.underlying74 rfl T3 (by decide) (Fld.fst (Fld.snd Fld.refl rfl)) (isR rfl)) ?_
      refine sgE rfl rfl (.c 58 rfl (fun h => h) .n) (fun hgd => ldI T3 (isR rfl)) ?_
      refine sgE rfl rfl (.k 1 rfl .n) (fun hgd => mv rfl) ?_
      refine sgE rfl rfl (.c 59 rfl (fun h => h) (.c 60 rfl (fun h => h) .n)) (fun hgd => eql rfl rfl) ?_
      refine st (pkOr rfl rfl (fun h => by rw [h]; rfl)) ?_
      refine en fun a w e' hf => ?_
      replace H1 := H1.ext e'
      replace H2 := H2.ext e'
      replace hN1s := Nat.le_trans hN1s e'.size
      replace e := Ext.tr e e'
      replace B2 := B2.ext e'
      clear e'
      refine tl_nil ?_
      repeat refine seq ?_
      refine ifc hf rfl (fun hb => ?_) (fun hb => ?_)
      · rw [if_pos hb] at hsc
        replace hf := hf.keep [1, 2, 6, 7, 9]
        dsimp only [keep, List.filterMap, look, Nat.beq, Option.map] at hf
        repeat refine seq ?_
        refine regn 3 hf (by decide +kernel) ?_
        refine st (mv rfl) ?_
        refine st (mv rfl) ?_
        refine st (bsl1 Tryz.underlying30 I3 rfl (by decide) rfl H2.avs (isI rfl)) ?_
        refine en fun a w e' hf => ?_
        replace B2 := B2.ext e'
        replace H1 := H1.ext e'
        replace hne1 := hne1
        replace hN1s := Nat.le_trans hN1s e'.size
        replace H2 := H2.ext e'
        replace e := Ext.tr e e'
        clear e'
        haveI hin : ∀ G0, InR (GB W G0) _ := OwR.inGB (W := W) H2 hWN
        refine tl_app Tryz.underlying30 I3 rfl rfl hf (by decide) rfl H2 (isR rfl) (by simp only [List.length_singleton]; omega) (by simp only [List.length_singleton, maxLen]; omega) fun a v w hg hat Hn hf => ?_
        replace e := e.gro hg (H2.row (W := W) hWN)
        have hrow := H2.row (W := W) hWN
        replace B2 := B2.gro hg (H2.neLt l2)
        replace H1 := H1.groE hg hne1
        replace hne1 := fun b hb => own_ne hat (hne1 b hb) (Nat.lt_of_lt_of_le (hlt1 b hb) hN1s)
        replace hN1s := Nat.le_trans hN1s hg.size
        replace H2 := Hn
        clear hrow
        replace H2 := Hn; clear Hn hg hat hin
        refine tl_as hf rfl (by decide) fun a hf => ?_
        refine tl_nil ?_
        rw [← hsc] at H2
        try simp only [Exit.then, Exit.inBlock, ↓reduceIte]
        repeat refine seq ?_
        refine regn 2 hf (by decide +kernel) ?_
        refine st (mv rfl) ?_
        refine st ((add rfl rfl (by omega)).eq (congrArg (Value.int .i64) (show (k : Int) + 1 = ((k + 1 : Nat) : Int) from rfl))) ?_
        refine en fun a w e' hf => ?_
        replace B2 := B2.ext e'
        replace H1 := H1.ext e'
        replace hne1 := hne1
        replace hN1s := Nat.le_trans hN1s e'.size
        replace H2 := H2.ext e'
        replace e := Ext.tr e e'
        clear e'
        refine tl_as hf rfl (by decide) fun a hf => ?_
        refine tl_nil ?_
        replace hf := hf.keep [1, 2, 6, 7, 9]
        dsimp only [keep, List.filterMap, look, Nat.beq, Option.map] at hf
        refine ⟨_, ?_, k + 1, _, rfl, by omega, hf, e, ?_⟩
        · omega
        exact ⟨B2, H1, H2, hne1, hN1s⟩
      · rw [if_neg (by simpa using hb), List.append_nil] at hsc
        rw [← hsc] at H2
        refine wskip ?_
        try simp only [Exit.then, Exit.inBlock, ↓reduceIte]
        try simp only [Exit.then, Exit.inBlock, ↓reduceIte]
        repeat refine seq ?_
        refine regn 2 hf (by decide +kernel) ?_
        refine st (mv rfl) ?_
        refine st ((add rfl rfl (by omega)).eq (congrArg (Value.int .i64) (show (k : Int) + 1 = ((k + 1 : Nat) : Int) from rfl))) ?_
        refine en fun a w e' hf => ?_
        replace B2 := B2.ext e'
        replace H1 := H1.ext e'
        replace hne1 := hne1
        replace hN1s := Nat.le_trans hN1s e'.size
        replace H2 := H2.ext e'
        replace e := Ext.tr e e'
        clear e'
        refine tl_as hf rfl (by decide) fun a hf => ?_
        refine tl_nil ?_
        replace hf := hf.keep [1, 2, 6, 7, 9]
        dsimp only [keep, List.filterMap, look, Nat.beq, Option.map] at hf
        refine ⟨_, ?_, k + 1, _, rfl, by omega, hf, e, ?_⟩
        · omega
        exact ⟨B2, H1, H2, hne1, hN1s⟩
    · obtain rfl : k = g.2.length := by have := of_decide_eq_false hc; (try dsimp only at this); omega
      clear hc
      simp only [Exit.then, Exit.inBlock, ↓reduceIte]
      replace hf := hf.keep [6, 7]
      dsimp only [keep, List.filterMap, look, Nat.beq, Option.map] at hf
      repeat refine seq ?_
      refine regn 2 hf (by decide +kernel) ?_
      refine st (mv rfl) ?_
      refine st (mv rfl) ?_
      refine en fun a w e' hf => ?_
      replace H1 := H1.ext e'
      replace H2 := H2.ext e'
      replace e := Ext.tr e e'
      clear e'
      refine tl_as hf rfl (by decide) fun a hf => ?_
      refine tl_as hf rfl (by decide) fun a hf => ?_
      refine tl_nil ?_
      refine wret (ret2 rfl hf rfl rfl ?_)
      rintro _ _ rfl rfl
      exact ⟨_, rfl, e, Tup.two (H1.low (Nat.le_trans hM hWN) fun b hb => hb.elim) (Dv.weak H2.sl fun b _ hb => hb.elim)⟩
end Go.Mono

namespace Go.Mono
open Go Go.Proofs Go.RowKit Go.Gr

theorem nd_len : ∀ (l m : List Int), l.Nodup → (∀ x ∈ l, x ∈ m) → l.length ≤ m.length
  | [], m, _, _ => Nat.zero_le _
  | x :: l, m, hn, hs => by
    have hx := hs x (List.mem_cons_self ..)
    have h1 := nd_len l (m.erase x) (List.nodup_cons.1 hn).2 fun y hy => (List.mem_erase_of_ne (fun h => (List.nodup_cons.1 hn).1 (by rw [← h]; exact hy))).2 (hs y (List.mem_cons_of_mem _ hy))
    have h2 := List.length_erase_of_mem hx
    have h3 := List.length_pos_of_mem hx
    rw [List.length_cons]; omega
/-- reached from v through th -/
inductive RV (nbr : Int → List Int) (th : List Int) (v : Int) : Int → Prop
  | one {u : Int} : u ∈ nbr v → RV nbr th v u
  | step {t u : Int} : RV nbr th v t → t ∈ th → u ∈ nbr t → RV nbr th v u
def addN (s : List Int) (x : Int) : List Int := if x ∈ s then s else s ++ [x]
def addL (s l : List Int) : List Int := l.foldl addN s
theorem addL_succ {s l : List Int} {k : Nat} {x : Int} (h : l[k]? = some x) : addL s (l.take (k + 1)) = addN (addL s (l.take k)) x := by
  rw [addL, take_succ_get h, List.foldl_append]; rfl
theorem addN_ex (s : List Int) (x : Int) : ∃ t, addN s x = s ++ t := by
  unfold addN; split
  · exact ⟨[], (List.append_nil _).symm⟩
  · exact ⟨[x], rfl⟩
theorem addL_ex : ∀ (l s : List Int), ∃ t, addL s l = s ++ t
  | [], s => ⟨[], (List.append_nil _).symm⟩
  | x :: l, s => by
    obtain ⟨t, h⟩ := addN_ex s x
    obtain ⟨t', h'⟩ := addL_ex l (addN s x)
    exact ⟨t ++ t', by rw [← List.append_assoc, ← h]; exact h'⟩
theorem mem_addN {s : List Int} {x y : Int} : y ∈ addN s x ↔ y ∈ s ∨ y = x := by
  unfold addN; split
  · rename_i h
    exact ⟨.inl, fun hh => hh.elim id fun e => e ▸ h⟩
  · rw [List.mem_append, List.mem_singleton]
theorem mem_addL {y : Int} : ∀ (l s : List Int), y ∈ addL s l ↔ y ∈ s ∨ y ∈ l
  | [], s => by simp [addL]
  | x :: l, s => by
    rw [show addL s (x :: l) = addL (addN s x) l from rfl, mem_addL l, mem_addN, List.mem_cons, or_assoc]
theorem addN_nd {s : List Int} {x : Int} (h : s.Nodup) : (addN s x).Nodup := by
  unfold addN; split
  · exact h
  · rename_i hx
    rw [List.nodup_append]
    exact ⟨h, by simp, fun a ha b hb e => hx (by rw [List.mem_singleton] at hb; rw [← hb, ← e]; exact ha)⟩
theorem addL_nd : ∀ (l s : List Int), s.Nodup → (addL s l).Nodup
  | [], s, h => h
  | x :: l, s, h => addL_nd l _ (addN_nd h)
structure RcI (ids : List Int) (nbr : Int → List Int) (th : List Int) (v : Int) (sn : List Int) (k : Nat) : Prop where
  nd : sn.Nodup
  vin : v ∈ sn
  sub : ∀ x ∈ sn, x ∈ ids
  rch : ∀ x ∈ sn, x = v ∨ RV nbr th v x
  cl : ∀ j, j < k → ∀ x, sn[j]? = some x → (x = v ∨ x ∈ th) → ∀ y ∈ nbr x, y ∈ sn
section
variable {ids th sn : List Int} {nbr : Int → List Int} {v x : Int} {k : Nat}
theorem RcI.len (h : RcI ids nbr th v sn k) : sn.length ≤ ids.length := nd_len _ _ h.nd h.sub
theorem RcI.zero (hv : v ∈ ids) : RcI ids nbr th v [v] 0 :=
  ⟨by simp, by simp, fun x hx => by rw [List.mem_singleton.1 hx]; exact hv, fun x hx => .inl (List.mem_singleton.1 hx), fun j hj => by omega⟩
theorem RcI.skip (h : RcI ids nbr th v sn k) (hx : sn[k]? = some x) (hn : ¬(x = v ∨ x ∈ th)) : RcI ids nbr th v sn (k + 1) :=
  ⟨h.nd, h.vin, h.sub, h.rch, fun j hj y hy hyy => by
    by_cases hjk : j = k
    · subst hjk; rw [hx] at hy; cases hy; exact absurd hyy hn
    · exact h.cl j (by omega) y hy hyy⟩
theorem RcI.step (h : RcI ids nbr th v sn k) (hs : ∀ a, ∀ y ∈ nbr a, y ∈ ids) (hx : sn[k]? = some x) (hn : x = v ∨ x ∈ th) : RcI ids nbr th v (addL sn (nbr x)) (k + 1) := by
  obtain ⟨t, ht⟩ := addL_ex (nbr x) sn
  have hkl : k < sn.length := (List.getElem?_eq_some_iff.1 hx).1
  refine ⟨addL_nd _ _ h.nd, (mem_addL _ _).2 (.inl h.vin), fun y hy => ?_, fun y hy => ?_, fun j hj y hy hyy z hz => ?_⟩
  · exact ((mem_addL _ _).1 hy).elim (h.sub y) (hs x y)
  · rcases (mem_addL _ _).1 hy with hy | hy
    · exact h.rch y hy
    · rcases h.rch x (List.mem_of_getElem? hx) with rfl | hr
      · exact .inr (.one hy)
      · rcases hn with rfl | hn
        · exact .inr (.one hy)
        · exact .inr (.step hr hn hy)
  · rw [ht, List.getElem?_append_left (by omega)] at hy
    by_cases hjk : j = k
    · subst hjk; rw [hx] at hy; cases hy; exact (mem_addL _ _).2 (.inr hz)
    · exact (mem_addL _ _).2 (.inl (h.cl j (by omega) y hy hyy z hz))
theorem RcI.done (h : RcI ids nbr th v sn k) (hk : sn.length ≤ k) : x ∈ sn ↔ x = v ∨ RV nbr th v x := by
  have hc : ∀ a ∈ sn, (a = v ∨ a ∈ th) → ∀ y ∈ nbr a, y ∈ sn := fun a ha => by
    obtain ⟨j, hj, hja⟩ := List.getElem_of_mem ha
    exact h.cl j (by omega) a (by rw [List.getElem?_eq_getElem hj, hja])
  refine ⟨h.rch x, ?_⟩
  rintro (rfl | hr)
  · exact h.vin
  · induction hr with
    | one h1 => exact hc _ h.vin (.inl rfl) _ h1
    | step _ ht hu ih => exact hc _ ih (.inr ht) _ hu
end
open Classical in
/-- what the reference's Reach answers -/
noncomputable def refG (g : GT) (th : List Int) (v : Int) : List Int :=
  if fndF g.1 v < 0 ∨ v ∈ th then [] else (idsG g).filter fun x => decide (x ≠ v ∧ RV (nearG g) th v x ∧ x ∉ th)
theorem fnd_mem {g : GT} {v : Int} (h : ¬fndF g.1 v < 0) : v ∈ idsG g := by
  rw [fndF] at h
  cases hf : g.1.findIdx? (fun y => decide (y.1 = v)) with
  | none => rw [hf] at h; exact absurd (by decide) h
  | some p =>
    obtain ⟨hp, h1, _⟩ := List.findIdx?_eq_some_iff_getElem.1 hf
    exact List.mem_map.2 ⟨_, List.getElem_mem hp, of_decide_eq_true h1⟩
theorem fu_own {te : TypeId} {N : Nat} {xs : List Int} {v : Value} {w : World} (h : (FuA te N xs).p v w) (hN : N ≤ w.heap.size) (hl : xs.length ≤ maxLen) : OwR intE te N Go.Mono.G0 w xs v := by
  obtain ⟨b, hNb, rfl, hB⟩ := h
  have own : w.ownsRow N te 1 (.slice (some ⟨b, 0, none⟩) xs.length xs.length) xs.length (xs.map (Value.int .i64)) := by
    refine ⟨by simp, .inr ⟨b, xs.length, _, rfl, hNb, hB, Nat.le_refl _, hl, by simp, ?_⟩⟩
    rw [Nat.mul_one, List.take_of_length_le (by simp)]
  exact ⟨⟨_, own, int_cells_all _⟩, fun b hb => hb.elim, hN⟩
end Go.Mono

namespace Go.Mono
open Go Go.Proofs Go.RowKit

def natE (l : List Nat) : List Int := l.map fun i : Nat => (i : Int)
structure AqJ (W : World) (N b2 B : Nat) (s : List Nat) (w : World) : Prop where
  e : Ext W w
  t : Tab w
  p : ∃ u, Blk w b2 #[u] 30 ∧ OwR intE 3 N Go.Mono.G0 w (natE s) u ∧ ∀ g, u.ownBlock = some g → ¬Hole B g
theorem AqJ.kp {W : World} {N b2 B : Nat} {s : List Nat} {w w' : World} (h : AqJ W N b2 B s w) (k : Kp B w w') (hW : W.heap.size ≤ B) (h0 : 0 < B) (l2 : b2 < B) : AqJ W N b2 B s w' := by
  obtain ⟨u, q1, q2, q3⟩ := h.p
  exact ⟨h.e.kp k hW, h.t.kp k h0, ⟨u, q1.kp k (fun hh => by have := hh.1; omega), q2.chE k.chg q3, q3⟩⟩
theorem appendSeq_spec (S : BS) (b : Nat) (W : World) (hT : Tab W) (hb : Blk W b (setC S) 41) :
    Calls Tryz.prog 63 #[.slice none 0 0, seqV b] W (Post (OwA intE 3 W.heap.size Go.Mono.G0 (natE (elems S))) W) := by
  have hT0 := hT.lt
  refine enterM (args := [.slice none 0 0, seqV b]) (As := [E (.slice none 0 0), E (seqV b)]) Tryz.func63 rfl Tryz.ntmps63 (Nat.le_of_ble_eq_true rfl) ?_ (fun a hf => ?_) (Nat.le_of_ble_eq_true rfl)
  · exact arg2 rfl rfl
  dsimp only [params, Nat.reduceAdd] at hf
  have e := Ext.rfl' W
  repeat refine seq ?_
  refine regn0 ?_
  refine tl_box hf rfl (by decide) fun a b2 w v2 hv2 e' hb2 hs2 B2 hf => ?_
  have hle2 := Nat.le_trans e.size (Nat.le_of_eq hb2.symm)
  replace hT := hT.ext e'
  replace e := Ext.tr e e'
  replace hb := hb.ext e'
  clear e'
  refine tl_as hf rfl (by decide) fun a hf => ?_
  refine tl_nil ?_
  cases hv2
  replace B2 : Blk w b2 #[.slice none 0 0] 30 := B2
  replace hf := hf.keep [1, 2]
  dsimp only [keep, List.filterMap, look, Nat.beq, Option.map] at hf
  repeat refine seq ?_
  refine regn 1 hf (by decide +kernel) ?_
  refine st (mv rfl) ?_
  refine en fun a w e' hf => ?_
  replace hT := hT.ext e'
  replace e := Ext.tr e e'
  replace hb := hb.ext e'
  replace B2 := B2.ext e'
  clear e'
  refine tl_nil ?_
  replace hf := hf.keep [2, 6]
  dsimp only [keep, List.filterMap, look, Nat.beq, Option.map] at hf
  have n2 : W.heap.size ≤ b2 := hle2
  have hBW : W.heap.size ≤ w.heap.size := e.size
  have h0w : 0 < w.heap.size := hT.lt
  have l2 := B2.lt
  have hel := elems_len S
  obtain ⟨N, hN⟩ : ∃ N, N = w.heap.size := ⟨_, rfl⟩
  have hNs : N ≤ w.heap.size := Nat.le_of_eq hN
  have l2N : b2 < N := by omega
  have hWN : W.heap.size ≤ N := by omega
  clear hN
  repeat refine seq ?_
  refine blk ?_
  refine range_all3 (S := S) hf rfl hb (by decide) (fun s w1 => AqJ W N b2 w.heap.size s w1) (fun _ _ => False) (fun s w1 h => h.t)
    ⟨e, hT, ⟨_, B2, OwR.nil intE _ hNs (fun b hb => hb.elim), fun g hg => by cases hg⟩⟩ (fun s w1 w2 h hs k => h.kp k hBW h0w l2) (fun _ _ _ h => h.elim) ?_ ?_ (fun _ _ _ _ _ _ h => h.elim)
  · intro lp s x rest a1 w1 hs hJ hlw hf
    have hsl : s.length ≤ 1024 := by rw [hs] at hel; simp at hel; omega
    generalize hBz : w.heap.size = Bz at *
    refine regn0 ?_
    refine tl_as hf rfl (by decide) fun a hf => ?_
    refine tl_nil ?_
    simp only [Exit.then]
    refine ⟨Kh.rfl' _ _, fun w3 k3 hsz3 => ?_⟩
    have hJ3 := hJ.kp k3 hBW h0w l2
    have hw3 : Bz + 3 ≤ w3.heap.size := by omega
    clear e hT B2 hb
    replace hf := hf.pure w3
    obtain ⟨e, hT, ⟨u, B2, Ho, lH⟩⟩ := hJ3
    have kh := Kh.rfl' Bz w3
    replace hf := hf.keep [2, 5]
    dsimp only [keep, List.filterMap, look, Nat.beq, Option.map] at hf
    repeat refine seq ?_
    refine blk ?_
    have hln : (natE s).length = s.length := by simp [natE]
    repeat refine seq ?_
    refine regn 3 hf (by decide +kernel) ?_
    refine st (ld1 (v := u) T30 rfl B2 rfl) ?_
    refine st (mv rfl) ?_
    refine st (bsl1 Tryz.underlying30 I3 rfl (by decide) rfl Ho.avs (isI rfl)) ?_
    refine en fun a w e' hf => ?_
    replace hT := hT.ext e'
    replace kh := kh.tr (Kh.ext e')
    replace hw3 := Nat.le_trans hw3 e'.size
    replace e := Ext.tr e e'
    replace B2 := B2.ext e'
    replace Ho := Ho.ext e'
    clear e'
    have hrow : ∀ b, u.ownBlock = some b → N ≤ b := fun b hb => (Ho.lt hb).1
    refine tl_app Tryz.underlying30 I3 rfl rfl hf (by decide) rfl Ho (isR rfl) (by rw [hln, List.length_singleton]; omega) (by rw [hln, List.length_singleton]; simp only [maxLen]; omega) fun a u' w hg hat Hn hf => ?_
    replace B2 := B2.gro hg (Ho.neB B2 (by decide))
    replace e := e.gro hg (fun b hb => by have := hrow b hb; omega)
    replace hT := hT.gro hg (fun b hb => by have := hrow b hb; omega)
    replace kh := kh.tr (Kh.gro hg lH)
    have lH' := own_hole hat lH hw3
    have z2 : u'.ownBlock ≠ some b2 := Hn.neB B2 (by decide)
    have hone := Hn.one
    clear Ho hg hat lH hrow
    replace hf := hf.keep [2, 5, 11]
    dsimp only [keep, List.filterMap, look, Nat.beq, Option.map] at hf
    refine tl_st1 T30 hf rfl rfl hone B2 Nat.zero_lt_one fun w hg hsz B2 hf => ?_
    replace B2 : Blk w b2 #[u'] 30 := B2
    replace e := e.gr hg (by omega)
    replace hT := hT.gr hg (by omega)
    replace kh := kh.tr (Kh.gr hg (fun hh => by have := hh.1; omega))
    replace Hn := Hn.grE hg z2
    clear hg
    refine tl_nil ?_
    simp only [Exit.inBlock]
    exact ⟨⟨e, hT, ⟨u', B2, by rw [natE, List.map_append]; exact Hn, lH'⟩⟩, kh⟩
  · intro a' w' hf' hJ hsz hDn
    simp only [Exit.inBlock, ↓reduceIte, Exit.then]
    have hD : Ds [w.heap.size] w' := (Ds.nil w').cons hDn (by simp)
    have hf : FrD 13 (marks [w.heap.size]) a' w' [(2, E (ptr b2))] := hf'.keep [2]
    have hDW : ∀ d ∈ [w.heap.size], W.heap.size ≤ d := fun d hd => by rw [List.mem_singleton] at hd; omega
    clear hf' e hT B2 hb hDn
    obtain ⟨e, hT, ⟨u, B2, Ho, _⟩⟩ := hJ
    generalize [w.heap.size] = D2 at *
    generalize w' = w at *
    repeat refine seq ?_
    refine regn 1 hf (by decide +kernel) ?_
    refine st (ld1 (v := u) T30 rfl B2 rfl) ?_
    refine en fun a w e' hf => ?_
    replace e := Ext.tr e e'
    replace B2 := B2.ext e'
    replace hD := hD.ext e'
    replace Ho := Ho.ext e'
    clear e'
    refine tl_as hf rfl (by decide) fun a hf => ?_
    refine tl_nil ?_
    refine wret ?_
    try simp only [Exit.then, Exit.inBlock]
    refine ret1M rfl hf rfl hD ⟨_, rfl, e.shut hDW, ?_⟩
    exact (Ho.chE (chg_shut D2 w) fun b hb hm => Ho.neDs hD hm hb).low hWN fun b hb => hb.elim
theorem collect_spec (S : BS) (b : Nat) (W : World) (hT : Tab W) (hb : Blk W b (setC S) 41) :
    Calls Tryz.prog 47 #[seqV b] W (Post (Dv (slE intE) Go.Mono.G0 (natE (elems S))) W) := by
  refine enter (args := [seqV b]) (As := [E (seqV b)]) Tryz.func47 rfl Tryz.ntmps47 (Nat.le_of_ble_eq_true rfl) ?_ (fun a hf => ?_) (Nat.le_of_ble_eq_true rfl)
  rotate_left
  dsimp only [params, Nat.reduceAdd] at hf
  rotate_right
  · exact arg1 rfl
  have e := Ext.rfl' W
  repeat refine seq ?_
  refine regn0 ?_
  refine tl_as hf rfl (by decide) fun a hf => ?_
  refine tl_nil ?_
  repeat refine seq ?_
  refine regn 2 hf (by decide +kernel) ?_
  refine st (mv rfl) ?_
  refine st (call2 (A := Dv (slE intE) Go.Mono.G0 (natE (elems S))) En63 rfl rfl (fun v u w he k1 k2 => by cases k1; cases k2; exact (appendSeq_spec S b w (hT.ext he) (hb.ext he)).mono fun en w' ⟨u, k1, k2, k3⟩ => ⟨u, k1, k2, OwR.sl k3⟩)) ?_
  refine en fun a w e' hf => ?_
  replace hT := hT.ext e'
  replace e := Ext.tr e e'
  replace hb := hb.ext e'
  clear e'
  refine tl_as hf rfl (by decide) fun a hf => ?_
  refine tl_nil ?_
  refine wret ?_
  try simp only [Exit.then, Exit.inBlock]
  refine ret1 rfl hf rfl ?_
  intro v hv
  exact ⟨_, rfl, e, hv⟩
theorem elements_spec (S : BS) (W : World) (hT : Tab W) : Calls Tryz.prog 26 #[setV S] W (Post (Dv (slE intE) Go.Mono.G0 (natE (elems S))) W) := by
  have hT0 := hT.lt
  refine enter (args := [setV S]) (As := [E (setV S)]) Tryz.func26 rfl Tryz.ntmps26 (Nat.le_of_ble_eq_true rfl) ?_ (fun a hf => ?_) (Nat.le_of_ble_eq_true rfl)
  rotate_left
  dsimp only [params, Nat.reduceAdd] at hf
  rotate_right
  · exact arg1 rfl
  have e := Ext.rfl' W
  repeat refine seq ?_
  refine regn0 ?_
  refine tl_box hf rfl (by decide) fun a b1 w v1 hv1 e' hb1 hs1 B1 hf => ?_
  have hle1 := Nat.le_trans e.size (Nat.le_of_eq hb1.symm)
  replace hT := hT.ext e'
  replace e := Ext.tr e e'
  clear e'
  refine tl_as hf rfl (by decide) fun a hf => ?_
  refine tl_nil ?_
  cases hv1
  replace B1 : Blk w b1 (setC S) 41 := B1
  repeat refine seq ?_
  refine regn 3 hf (by decide +kernel) ?_
  refine st ((ldW T41 rfl B1 rfl).eq ((rfl : _ = setV S))) ?_
  refine st (call1 (A := SeqA 0 S) En36 rfl (fun v w' he h => by cases h; exact Calls.mono (all_spec _ w') (fun en w2 ⟨u, h1, h2, b', h3, h4, h5⟩ => ⟨u, h1, h2, b', Nat.zero_le _, h4, h5⟩))) ?_
  refine st (call1 (A := Dv (slE intE) Go.Mono.G0 (natE (elems S))) En47 rfl (fun v w he ⟨b, _, hv, hb⟩ => by rw [hv]; exact collect_spec S b w (hT.ext he) hb)) ?_
  refine en fun a w e' hf => ?_
  replace hT := hT.ext e'
  replace e := Ext.tr e e'
  replace B1 := B1.ext e'
  clear e'
  refine tl_as hf rfl (by decide) fun a hf => ?_
  refine tl_nil ?_
  refine wret ?_
  try simp only [Exit.then, Exit.inBlock]
  refine ret1 rfl hf rfl ?_
  intro v hv
  exact ⟨_, rfl, e, hv⟩
end Go.Mono

namespace Go.Mono
open Go Go.Proofs Go.RowKit

/-- blocks and what they hold -/
def BlkL (w : World) : List (Nat × Array Value × TypeId) → Prop
  | [] => True
  | x :: K => Blk w x.1 x.2.1 x.2.2 ∧ BlkL w K
def LtL (B : Nat) : List (Nat × Array Value × TypeId) → Prop
  | [] => True
  | x :: K => x.1 < B ∧ LtL B K
theorem BlkL.kp {B : Nat} {w w' : World} (k : Kp B w w') : ∀ {K : List (Nat × Array Value × TypeId)}, BlkL w K → LtL B K → BlkL w' K
  | [], _, _ => trivial
  | x :: K, h, l => ⟨h.1.kp k (fun hh => by have := hh.1; have := l.1; omega), BlkL.kp k h.2 l.2⟩
theorem BlkL.lt {w : World} : ∀ {K : List (Nat × Array Value × TypeId)}, BlkL w K → LtL w.heap.size K
  | [], _ => trivial
  | x :: K, h => ⟨h.1.lt, BlkL.lt h.2⟩
/-- what holds between the rounds of a loop over a set -/
structure RJ (W : World) (fs : List BS) (fv : Value) (K : List (Nat × Array Value × TypeId)) (D : List Nat) (w : World) : Prop where
  e : Ext W w
  t : Tab w
  hv : (Dv (slE setE) (GB W Go.Mono.G0) fs).p fv w
  bl : BlkL w K
  ds : Ds D w
theorem RJ.kp {W : World} {fs : List BS} {fv : Value} {K : List (Nat × Array Value × TypeId)} {D : List Nat} {B : Nat} {w w' : World} (h : RJ W fs fv K D w) (k : Kp B w w') (hW : W.heap.size ≤ B) (h0 : 0 < B) (hK : LtL B K) (hD : ∀ d ∈ D, d < B) : RJ W fs fv K D w' :=
  ⟨h.e.kp k hW, h.t.kp k h0, Dv.ch h.hv k.chg (fun b hb => .inr (by have := hb.1; omega)), h.bl.kp k hK, h.ds.ch k.chg fun d hd hh => by have := hh.1; have := hD d hd; omega⟩

def outTo (fs : List BS) (s : List Nat) : BS := s.foldl (fun r n => r ||| sg fs n) 0
def outM (fs : List BS) (part : BS) : BS := outTo fs (elems part) &&& ~~~part

end Go.Mono

namespace Go.Mono

/-- the parts that are left without a bag -/
def partsB (fs : List BS) (left : BS) : List BS := (splitF fs (1 + fs.length) left).getD []
def mostB (fs : List BS) (part : BS) (n : Nat) : Nat := (partsB fs (del part (n : Int))).foldl (fun m C => max m (card C)) 0
def cenStep (fs : List BS) (part : BS) (s : Int × Int) (n : Nat) : Int × Int := if s.1 < 0 ∨ (mostB fs part n : Int) < s.2 then ((n : Int), (mostB fs part n : Int)) else s
def cenTo (fs : List BS) (part : BS) (s : List Nat) : Int × Int := s.foldl (cenStep fs part) (-1, 0)
def cenB (fs : List BS) (part : BS) : Nat := (cenTo fs part (elems part)).1.toNat

def pathF (fs : List BS) (part : BS) (to : Nat) : Nat → BS → Nat → Option BS
  | 0, r, x => if x = to then some r else none
  | f + 1, r, x => if x = to then some r else
      oEl ((elems ((sg fs x &&& part) &&& ~~~r)).find? fun n => (compB fs (del part (x : Int)) n).getLsbD to) none fun n => pathF fs part to f (ins r (n : Int)) n
def pathB (fs : List BS) (part : BS) (x y : Nat) : BS := (pathF fs part y (1 + fs.length) (ins 0 (x : Int)) x).getD 0

/-- the bag of a part that is next to a bag outside -/
def endB (fs : List BS) (part : BS) (n : Nat) : Nat := (minOf (sg fs n &&& part)).getD 0
def splP (fs : List BS) (part between : BS) (c n : Nat) : Bool := between.getLsbD n && decide (card (pathB fs part c n &&& between) = 1)
def splB (fs : List BS) (part out : BS) : Nat :=
  if card out < 2 then cenB fs part
  else match (elems out).map (endB fs part) with
    | e0 :: e1 :: _ => ((elems (pathB fs part (cenB fs part) e0)).find? (splP fs part (pathB fs part e0 e1) (cenB fs part))).getD (cenB fs part)
    | _ => cenB fs part

section
variable {fs : List BS} {T : Tr} {part : BS}

/-! ### paths -/
theorem P_adj {x k i : Nat} (hx : x < T.n) (hk : k < T.n) (h : T.adj k x) (hP : T.P i x k) : i = x ∨ i = k := by
  apply Classical.byContradiction
  intro hn
  exact hP (Tr.cn.of_adj hx hk ⟨hx, fun e => hn (.inl e.symm)⟩ ⟨hk, fun e => hn (.inr e.symm)⟩ h.symm)
theorem find_one {p : Nat → Bool} {k : Nat} : ∀ {l : List Nat}, k ∈ l → p k = true → (∀ n ∈ l, p n = true → n = k) → l.find? p = some k
  | [], h, _, _ => by cases h
  | x :: l, h, hk, h1 => by
    rw [List.find?_cons]
    cases hx : p x with
    | true => rw [h1 x (by simp) hx]
    | false =>
      rcases List.mem_cons.1 h with rfl | h
      · rw [hk] at hx; cases hx
      · exact find_one h hk fun n hn => h1 n (by simp [hn])
theorem path_next (F : Fo fs T) (hin : ∀ i, part.getLsbD i = true → i < T.n) (hC : T.conn (bits part)) {x y z : Nat} {r : BS} (hx : part.getLsbD x = true) (hy : part.getLsbD y = true) (hz : part.getLsbD z = true) (hr : ∀ i, r.getLsbD i = true ↔ T.P i x z) (hP : T.P z x y) (hne : z ≠ y) :
    ∃ k, (elems ((sg fs z &&& part) &&& ~~~r)).find? (fun n => (compB fs (del part (z : Int)) n).getLsbD y) = some k ∧ part.getLsbD k = true ∧ (∀ i, (ins r (k : Int)).getLsbD i = true ↔ T.P i x k) ∧ T.P k x y ∧ T.dist k y < T.dist z y := by
  have hxn := hin x hx
  have hyn := hin y hy
  have hzn := hin z hz
  have hle := F.le
  obtain ⟨k, k1, k2⟩ := Tr.hop hC hzn hyn hz hy (Ne.symm hne)
  have hkp : part.getLsbD k = true := k2.2.2.1.1
  have hkn := k2.1
  have hV : T.cn (Tr.wo (fun i => i < T.n) z) k y := k2.mono fun i hi h => ⟨hi, h.2⟩
  have p1 : T.P k z y := Tr.hop_P hzn k1 hV
  have p2 : T.P k x y := hP.sub' p1
  have p3 : T.P z x k := (hP.split k).resolve_right fun h => h hV
  have hkz : k ≠ z := k2.2.2.1.2
  have hdel : ∀ i, (del part (z : Int)).getLsbD i = true ↔ part.getLsbD i = true ∧ i ≠ z := fun i => bit_del part (by omega)
  have hbits : (bits (del part (z : Int))) = Tr.wo (bits part) z := by funext i; exact propext (hdel i)
  have hind : ∀ i, (del part (z : Int)).getLsbD i = true → i < T.n := fun i hi => hin i ((hdel i).1 hi).1
  have hcand : ∀ n, n ∈ elems ((sg fs z &&& part) &&& ~~~r) ↔ T.adj z n ∧ part.getLsbD n = true ∧ ¬r.getLsbD n = true := fun n => by
    rw [mem_elems, bit_diff, bit_and, F.adj hzn]
    constructor
    · rintro ⟨_, ⟨⟨_, h1⟩, h2⟩, h3⟩; exact ⟨h1, h2, h3⟩
    · rintro ⟨h1, h2, h3⟩; exact ⟨bit_lt h2, ⟨⟨hin n h2, h1⟩, h2⟩, h3⟩
  have hcmp : ∀ n, T.adj z n → part.getLsbD n = true → ((compB fs (del part (z : Int)) n).getLsbD y = true ↔ T.cn (Tr.wo (bits part) z) n y) := fun n hn hp => by
    have hnd : (del part (z : Int)).getLsbD n = true := (hdel n).2 ⟨hp, fun e => (hn.ne hzn) e.symm⟩
    rw [(comp_some F hind hnd).2 y, hbits]
  refine ⟨k, find_one ((hcand k).2 ⟨k1.symm, hkp, fun h => hkz (Tr.P.meet hxn hyn hP ((hr k).1 h) p1)⟩) ((hcmp k k1.symm hkp).2 k2) (fun n hn hpn => ?_), hkp, fun i => ?_, p2, ?_⟩
  · obtain ⟨h1, h2, _⟩ := (hcand n).1 hn
    exact Tr.hop_one hzn h1.symm k1 (((hcmp n h1 h2).1 hpn).trans k2.symm)
  · rw [bit_ins r (by omega), hr]
    constructor
    · rintro (h | rfl)
      · exact p3.sub h
      · exact Tr.P.right
    · intro h
      rcases h.split z with h | h
      · exact .inl h
      · rcases P_adj hzn hkn k1 h with rfl | rfl
        · exact .inl Tr.P.right
        · exact .inr rfl
  · exact Tr.dist_lt hzn (fun u _ hu => p1.sub' hu) Tr.P.left fun h => h hV
theorem pathF_ok (F : Fo fs T) (hin : ∀ i, part.getLsbD i = true → i < T.n) (hC : T.conn (bits part)) {x y : Nat} (hx : part.getLsbD x = true) (hy : part.getLsbD y = true) : ∀ (f : Nat) (r : BS) (z : Nat), part.getLsbD z = true → (∀ i, r.getLsbD i = true ↔ T.P i x z) → T.P z x y → T.dist z y ≤ f →
    ∃ Z, pathF fs part y f r z = some Z ∧ ∀ i, Z.getLsbD i = true ↔ T.P i x y := by
  intro f
  induction f with
  | zero =>
    intro r z hz hr hP hd
    by_cases h : z = y
    · subst h; exact ⟨r, by rw [pathF, if_pos rfl], hr⟩
    · obtain ⟨k, _, _, _, _, h5⟩ := path_next F hin hC hx hy hz hr hP h
      omega
  | succ f ih =>
    intro r z hz hr hP hd
    by_cases h : z = y
    · subst h; exact ⟨r, by rw [pathF, if_pos rfl], hr⟩
    · obtain ⟨k, h1, h2, h3, h4, h5⟩ := path_next F hin hC hx hy hz hr hP h
      obtain ⟨Z, h6, h7⟩ := ih _ k h2 h3 h4 (by omega)
      exact ⟨Z, by rw [pathF, if_neg h, h1, oEl]; exact h6, h7⟩
theorem dist_le (x y : Nat) : T.dist x y ≤ T.n := by
  unfold Tr.dist
  have := List.countP_le_length (p := fun z => @decide (T.P z x y) (Classical.propDecidable _)) (l := List.range T.n)
  rwa [List.length_range] at this
theorem P_self {i x : Nat} (hx : x < T.n) : T.P i x x ↔ i = x := by
  constructor
  · intro h
    apply Classical.byContradiction
    intro hn
    exact h (Tr.cn.refl hx ⟨hx, Ne.symm hn⟩)
  · rintro rfl; exact Tr.P.left
theorem path_some (F : Fo fs T) (hin : ∀ i, part.getLsbD i = true → i < T.n) (hC : T.conn (bits part)) {x y : Nat} (hx : part.getLsbD x = true) (hy : part.getLsbD y = true) :
    pathF fs part y (1 + fs.length) (ins 0 (x : Int)) x = some (pathB fs part x y) ∧ ∀ i, (pathB fs part x y).getLsbD i = true ↔ T.P i x y := by
  have hle := F.le
  have hd := dist_le (T := T) x y
  obtain ⟨Z, h1, h2⟩ := pathF_ok F hin hC hx hy (1 + fs.length) (ins 0 (x : Int)) x hx (fun i => by
    rw [bit_ins 0 (by have := hin x hx; omega), P_self (hin x hx)]
    exact ⟨fun h => h.resolve_left (bit_zero i), .inr⟩) Tr.P.left (by have := F.len; omega)
  have : pathB fs part x y = Z := by rw [pathB, h1]; rfl
  rw [this]
  exact ⟨h1, h2⟩
theorem path_in (F : Fo fs T) (hin : ∀ i, part.getLsbD i = true → i < T.n) (hC : T.conn (bits part)) {x y i : Nat} (hx : part.getLsbD x = true) (hy : part.getLsbD y = true) (h : (pathB fs part x y).getLsbD i = true) : part.getLsbD i = true :=
  Tr.P.mem hC (hin x hx) (hin y hy) hx hy (((path_some F hin hC hx hy).2 i).1 h)

/-! ### parts -/
theorem del_in (hin : ∀ i, part.getLsbD i = true → i < T.n) (z : Int) : ∀ i, (del part z).getLsbD i = true → i < T.n := fun i h => by
  unfold del at h
  split at h
  · exact hin i ((bit_diff _ _ i).1 h).1
  · exact hin i h
theorem parts_some (F : Fo fs T) {left : BS} (hin : ∀ i, left.getLsbD i = true → i < T.n) : splitF fs (1 + fs.length) left = some (partsB fs left) ∧ (partsB fs left).length ≤ card left ∧ (∀ C ∈ partsB fs left, ∃ k, left.getLsbD k = true ∧ C = compB fs left k) ∧ ∀ k, left.getLsbD k = true → compB fs left k ∈ partsB fs left := by
  have hle := F.le
  have := card_le_n hin
  obtain ⟨l, h1, h2⟩ := splitF_ok F (1 + fs.length) left hin (by have := F.len; omega)
  have e : partsB fs left = l := by rw [partsB, h1]; rfl
  rw [e]
  exact ⟨h1, h2⟩
/-! ### the centre -/
theorem cen_inv (fs : List BS) (part : BS) : ∀ (l : List Nat) (s : Int × Int), (0 ≤ s.1 → ∃ n : Nat, s.1 = (n : Int) ∧ s.2 = (mostB fs part n : Int)) →
    (l ≠ [] ∨ 0 ≤ s.1) → ∃ n : Nat, (l.foldl (cenStep fs part) s).1 = (n : Int) ∧ (n ∈ l ∨ s.1 = (n : Int)) ∧ (l.foldl (cenStep fs part) s).2 = (mostB fs part n : Int) ∧ (∀ m ∈ l, mostB fs part n ≤ mostB fs part m) ∧ (0 ≤ s.1 → (mostB fs part n : Int) ≤ s.2)
  | [], s, h, h0 => by
    have h1 := h0.resolve_left (by simp)
    obtain ⟨n, h2, h3⟩ := h h1
    exact ⟨n, h2, .inr h2, h3, by simp, fun _ => by omega⟩
  | m :: l, s, h, _ => by
    rw [List.foldl_cons]
    by_cases hc : s.1 < 0 ∨ (mostB fs part m : Int) < s.2
    · have e : cenStep fs part s m = ((m : Int), (mostB fs part m : Int)) := if_pos hc
      obtain ⟨n, h1, h2, h3, h4, h5⟩ := cen_inv fs part l (cenStep fs part s m) (fun _ => ⟨m, by rw [e], by rw [e]⟩) (.inr (by rw [e]; exact Int.natCast_nonneg m))
      have h5' := h5 (by rw [e]; exact Int.natCast_nonneg m)
      rw [e] at h5' h2
      refine ⟨n, h1, .inl ?_, h3, fun x hx => ?_, fun h0 => ?_⟩
      · rcases h2 with h2 | h2
        · exact List.mem_cons_of_mem _ h2
        · simp only at h2
          have : n = m := by omega
          subst this; simp
      · rcases List.mem_cons.1 hx with rfl | hx
        · simp only at h5'; omega
        · exact h4 x hx
      · simp only at h5'; omega
    · have e : cenStep fs part s m = s := if_neg hc
      have h0 : 0 ≤ s.1 := by omega
      have hs : ¬(mostB fs part m : Int) < s.2 := fun h => hc (.inr h)
      rw [e]
      obtain ⟨n, h1, h2, h3, h4, h5⟩ := cen_inv fs part l s h (.inr h0)
      have := h5 h0
      refine ⟨n, h1, h2.imp (List.mem_cons_of_mem _) id, h3, fun x hx => ?_, fun _ => this⟩
      rcases List.mem_cons.1 hx with rfl | hx
      · omega
      · exact h4 x hx
theorem cen_ok {p : Nat} (hp : part.getLsbD p = true) : part.getLsbD (cenB fs part) = true ∧ (cenTo fs part (elems part)).1 = (cenB fs part : Int) ∧ ∀ m, part.getLsbD m = true → mostB fs part (cenB fs part) ≤ mostB fs part m := by
  have hpe := mem_elems.2 ⟨bit_lt hp, hp⟩
  obtain ⟨n, h1, h2, h3, h4, _⟩ := cen_inv fs part (elems part) (-1, 0) (fun h => by simp at h) (.inl (List.ne_nil_of_mem hpe))
  have e : cenB fs part = n := by
    show (List.foldl (cenStep fs part) (-1, 0) (elems part)).1.toNat = n
    rw [h1]; exact Int.toNat_natCast n
  rw [e]
  refine ⟨?_, h1, fun m hm => h4 m (mem_elems.2 ⟨bit_lt hm, hm⟩)⟩
  rcases h2 with h2 | h2
  · exact (mem_elems.1 h2).2
  · simp only at h2; omega
end
end Go.Mono

namespace Go.Mono

section
variable {fs : List BS} {T : Tr} {part : BS}

theorem outTo_bit (i : Nat) : ∀ (s : List Nat) (r : BS), (s.foldl (fun r n => r ||| sg fs n) r).getLsbD i = true ↔ r.getLsbD i = true ∨ ∃ n ∈ s, (sg fs n).getLsbD i = true
  | [], r => by simp
  | n :: s, r => by
    rw [List.foldl_cons, outTo_bit i s, bit_or]
    constructor
    · rintro ((h | h) | ⟨m, hm, h⟩)
      · exact .inl h
      · exact .inr ⟨n, by simp, h⟩
      · exact .inr ⟨m, by simp [hm], h⟩
    · rintro (h | ⟨m, hm, h⟩)
      · exact .inl (.inl h)
      · rcases List.mem_cons.1 hm with rfl | hm
        · exact .inl (.inr h)
        · exact .inr ⟨m, hm, h⟩
theorem out_bit (F : Fo fs T) (hin : ∀ i, part.getLsbD i = true → i < T.n) (i : Nat) : (outM fs part).getLsbD i = true ↔ i < T.n ∧ ¬part.getLsbD i = true ∧ ∃ j, part.getLsbD j = true ∧ T.adj j i := by
  rw [outM, bit_diff, outTo, outTo_bit]
  constructor
  · rintro ⟨h | ⟨j, hj, h⟩, h2⟩
    · exact absurd h (bit_zero i)
    · have hj' := (mem_elems.1 hj).2
      have := (F.adj (hin j hj')).1 h
      exact ⟨this.1, h2, j, hj', this.2⟩
  · rintro ⟨h1, h2, j, hj, h⟩
    exact ⟨.inr ⟨j, mem_elems.2 ⟨bit_lt hj, hj⟩, (F.adj (hin j hj)).2 ⟨h1, h⟩⟩, h2⟩
/-- the end of the part beside a bag outside -/
theorem end_ok (F : Fo fs T) (hin : ∀ i, part.getLsbD i = true → i < T.n) (hC : T.conn (bits part)) {b : Nat} (hb : (outM fs part).getLsbD b = true) :
    part.getLsbD (endB fs part b) = true ∧ T.adj (endB fs part b) b ∧ ∀ j, part.getLsbD j = true → T.adj j b → j = endB fs part b := by
  obtain ⟨hbn, hbp, j, hj, hjb⟩ := (out_bit F hin b).1 hb
  have hbit : (sg fs b &&& part).getLsbD j = true := (bit_and _ _ j).2 ⟨(F.adj hbn).2 ⟨hin j hj, hjb.symm⟩, hj⟩
  obtain ⟨k, hk, _⟩ := minOf_is hbit
  have hk2 := (bit_and _ _ k).1 (minOf_mem hk)
  have e : endB fs part b = k := by rw [endB, hk]; rfl
  rw [e]
  have hkb : T.adj k b := ((F.adj hbn).1 hk2.1).2.symm
  exact ⟨hk2.2, hkb, fun x hx hxb => hC.nb hbn hbp (hin x hx) (hin k hk2.2) hx hk2.2 hxb hkb⟩
theorem card_two {S : BS} (h : ¬card S < 2) : ∃ a b l, elems S = a :: b :: l ∧ a ≠ b ∧ S.getLsbD a = true ∧ S.getLsbD b = true := by
  rw [← card_elems] at h
  have hn : (elems S).Nodup := List.Nodup.sublist List.filter_sublist List.nodup_range
  match hl : elems S with
  | [] => rw [hl] at h; simp at h
  | [a] => rw [hl] at h; simp at h
  | a :: b :: l =>
    rw [hl] at hn
    exact ⟨a, b, l, rfl, fun e => by subst e; simp at hn, (mem_elems.1 (by rw [hl]; simp)).2, (mem_elems.1 (by rw [hl]; simp)).2⟩
/-- what is asked of the splitter -/
structure Spl (fs : List BS) (T : Tr) (part : BS) (s : Nat) : Prop where
  mem : part.getLsbD s = true
  one : card (outM fs part) < 2 → s = cenB fs part
  two : ∀ {a b l}, elems (outM fs part) = a :: b :: l → T.P s (endB fs part a) (endB fs part b) ∧ T.P s (endB fs part a) (cenB fs part) ∧ T.P s (endB fs part b) (cenB fs part)
theorem card_sub_one {S : BS} {a b : Nat} (h : card S = 1) (ha : S.getLsbD a = true) (hb : S.getLsbD b = true) : a = b := by
  rw [← card_elems] at h
  match hl : elems S with
  | [] => rw [hl] at h; simp at h
  | [x] =>
    have h1 := mem_elems.2 ⟨bit_lt ha, ha⟩
    have h2 := mem_elems.2 ⟨bit_lt hb, hb⟩
    rw [hl] at h1 h2
    simp at h1 h2
    omega
  | x :: y :: l => rw [hl] at h; simp at h
/-- the one bag of the path between two bags that the search for the splitter takes -/
theorem near_card (F : Fo fs T) (hin : ∀ i, part.getLsbD i = true → i < T.n) (hC : T.conn (bits part)) {x y c m n : Nat} (hx : part.getLsbD x = true) (hy : part.getLsbD y = true) (hc : part.getLsbD c = true)
    (h1 : T.P m x y) (h2 : T.P m x c) (h3 : T.P m y c) (hn : part.getLsbD n = true) : splP fs part (pathB fs part x y) c n = true ↔ n = m := by
  have hxn := hin x hx
  have hyn := hin y hy
  have hcn := hin c hc
  have hm : part.getLsbD m = true := Tr.P.mem hC hxn hyn hx hy h1
  have pb := fun i => (path_some F hin hC hx hy).2 i
  rw [splP, Bool.and_eq_true, decide_eq_true_eq, pb]
  constructor
  · rintro ⟨h4, h5⟩
    have hmn : T.P m n c := Tr.near hxn hyn hcn h1 h2 h3 h4
    exact card_sub_one h5 ((bit_and _ _ n).2 ⟨((path_some F hin hC hc hn).2 n).2 Tr.P.right, (pb n).2 h4⟩) ((bit_and _ _ m).2 ⟨((path_some F hin hC hc hn).2 m).2 hmn.symm, (pb m).2 h1⟩)
  · rintro rfl
    refine ⟨h1, card_one (p := n) fun i => ?_⟩
    rw [bit_and, (path_some F hin hC hc hn).2 i, pb]
    constructor
    · rintro ⟨h4, h5⟩
      have := Tr.near hxn hyn hcn h1 h2 h3 h5
      exact (Tr.P.meet hcn (hin n hn) h4 this.symm Tr.P.right).symm
    · rintro rfl
      exact ⟨Tr.P.right, h1⟩
theorem spl_ok (F : Fo fs T) (hin : ∀ i, part.getLsbD i = true → i < T.n) (hC : T.conn (bits part)) {p : Nat} (hp : part.getLsbD p = true) : Spl fs T part (splB fs part (outM fs part)) := by
  obtain ⟨hc, _, _⟩ := cen_ok (fs := fs) hp
  by_cases hcard : card (outM fs part) < 2
  · have e : splB fs part (outM fs part) = cenB fs part := by rw [splB, if_pos hcard]
    rw [e]
    refine ⟨hc, fun _ => rfl, fun {a b l} h => ?_⟩
    have := card_elems (outM fs part)
    rw [h] at this
    simp at this
    omega
  · obtain ⟨a, b, l, he, hab, ha, hb⟩ := card_two hcard
    obtain ⟨a1, a2, a3⟩ := end_ok F hin hC ha
    obtain ⟨b1, b2, b3⟩ := end_ok F hin hC hb
    obtain ⟨m, m1, m2, m3⟩ := Tr.median (hin _ a1) (hin _ b1) (hin _ hc)
    have hm : part.getLsbD m = true := Tr.P.mem hC (hin _ a1) (hin _ b1) a1 b1 m1
    have hf : (elems (pathB fs part (cenB fs part) (endB fs part a))).find? (splP fs part (pathB fs part (endB fs part a) (endB fs part b)) (cenB fs part)) = some m := by
      have hpm : (pathB fs part (cenB fs part) (endB fs part a)).getLsbD m = true := ((path_some F hin hC hc a1).2 m).2 m2.symm
      refine find_one (mem_elems.2 ⟨bit_lt hpm, hpm⟩) ((near_card F hin hC a1 b1 hc m1 m2 m3 hm).2 rfl) fun n hn hpn => ?_
      have hn' := path_in F hin hC hc a1 (mem_elems.1 hn).2
      exact (near_card F hin hC a1 b1 hc m1 m2 m3 hn').1 hpn
    have e : splB fs part (outM fs part) = m := by
      rw [splB, if_neg hcard, he]
      simp only [List.map_cons, hf, Option.getD_some]
    rw [e]
    refine ⟨hm, fun h => absurd h hcard, fun {a' b' l'} h => ?_⟩
    rw [he] at h
    cases h
    exact ⟨m1, m2, m3⟩

/-! ### what is left of a part without a bag -/
structure Sub (fs : List BS) (T : Tr) (part : BS) (s : Nat) (C : BS) : Prop where
  ne : ∃ k, C.getLsbD k = true
  sub : ∀ i, C.getLsbD i = true → part.getLsbD i = true ∧ i ≠ s
  conn : T.conn (bits C)
  clo : ∀ i j, C.getLsbD i = true → part.getLsbD j = true → j ≠ s → T.adj i j → C.getLsbD j = true
theorem parts_sub (F : Fo fs T) (hin : ∀ i, part.getLsbD i = true → i < T.n) {s : Nat} (hs : s < T.n) {C : BS} (h : C ∈ partsB fs (del part (s : Int))) : Sub fs T part s C := by
  have hle := F.le
  have hdel : ∀ i, (del part (s : Int)).getLsbD i = true ↔ part.getLsbD i = true ∧ i ≠ s := fun i => bit_del part (by omega)
  obtain ⟨k, hk, rfl⟩ := (parts_some F (del_in (part := part) hin (s : Int))).2.2.1 C h
  have hb := (comp_some F (del_in hin _) hk).2
  refine ⟨⟨k, comp_self F (del_in hin _) hk⟩, fun i hi => (hdel i).1 (comp_sub F (del_in hin _) hk i hi), ?_, fun i j hi hj hjs hij => ?_⟩
  · have := Tr.conn_comp (T := T) (A := bits (del part (s : Int))) (x := k)
    have e : (fun y => T.cn (bits (del part (s : Int))) k y) = bits (compB fs (del part (s : Int)) k) := by
      funext y
      exact propext (hb y).symm
    rwa [e] at this
  · have h1 := (hb i).1 hi
    exact (hb j).2 (h1.trans (Tr.cn.of_adj h1.2.1 (hin j hj) h1.2.2.2.1 ((hdel j).2 ⟨hj, hjs⟩) hij))
theorem sub_out (F : Fo fs T) (hin : ∀ i, part.getLsbD i = true → i < T.n) {s : Nat} {C : BS} (h : Sub fs T part s C) {i : Nat} (hi : (outM fs C).getLsbD i = true) : i = s ∨ (outM fs part).getLsbD i = true := by
  obtain ⟨h1, h2, j, hj, hji⟩ := (out_bit F (fun i hi => hin i (h.sub i hi).1) i).1 hi
  by_cases his : i = s
  · exact .inl his
  · refine .inr ((out_bit F hin i).2 ⟨h1, fun hp => h2 (h.clo j i hj hp his hji), j, (h.sub j hj).1, hji⟩)
theorem sub_end (F : Fo fs T) (hin : ∀ i, part.getLsbD i = true → i < T.n) (hC : T.conn (bits part)) {s : Nat} {C : BS} (h : Sub fs T part s C) {b : Nat} (hb : (outM fs part).getLsbD b = true) (hb' : (outM fs C).getLsbD b = true) : C.getLsbD (endB fs part b) = true := by
  obtain ⟨h1, h2, j, hj, hji⟩ := (out_bit F (fun i hi => hin i (h.sub i hi).1) b).1 hb'
  rw [← (end_ok F hin hC hb).2.2 j (h.sub j hj).1 hji]; exact hj
theorem card_union_le {S A : BS} {s : Nat} (hs : s < 1024) (h : ∀ i, S.getLsbD i = true → i = s ∨ A.getLsbD i = true) : card S ≤ card A + 1 := by
  by_cases hA : A.getLsbD s = true
  · have : card S ≤ card A := card_mono fun i hi => by
      rcases h i hi with rfl | h
      · exact hA
      · exact h
    omega
  · have hone : ∀ i, (ins 0 (s : Int)).getLsbD i = true ↔ i = s := fun i => by
      rw [bit_ins 0 hs]; exact ⟨fun h => h.resolve_left (bit_zero i), .inr⟩
    have h1 := card_add (S := A) (T := ins 0 (s : Int)) (U := A ||| ins 0 (s : Int)) (bit_or _ _) (by
      rintro i ⟨h1, h2⟩
      rw [(hone i).1 h2] at h1
      exact hA h1)
    rw [card_one hone] at h1
    rw [← h1]
    exact card_mono fun i hi => (bit_or _ _ i).2 ((h i hi).elim (fun h => .inr ((hone i).2 h)) .inl)
/-- what is left has at most two bags outside, if it is split at the splitter -/
theorem sub_two (F : Fo fs T) (hin : ∀ i, part.getLsbD i = true → i < T.n) (hC : T.conn (bits part)) (h2 : card (outM fs part) ≤ 2) {s : Nat} (S : Spl fs T part s) {C : BS} (h : Sub fs T part s C) : card (outM fs C) ≤ 2 := by
  have hle := F.le
  have hs1 : s < 1024 := by have := hin s S.mem; omega
  have hsub := fun i => sub_out F hin h (i := i)
  by_cases hc : card (outM fs part) < 2
  · have := card_union_le hs1 fun i hi => hsub i hi
    omega
  · obtain ⟨a, b, l, he, hab, ha, hb⟩ := card_two hc
    have hl : l = [] := by
      have := card_elems (outM fs part)
      rw [he] at this
      simp at this
      exact List.eq_nil_of_length_eq_zero (by omega)
    have hall : ∀ i, (outM fs part).getLsbD i = true → i = a ∨ i = b := fun i hi => by
      have := mem_elems.2 ⟨bit_lt hi, hi⟩
      rw [he, hl] at this
      simpa using this
    have hnot : ¬((outM fs C).getLsbD a = true ∧ (outM fs C).getLsbD b = true) := by
      rintro ⟨h1, h2⟩
      have c1 := sub_end F hin hC h ha h1
      have c2 := sub_end F hin hC h hb h2
      have := h.conn _ _ (hin _ (h.sub _ c1).1) (hin _ (h.sub _ c2).1) c1 c2
      refine (S.two he).1 (this.mono fun i hi hh => ⟨hi, (h.sub i hh).2⟩)
    have hone : ∀ x, (outM fs part).getLsbD x = true → ∀ i, (ins 0 (x : Int)).getLsbD i = true ↔ i = x := fun x hx i => by
      rw [bit_ins 0 (bit_lt hx)]; exact ⟨fun h => h.resolve_left (bit_zero i), .inr⟩
    by_cases hCa : (outM fs C).getLsbD a = true
    · have := card_union_le (S := outM fs C) (A := ins 0 (a : Int)) hs1 fun i hi => by
        rcases hsub i hi with h | h
        · exact .inl h
        · rcases hall i h with rfl | rfl
          · exact .inr ((hone i ha i).2 rfl)
          · exact absurd ⟨hCa, hi⟩ hnot
      rw [card_one (hone a ha)] at this
      omega
    · have := card_union_le (S := outM fs C) (A := ins 0 (b : Int)) hs1 fun i hi => by
        rcases hsub i hi with h | h
        · exact .inl h
        · rcases hall i h with rfl | rfl
          · exact absurd hi hCa
          · exact .inr ((hone i hb i).2 rfl)
      rw [card_one (hone b hb)] at this
      omega
end
end Go.Mono

namespace Go.Mono

/-- binary digits -/
def bl : Nat → Nat → Nat
  | 0, _ => 0
  | f + 1, n => if n = 0 then 0 else bl f (n / 2) + 1
/-- the recursion: the parts that it comes to, each with the index of the one above -/
def splitter (fs : List BS) (part : BS) : Nat := splB fs part (outM fs part)
def subs (fs : List BS) (part : BS) : List BS := partsB fs (del part (splitter fs part : Int))
section
variable {fs : List BS} {T : Tr}
/-- a part as the recursion meets it -/
structure Pt (fs : List BS) (T : Tr) (part : BS) : Prop where
  inn : ∀ i, part.getLsbD i = true → i < T.n
  conn : T.conn (bits part)
  ne : ∃ k, part.getLsbD k = true
  two : card (outM fs part) ≤ 2
theorem Pt.spl {part : BS} (F : Fo fs T) (h : Pt fs T part) : Spl fs T part (splitter fs part) := by
  obtain ⟨k, hk⟩ := h.ne
  exact spl_ok F h.inn h.conn hk
theorem Pt.sub {part : BS} (F : Fo fs T) (h : Pt fs T part) {C : BS} (hC : C ∈ subs fs part) : Sub fs T part (splitter fs part) C := parts_sub F h.inn (h.inn _ (h.spl F).mem) hC
theorem Pt.step {part : BS} (F : Fo fs T) (h : Pt fs T part) {C : BS} (hC : C ∈ subs fs part) : Pt fs T C ∧ card C < card part := by
  have S := h.sub F hC
  exact ⟨⟨fun i hi => h.inn i (S.sub i hi).1, S.conn, S.ne, sub_two F h.inn h.conn h.two (h.spl F) S⟩, card_lt (fun i hi => (S.sub i hi).1) (h.spl F).mem fun hh => (S.sub _ hh).2 rfl⟩
/-- node i of the list: who is above, who are below -/
structure BNd (fs : List BS) (T : Tr) (L : List (Int × BS)) (i : Nat) (up : Int) (P : BS) : Prop where
  at' : L[i]? = some (up, P)
  pt : Pt fs T P
  kid : ∀ C ∈ subs fs P, ∃ k, i < k ∧ L[k]? = some ((i : Int), C)
theorem BNd.app {i : Nat} {L M : List (Int × BS)} {up : Int} {P : BS} (h : BNd fs T L i up P) : BNd fs T (L ++ M) i up P := by
  have k1 : ∀ {k : Nat} {x : Int × BS}, L[k]? = some x → (L ++ M)[k]? = some x := fun {k x} h => by
    rw [List.getElem?_append_left (List.getElem?_eq_some_iff.1 h).1]; exact h
  exact ⟨k1 h.at', h.pt, fun C hC => by obtain ⟨k, h1, h2⟩ := h.kid C hC; exact ⟨k, h1, k1 h2⟩⟩
/-- the one above node i -/
def Ab (fs : List BS) (L : List (Int × BS)) (i : Nat) (up : Int) (P : BS) : Prop := ∃ p u Q, up = ((p : Nat) : Int) ∧ p < i ∧ L[p]? = some (u, Q) ∧ P ∈ subs fs Q
theorem Ab.app {i : Nat} {L M : List (Int × BS)} {up : Int} {P : BS} (h : Ab fs L i up P) : Ab fs (L ++ M) i up P := by
  obtain ⟨p, u, Q, h1, h2, h3, h4⟩ := h
  exact ⟨p, u, Q, h1, h2, by rw [List.getElem?_append_left (List.getElem?_eq_some_iff.1 h3).1]; exact h3, h4⟩
end
section
variable {fs : List BS} {T : Tr}
end
end Go.Mono

namespace Go.Mono
open Go Go.Proofs Go.RowKit

end Go.Mono

namespace Go.Mono
open Go Go.Proofs Go.RowKit

end Go.Mono

namespace Go.Mono
open Go Go.Proofs Go.RowKit

end Go.Mono

namespace Go.Mono
open Go Go.Proofs Go.RowKit

end Go.Mono

namespace Go.Mono
open Go Go.Proofs Go.RowKit

end Go.Mono

namespace Go.Mono
open Go Go.Proofs Go.RowKit

def belowB (n : Nat) : BS := BitVec.ofNat 1024 (2 ^ n - 1)
theorem below_bit (n i : Nat) (hi : i < 1024) : (belowB n).getLsbD i = decide (i < n) := by
  rw [belowB, BitVec.getLsbD_ofNat, Nat.testBit_two_pow_sub_one]
  simp [hi]
end Go.Mono

namespace Go.Mono
open Go Go.Proofs Go.RowKit

theorem adjL_len (t : List (Int × BS)) : (adjL t).length = t.length := by simp [adjL]
end Go.Mono

namespace Go.Mono
open Go Go.Proofs Go.RowKit

theorem below_bit' (n i : Nat) (hn : n ≤ 1024) : (belowB n).getLsbD i = true ↔ i < n := by
  by_cases hi : i < 1024
  · rw [below_bit _ _ hi, decide_eq_true_eq]
  · constructor
    · intro h; exact absurd (bit_lt h) hi
    · intro h; omega
theorem Pt.all {t : List (Int × BS)} {T : Tr} (F : Fo (adjL t) T) (h0 : 0 < t.length) : Pt (adjL t) T (belowB t.length) ∧ card (belowB t.length) ≤ t.length := by
  have hn : T.n = t.length := by rw [← F.len, adjL_len]
  have hle := F.le
  have hb : ∀ i, (belowB t.length).getLsbD i = true ↔ i < T.n := fun i => by rw [below_bit' _ _ (by omega), hn]
  have hbits : bits (belowB t.length) = fun i => i < T.n := by funext i; exact propext (hb i)
  refine ⟨⟨fun i hi => (hb i).1 hi, by rw [hbits]; exact Tr.conn_all, ⟨0, (hb 0).2 (by omega)⟩, ?_⟩, card_le_n fun i hi => by rw [← hn]; exact (hb i).1 hi⟩
  have : outM (adjL t) (belowB t.length) = 0 := set_ext' fun k => by
    rw [out_bit F (fun i hi => (hb i).1 hi)]
    constructor
    · rintro ⟨h1, h2, _⟩; exact absurd ((hb k).2 h1) h2
    · intro h; exact absurd h (bit_zero k)
  rw [this, card_zero]; omega

end Go.Mono

namespace Go.Mono

end Go.Mono

namespace Go.Mono

section
variable {fs : List BS} {T : Tr}
end
end Go.Mono

namespace Go.Mono
open Go Go.Proofs Go.RowKit

end Go.Mono

namespace Go.Mono

section
variable {t : List (Int × BS)} {T : Tr}
end
end Go.Mono

namespace Go.Mono

inductive Und (o : List (Int × BS)) : Nat → Nat → Prop
  | refl (k : Nat) : Und o k k
  | step {k p i : Nat} (h : (bg o k).1 = (p : Int)) (hu : Und o p i) : Und o k i
theorem Und.trans {o : List (Int × BS)} {k j i : Nat} (h : Und o k j) (h' : Und o j i) : Und o k i := by
  induction h with
  | refl => exact h'
  | step h _ ih => exact .step h (ih h')
section
variable {t : List (Int × BS)} {T : Tr}
end
end Go.Mono

namespace Go.Mono

section
variable {t : List (Int × BS)}
end
end Go.Mono

namespace Go.Mono

theorem elems_pair (S : BS) : (elems S).Pairwise (· < ·) := List.Pairwise.filter _ (List.pairwise_lt_range (n := 1024))
section
variable {t : List (Int × BS)} {S : BS}
end
end Go.Mono

namespace Go.Mono
open Go Go.Proofs Go.RowKit Go.Gr

theorem sorted_eq : ∀ (l m : List Int), l.Pairwise (· < ·) → m.Pairwise (· < ·) → (∀ x, x ∈ l ↔ x ∈ m) → l = m
  | [], [], _, _, _ => rfl
  | [], b :: m, _, _, h => absurd ((h b).2 (List.mem_cons_self ..)) (by simp)
  | a :: l, [], _, _, h => absurd ((h a).1 (List.mem_cons_self ..)) (by simp)
  | a :: l, b :: m, hl, hm, h => by
    obtain ⟨l1, l2⟩ := List.pairwise_cons.1 hl
    obtain ⟨m1, m2⟩ := List.pairwise_cons.1 hm
    have hab : a = b := by
      rcases List.mem_cons.1 ((h a).1 (List.mem_cons_self ..)) with h1 | h1
      · exact h1
      rcases List.mem_cons.1 ((h b).2 (List.mem_cons_self ..)) with h2 | h2
      · exact h2.symm
      have := m1 _ h1; have := l1 _ h2; omega
    subst hab
    rw [sorted_eq l m l2 m2 fun x => ?_]
    constructor
    · intro hx
      rcases List.mem_cons.1 ((h x).1 (List.mem_cons_of_mem _ hx)) with h1 | h1
      · have := l1 _ hx; omega
      · exact h1
    · intro hx
      rcases List.mem_cons.1 ((h x).2 (List.mem_cons_of_mem _ hx)) with h1 | h1
      · have := m1 _ hx; omega
      · exact h1
section
variable {g : GT} {th : List Int}
theorem mem_ids (G : Gr.Ok g) {x : Int} : x ∈ idsG g ↔ ∃ u : Nat, x = (u : Int) ∧ (vset g.1).getLsbD u = true := by
  constructor
  · intro h
    obtain ⟨y, hy, rfl⟩ := List.mem_map.1 h
    have h3 := idOk_r (G.rv y hy).1
    exact ⟨y.1.toNat, by omega, (mem_vset G).2 ⟨y, hy, by omega⟩⟩
  · rintro ⟨u, rfl, hu⟩
    obtain ⟨y, hy, h⟩ := (mem_vset G).1 hu
    exact List.mem_map.2 ⟨y, hy, h⟩
theorem mem_near (G : Gr.Ok g) {a : Nat} {x : Int} : x ∈ nearG g (a : Int) ↔ ∃ u : Nat, x = (u : Int) ∧ (nbA g (a : Int)).getLsbD u = true := by
  rw [nearG, List.mem_filter, mem_ids G, decide_eq_true_eq]
  constructor
  · rintro ⟨⟨u, rfl, hu⟩, h⟩
    exact ⟨u, rfl, (nbA_bit G).2 ((edg_at G u a).1 h).symm⟩
  · rintro ⟨u, rfl, hu⟩
    have h := (nbA_bit G).1 hu
    exact ⟨⟨u, rfl, (h.inn G).2.1⟩, (edg_at G u a).2 h.symm⟩
theorem th_bit {t : Nat} (ht : t < 1024) : (th.foldl ins 0).getLsbD t = true ↔ (t : Int) ∈ th := by
  rw [foldl_ins_bit t ht, Bool.or_eq_true, decide_eq_true_eq]
  exact ⟨fun h => h.resolve_left (bit_zero t), .inr⟩
theorem rv_via (G : Gr.Ok g) {a : Nat} {x : Int} : RV (nearG g) th (a : Int) x ↔ ∃ u : Nat, x = (u : Int) ∧ Via (nbA g) (th.foldl ins 0) a u := by
  constructor
  · intro h
    induction h with
    | one h =>
      obtain ⟨u, rfl, hu⟩ := (mem_near G).1 h
      exact ⟨u, rfl, .one hu⟩
    | step _ ht hu ih =>
      obtain ⟨t, rfl, hv⟩ := ih
      obtain ⟨u, rfl, hu2⟩ := (mem_near G).1 hu
      have htv : t < 1024 := bit_lt (((nbA_bit G).1 hu2).inn G).1
      exact ⟨u, rfl, .step hv ((th_bit htv).2 ht) hu2⟩
  · rintro ⟨u, rfl, h⟩
    induction h with
    | one h => exact .one ((mem_near G).2 ⟨_, rfl, h⟩)
    | step _ ht hu ih => exact .step ih ((th_bit (bit_lt ht)).1 ht) ((mem_near G).2 ⟨_, rfl, hu⟩)
theorem fnd_has (G : Gr.Ok g) {v : Int} : fndF g.1 v < 0 ↔ has (vset g.1) v = false := by
  constructor
  · intro h
    rw [Bool.eq_false_iff]
    intro hh
    rw [has, Bool.and_eq_true, fitsB_iff] at hh
    obtain ⟨p, hp, _⟩ := fnd_at G hh.2
    rw [Int.toNat_of_nonneg (by omega)] at hp
    omega
  · intro h
    refine Classical.byContradiction fun hn => ?_
    obtain ⟨u, rfl, hu⟩ := (mem_ids G).1 (fnd_mem hn)
    have := (has_bit _ u).2 hu
    rw [h] at this; cases this
theorem ids_sorted (G : Gr.Ok g) : (idsG g).Pairwise (· < ·) := List.pairwise_map.2 (G.sv.imp fun h => by simpa [lt1] using h)
theorem natE_sorted (S : BS) : (natE (elems S)).Pairwise (· < ·) := List.pairwise_map.2 ((elems_pair S).imp fun h => by omega)
open Classical in
/-- THE REFERENCE'S REACH IS REACHABLE'S SET -/
theorem ref_is (G : Gr.Ok g) (v : Int) : refG g th v = natE (elems (rchG g (th.foldl ins 0) v)) := by
  rw [rchG]
  by_cases h1 : has (vset g.1) v = false
  · rw [if_pos h1, refG, if_pos (.inl ((fnd_has G).2 h1)), elems_zero]; rfl
  rw [if_neg h1]
  have h1' : has (vset g.1) v = true := by simpa using h1
  have hfi : ¬fndF g.1 v < 0 := fun h => h1 ((fnd_has G).1 h)
  obtain ⟨a, rfl, ha⟩ := (mem_ids G).1 (fnd_mem hfi)
  have hal := bit_lt ha
  by_cases h2 : has (th.foldl ins 0) (a : Int) = true
  · rw [if_pos h2, refG, if_pos (.inr ((th_bit hal).1 ((has_bit _ a).1 h2))), elems_zero]; rfl
  rw [if_neg h2]
  have hat : ¬(a : Int) ∈ th := fun h => h2 ((has_bit _ a).2 ((th_bit hal).2 h))
  rw [refG, if_neg (fun h => h.elim hfi hat)]
  refine sorted_eq _ _ ((ids_sorted G).filter _) (natE_sorted _) fun x => ?_
  show _ ↔ x ∈ natE (elems (reB (nbA g) (th.foldl ins 0) (a : Int)))
  rw [List.mem_filter, decide_eq_true_eq, rv_via G, natE, List.mem_map]
  constructor
  · rintro ⟨_, h3, ⟨u, rfl, hu⟩, h5⟩
    have hul : u < 1024 := by
      cases hu with
      | one h => exact bit_lt h
      | step _ _ h => exact bit_lt h
    refine ⟨u, mem_elems.2 ⟨hul, (reB_bit hal).2 ⟨hu, fun h => h5 ((th_bit hul).1 h), fun h => h3 (by rw [h])⟩⟩, rfl⟩
  · rintro ⟨u, hu, rfl⟩
    obtain ⟨hul, hu⟩ := mem_elems.1 hu
    obtain ⟨k1, k2, k3⟩ := (reB_bit hal).1 hu
    exact ⟨(mem_ids G).2 ⟨u, rfl, k1.inn fun i j h => (((nbA_bit G).1 h).inn G).2.1⟩, by omega, ⟨u, rfl, k1⟩, fun h => k2 ((th_bit hul).2 h)⟩
/-- those of an order's set -/
def setN (S : BS) (l : List Nat) : BS := l.foldl (fun (s : BS) (v : Nat) => ins s (v : Int)) S
theorem setN_cons (S : BS) (v : Nat) (l : List Nat) : setN S (v :: l) = setN (ins S (v : Int)) l := by rw [setN, setN, List.foldl_cons]
theorem setN_bit : ∀ (l : List Nat) (S : BS), (∀ v ∈ l, v < 1024) → ∀ u, (setN S l).getLsbD u = true ↔ S.getLsbD u = true ∨ u ∈ l
  | [], S, _, u => by simp [setN]
  | v :: l, S, h, u => by
    rw [setN_cons, setN_bit l _ (fun x hx => h x (List.mem_cons_of_mem _ hx)) u, bit_ins S (h v (List.mem_cons_self ..)), List.mem_cons, or_assoc]
theorem widL_app (nb : Int → BS) (v : Nat) : ∀ (l : List Nat) (S : BS), widL nb S (l ++ [v]) = max (widL nb S l) (rn nb (setN S l) v)
  | [], S => by
    rw [List.nil_append, widL, widL, widL, setN, List.foldl_nil, Int.max_comm]
  | u :: l, S => by
    rw [List.cons_append, widL, widL_app nb v l, widL, setN_cons, Int.max_assoc]
/-- only the vertices of th count -/
theorem reB_in (G : Gr.Ok g) {TH TS : BS} (h : ∀ u, TS.getLsbD u = true ↔ TH.getLsbD u = true ∧ (vset g.1).getLsbD u = true) {a : Nat} (ha : a < 1024) : reB (nbA g) TS (a : Int) = reB (nbA g) TH (a : Int) := by
  have hin : ∀ {S : BS} {u : Nat}, Via (nbA g) S a u → (vset g.1).getLsbD u = true := fun k => k.inn fun i j h => (((nbA_bit G).1 h).inn G).2.1
  refine set_ext' fun u => ?_
  rw [reB_bit ha, reB_bit ha]
  constructor
  · rintro ⟨k1, k2, k3⟩
    exact ⟨k1.mono fun i hi => ((h i).1 hi).1, fun hh => k2 ((h u).2 ⟨hh, hin k1⟩), k3⟩
  · rintro ⟨k1, k2, k3⟩
    refine ⟨?_, fun hh => k2 ((h u).1 hh).1, k3⟩
    clear k2 k3
    induction k1 with
    | one h => exact .one h
    | step hv ht hu ih => exact .step ih ((h _).2 ⟨ht, hin hv⟩) hu
/-- the order of the law -/
def ordR (g : GT) (TH : BS) (v : Int) (k : Nat) : List Int := ((idsG g).take k).filter fun x => has TH x && decide (x ≠ v)
theorem ordR_nat (G : Gr.Ok g) {TH : BS} {v : Int} : ∃ l : List Nat, ordR g TH v (idsG g).length = natL l ∧ l.Nodup ∧ ∀ u, u ∈ l ↔ TH.getLsbD u = true ∧ (vset g.1).getLsbD u = true ∧ (u : Int) ≠ v := by
  have hm : ∀ x, x ∈ ordR g TH v (idsG g).length ↔ ∃ u : Nat, x = (u : Int) ∧ TH.getLsbD u = true ∧ (vset g.1).getLsbD u = true ∧ (u : Int) ≠ v := fun x => by
    rw [ordR, List.take_length, List.mem_filter, mem_ids G, Bool.and_eq_true, decide_eq_true_eq]
    constructor
    · rintro ⟨⟨u, rfl, hu⟩, h1, h2⟩; exact ⟨u, rfl, (has_bit _ u).1 h1, hu, h2⟩
    · rintro ⟨u, rfl, h1, hu, h2⟩; exact ⟨⟨u, rfl, hu⟩, (has_bit _ u).2 h1, h2⟩
  refine ⟨(ordR g TH v (idsG g).length).map Int.toNat, ?_, ?_, fun u => ?_⟩
  · rw [natL, List.map_map]
    refine (List.map_id _).symm.trans (List.map_congr_left fun x hx => ?_)
    obtain ⟨u, rfl, _⟩ := (hm x).1 hx
    rfl
  · have hs : (ordR g TH v (idsG g).length).Pairwise (· < ·) := by rw [ordR, List.take_length]; exact (ids_sorted G).filter _
    refine List.pairwise_map.2 (hs.imp_of_mem fun {x y} hx hy h => ?_)
    obtain ⟨u, rfl, _⟩ := (hm x).1 hx
    obtain ⟨u', rfl, _⟩ := (hm y).1 hy
    show (u : Int).toNat ≠ (u' : Int).toNat
    omega
  · rw [List.mem_map]
    constructor
    · rintro ⟨x, hx, rfl⟩
      obtain ⟨u, rfl, h⟩ := (hm x).1 hx
      exact h
    · intro h
      exact ⟨(u : Int), (hm _).2 ⟨u, rfl, h⟩, rfl⟩
/-- WHAT A VERTEX ADDS -/
theorem cost_add (G : Gr.Ok g) {TH : BS} {a : Nat} (ha : (vset g.1).getLsbD a = true) (hat : ¬TH.getLsbD a = true) :
    costG g (ordR g TH (a : Int) (idsG g).length ++ [(a : Int)]) = max (costG g (ordR g TH (a : Int) (idsG g).length)) ((card (reB (nbA g) TH (a : Int)) : Nat) : Int) := by
  obtain ⟨l, hl, hn, hm⟩ := ordR_nat G (TH := TH) (v := (a : Int))
  have hal : a ∉ l := fun h => ((hm a).1 h).2.2 rfl
  rw [hl, show natL l ++ [(a : Int)] = natL (l ++ [a]) by rw [natL, natL, List.map_append]; rfl, cost_widL G hn fun u hu => ((hm u).1 hu).2.1,
    cost_widL G (by rw [List.nodup_append]; exact ⟨hn, by simp, fun x hx y hy e => hal (by rw [List.mem_singleton] at hy; rw [← hy, ← e]; exact hx)⟩) (fun u hu => by
      rcases List.mem_append.1 hu with h | h
      · exact ((hm u).1 h).2.1
      · rw [List.mem_singleton.1 h]; exact ha), widL_app, rn, reB_in G (TH := TH) (TS := setN 0 l) (fun u => ?_) (bit_lt ha)]
  rw [setN_bit l 0 (fun v hv => bit_lt ((hm v).1 hv).2.1) u, hm u]
  constructor
  · rintro (h | ⟨h1, h2, _⟩)
    · exact absurd h (bit_zero u)
    · exact ⟨h1, h2⟩
  · rintro ⟨h1, h2⟩
    exact .inr ⟨h1, h2, fun h => hat (by have : u = a := by omega
                                         rwa [this] at h1)⟩
end
end Go.Mono

namespace Go.Mono
open Go Go.Proofs Go.RowKit Go.Gr
theorem reach23_spec {G G' : Nat → Prop} (g : GT) (th : List Int) (v0 : Int) (v tv : Value) (W : World) (h : (Dv gtE G g).p v W) (h' : (Dv (slE intE) G' th).p tv W) (hl : g.1.length ≤ 1000) (hl2 : g.2.length ≤ 1000) (hlt : th.length ≤ 1000) :
    Calls Tryz.prog 25 #[v, tv, I v0] W (Post (Dv (slE intE) Go.Mono.G0 (refG g th v0)) W) := by
  obtain ⟨p1, p2, rfl, h1, h2⟩ := Dv.gt.1 (Dv.weak (G' := Go.Mono.G0) h fun b _ hb => hb.elim)
  have hg0 : (Dv gtE Go.Mono.G0 g).p (.agg #[p1, p2]) W := Dv.gt.2 ⟨_, _, rfl, h1, h2⟩
  have hth := Dv.toB (Dv.weak (G' := Go.Mono.G0) h' fun b _ hb => hb.elim)
  have hlt2 : th.length ≤ 100000 := Nat.le_trans hlt (by decide)
  clear hlt
  have hlI : (idsG g).length = g.1.length := by simp [idsG]
  refine enter (args := [.agg #[p1, p2], tv, I v0]) (As := [E (.agg #[p1, p2]), Dv (slE intE) (GB W Go.Mono.G0) th, E (I v0)]) Tryz.func25 rfl Tryz.ntmps25 (Nat.le_of_ble_eq_true rfl) ?_ (fun a hf => ?_) (Nat.le_of_ble_eq_true rfl)
  rotate_left
  dsimp only [params, Nat.reduceAdd] at hf
  rotate_right
  · exact arg3 rfl hth rfl
  have e := Ext.rfl' W
  repeat refine seq ?_
  refine regn0 ?_
  refine tl_box hf rfl (by decide) fun a b3 w v3 hv3 e' hb3 hs3 B3 hf => ?_
  have hle3 := Nat.le_trans e.size (Nat.le_of_eq hb3.symm)
  replace e := Ext.tr e e'
  clear e'
  refine tl_as hf rfl (by decide) fun a hf => ?_
  refine tl_nil ?_
  cases hv3
  replace B3 : Blk w b3 #[p1, p2] 25 := B3
  obtain ⟨N, hN⟩ : ∃ N, N = w.heap.size := ⟨_, rfl⟩
  have l3 : b3 < N := by rw [hN]; exact B3.lt
  have hNs : N ≤ w.heap.size := Nat.le_of_eq hN
  have hWN : W.heap.size ≤ N := by rw [hN]; exact e.size
  clear hN
  replace hf := hf.keep [1, 2, 3]
  dsimp only [keep, List.filterMap, look, Nat.beq, Option.map] at hf
  have e1 := e
  repeat refine seq ?_
  refine regn 9 hf (by decide +kernel) ?_
  refine st ((ldW T25 rfl B3 rfl).eq ((rfl : _ = Value.agg #[p1, p2]))) ?_
  refine st (mv rfl) ?_
  refine st (call2 (A := E (I (fndF g.1 v0))) En28 rfl rfl (fun v u w he k1 k2 => by cases k1; cases k2; exact find_spec g _ _ w (VA.st _ _ _ _ (Ext.tr e1 he) hg0) (by omega))) ?_
  refine st (lss rfl rfl) ?_
  refine st (mv rfl) ?_
  refine sgE rfl rfl (.k 1 rfl .n) (fun hgd => mv rfl) ?_
  refine sgE rfl rfl (.k 2 rfl .n) (fun hgd => mv rfl) ?_
  refine sgE rfl rfl (.c 20 rfl (fun h => h) (.c 21 rfl (fun h => h) .n)) (fun hgd => call2 (A := E (B (decide (v0 ∈ th)))) (B := Dv (slE intE) (GB W Go.Mono.G0) th) (C := E (I v0)) En45 rfl rfl (fun v u w he k1 k2 => by cases k2; exact in_spec th v0 v w k1 hlt2)) ?_
  refine st (pkOr rfl rfl (fun h => by rw [h]; rfl)) ?_
  refine en fun a w e' hf => ?_
  replace hNs := Nat.le_trans hNs e'.size
  replace e := Ext.tr e e'
  replace B3 := B3.ext e'
  clear e'
  refine tl_nil ?_
  repeat refine seq ?_
  refine ifc hf rfl (fun hb => ?_) (fun hb => ?_)
  · have hc : fndF g.1 v0 < 0 ∨ v0 ∈ th := by simpa using hb
    repeat refine seq ?_
    refine regn0 ?_
    refine tl_as hf rfl (by decide) fun a hf => ?_
    refine tl_nil ?_
    refine wret ?_
    try simp only [Exit.then, Exit.inBlock]
    refine ret1 rfl hf rfl ?_
    intro v hv
    exact ⟨_, rfl, e, (by rw [refG, if_pos hc]; cases hv; exact Dv.nil)⟩
  have hc' : ¬(fndF g.1 v0 < 0 ∨ v0 ∈ th) := by simpa using hb
  refine wskip ?_
  try simp only [Exit.then, Exit.inBlock, ↓reduceIte]
  clear hb
  have hv0 : v0 ∈ idsG g := fnd_mem fun h => hc' (.inl h)
  have hsub : ∀ a, ∀ y ∈ nearG g a, y ∈ idsG g := fun a y hy => (List.mem_filter.1 hy).1
  replace hf := hf.keep [1, 2, 3]
  dsimp only [keep, List.filterMap, look, Nat.beq, Option.map] at hf
  repeat refine seq ?_
  refine regn 2 hf (by decide +kernel) ?_
  refine st (mv rfl) ?_
  refine st (bslF1 Tryz.underlying30 I3 rfl rfl hNs) ?_
  refine en fun a w e' hf => ?_
  replace hNs := Nat.le_trans hNs e'.size
  replace e := Ext.tr e e'
  replace B3 := B3.ext e'
  clear e'
  refine tl_as hf rfl (by decide) fun a hf => ?_
  refine tl_nil ?_
  obtain ⟨u0, HF, hf⟩ := hf.opn 7 rfl
  have Hs := fu_own HF hNs (show 1 ≤ maxLen by decide)
  clear HF
  replace hf := hf.keep [1, 2, 3, 7]
  dsimp only [keep, List.filterMap, look, Nat.beq, Option.map] at hf
  have RI : RcI (idsG g) (nearG g) th v0 [v0] 0 := RcI.zero hv0
  repeat refine seq ?_
  refine regn0 ?_
  refine tl_as hf rfl (by decide) fun a hf => ?_
  refine tl_nil ?_
  replace hf := hf.keep [1, 2, 3, 7, 8]
  dsimp only [keep, List.filterMap, look, Nat.beq, Option.map] at hf
  repeat refine seq ?_
  refine blk (loopN (fun r0 a w => ∃ (k : Nat) (sn : List Int) (u : Value), r0 = g.1.length - k ∧ k ≤ g.1.length ∧ Fr 115 a w [(1, Dv (slE intE) (GB W Go.Mono.G0) th), (2, E (I v0)), (3, E (ptr b3)), (7, E u), (8, E (I k))] ∧ Ext W w ∧ Blk w b3 #[p1, p2] 25 ∧ OwR intE 3 N Go.Mono.G0 w sn u ∧ RcI (idsG g) (nearG g) th v0 sn k) g.1.length ⟨0, [v0],  u0, rfl, by omega, hf, e, ⟨B3, Hs, RI⟩⟩ ?_)
  clear hf e; try clear B3; try clear Hs; try clear RI
  rintro r0 a w ⟨k, sn, u, rfl, hk, hf, e, B3, Hs, RI⟩
  repeat refine seq ?_
  refine regn 4 hf (by decide +kernel) ?_
  refine st (mv rfl) ?_
  refine st (mv rfl) ?_
  refine st (lenD Tryz.underlying30 (isE rfl Hs.sl)) ?_
  refine st (lss rfl rfl) ?_
  refine en fun a w e' hf => ?_
  replace Hs := Hs.ext e'
  replace e := Ext.tr e e'
  replace B3 := B3.ext e'
  clear e'
  refine tl_nil ?_
  repeat refine seq ?_
  refine ifc hf rfl (fun hc => wskip ?_) (fun hc => wexit ?_)
  rotate_left
  rotate_left
  · have hle := RI.len
    have hks : k < sn.length := by have := of_decide_eq_true hc; omega
    have hx : sn[k]? = some (gi sn k) := gi_get hks
    obtain ⟨x, hxe⟩ : ∃ x, x = gi sn k := ⟨_, rfl⟩
    rw [← hxe] at hx
    have hlt : k < g.1.length := by have := of_decide_eq_true hc; (try dsimp only at this); omega
    clear hc
    replace hf := hf.keep [1, 2, 3, 7, 8]
    dsimp only [keep, List.filterMap, look, Nat.beq, Option.map] at hf
    repeat refine seq ?_
    refine blk ?_
    repeat refine seq ?_
    refine regn 15 hf (by decide +kernel) ?_
    refine st (mv rfl) ?_
    refine st (mv rfl) ?_
    refine st (idxD Tryz.underlying30 S3 (isE rfl Hs.sl) rfl (by omega) (hx)) ?_
    refine st (ldI T3 (isR rfl)) ?_
    refine st (mv rfl) ?_
    refine st (neq rfl rfl) ?_
    refine st (mv rfl) ?_
    refine sgE rfl rfl (.k 1 rfl .n) (fun hgd => mv rfl) ?_
    refine sgE rfl rfl (.k 7 rfl .n) (fun hgd => mv rfl) ?_
    refine sgE rfl rfl (.k 8 rfl .n) (fun hgd => mv rfl) ?_
    refine sgE rfl rfl (.c 40 rfl (fun h => h) (.c 41 rfl (fun h => h) .n)) (fun hgd => idxD Tryz.underlying30 S3 (isE rfl Hs.sl) rfl rfl (hx)) ?_
    refine sgE rfl rfl (.c 42 rfl (fun h => h) .n) (fun hgd => ldI T3 (isR rfl)) ?_
    refine sgE rfl rfl (.c 39 rfl (fun h => h) (.c 43 rfl (fun h => h) .n)) (fun hgd => call2 (A := E (B (decide (x ∈ th)))) (B := Dv (slE intE) (GB W Go.Mono.G0) th) (C := E (I x)) En45 rfl rfl (fun v u w he k1 k2 => by cases k2; exact in_spec th x v w k1 hlt2)) ?_
    refine sgE rfl rfl (.c 44 rfl (fun h => h) .n) (fun hgd => notp rfl) ?_
    refine st (pkAnd rfl rfl (fun h => by rw [h]; rfl)) ?_
    refine en fun a w e' hf => ?_
    replace Hs := Hs.ext e'
    replace e := Ext.tr e e'
    replace B3 := B3.ext e'
    clear e'
    refine tl_nil ?_
    repeat refine seq ?_
    refine ifc hf rfl (fun hb => ?_) (fun hb => ?_)
    · have hn : ¬(x = v0 ∨ x ∈ th) := by simpa using hb
      refine wexit ?_
      try simp only [Exit.then, Exit.inBlock, ↓reduceIte]
      repeat refine seq ?_
      refine regn 2 hf (by decide +kernel) ?_
      refine st (mv rfl) ?_
      refine st ((add rfl rfl (by omega)).eq (congrArg (Value.int .i64) (show (k : Int) + 1 = ((k + 1 : Nat) : Int) from rfl))) ?_
      refine en fun a w e' hf => ?_
      replace Hs := Hs.ext e'
      replace e := Ext.tr e e'
      replace B3 := B3.ext e'
      clear e'
      refine tl_as hf rfl (by decide) fun a hf => ?_
      refine tl_nil ?_
      replace hf := hf.keep [1, 2, 3, 7, 8]
      dsimp only [keep, List.filterMap, look, Nat.beq, Option.map] at hf
      refine ⟨_, ?_, k + 1, sn, _, rfl, by omega, hf, e, ?_⟩
      · omega
      exact ⟨B3, Hs, RI.skip hx hn⟩
    · have hn : x = v0 ∨ x ∈ th := by
        by_cases h : x = v0
        · exact .inl h
        · right; simpa [h] using hb
      refine wskip ?_
      try simp only [Exit.then, Exit.inBlock, ↓reduceIte]
      clear hb
      obtain ⟨N1, hN1⟩ : ∃ N1, N1 = w.heap.size := ⟨_, rfl⟩
      have hlu : ∀ b, u.ownBlock = some b → b < N1 := fun b hb => by rw [hN1]; exact (Hs.lt hb).2
      have hN1s : N1 ≤ w.heap.size := Nat.le_of_eq hN1
      clear hN1
      replace hf := hf.keep [1, 2, 3, 7, 8]
      dsimp only [keep, List.filterMap, look, Nat.beq, Option.map] at hf
      have e8 := e
      repeat refine seq ?_
      refine reg 11 Mix.mix hf (by decide +kernel) ?_
      refine st ((ldW T25 rfl B3 rfl).eq ((rfl : _ = Value.agg #[p1, p2]))) ?_
      refine st (mv rfl) ?_
      refine st (mv rfl) ?_
      refine st (idxD Tryz.underlying30 S3 (isE rfl Hs.sl) rfl (by omega) (hx)) ?_
      refine st (ldI T3 (isR rfl)) ?_
      refine st (call2 (A := Tup [OwA intE 3 N1 Go.Mono.G0 (nearG g x), Dv (slE intE) Go.Mono.G0 (onTo g x g.2.length)]) En46 rfl rfl (fun v u w he k1 k2 => by cases k1; cases k2; exact near05_spec g x _ w (VA.st _ _ _ _ (Ext.tr e8 he) hg0) (by omega) (by omega) (Nat.le_trans hN1s he.size))) ?_
      refine st (mv rfl) ?_
      refine st (ext_ rfl rfl) ?_
      refine st (ext_ rfl rfl) ?_
      refine st (asg rfl) ?_
      refine st (asg rfl) ?_
      refine en fun a w e' hf => ?_
      replace Hs := Hs.ext e'
      replace e := Ext.tr e e'
      replace B3 := B3.ext e'
      clear e'
      refine tl_nil ?_
      obtain ⟨nv, Hr, hf⟩ := hf.opn 9 rfl
      replace Hr : OwR intE 3 N1 Go.Mono.G0 w (nearG g x) nv := Hr
      have hst := RI.step hsub hx hn
      have hal : ∀ j, (addL sn ((nearG g x).take j)).length ≤ 1000 := fun j => Nat.le_trans (nd_len _ (idsG g) (addL_nd _ _ RI.nd) fun y hy => ((mem_addL _ _).1 hy).elim (RI.sub y) fun h => hsub x y (List.mem_of_mem_take h)) (by omega)
      obtain ⟨nr, hnr⟩ : ∃ nr, nr = nearG g x := ⟨_, rfl⟩
      have hnl : nr.length ≤ 1000 := by rw [hnr]; exact Nat.le_trans (List.length_filter_le _ _) (by omega)
      rw [← hnr] at Hr hst hal
      have hne : ∀ b, nv.ownBlock = some b → u.ownBlock ≠ some b := fun b h1 h2 => by have := hlu b h2; have := (Hr.lt h1).1; omega
      obtain ⟨N2, hN2⟩ : ∃ N2, N2 = w.heap.size := ⟨_, rfl⟩
      have hlr : ∀ b, nv.ownBlock = some b → b < N2 := fun b hb => by rw [hN2]; exact (Hr.lt hb).2
      have hN2s : N2 ≤ w.heap.size := Nat.le_of_eq hN2
      clear hN2 hlu hN1s e8
      replace hf := hf.keep [1, 2, 3, 7, 8, 9]
      dsimp only [keep, List.filterMap, look, Nat.beq, Option.map] at hf
      repeat refine seq ?_
      refine regn0 ?_
      refine tl_as hf rfl (by decide) fun a hf => ?_
      refine tl_nil ?_
      replace hf := hf.keep [1, 2, 3, 7, 8, 9, 11]
      dsimp only [keep, List.filterMap, look, Nat.beq, Option.map] at hf
      repeat refine seq ?_
      refine blk (loopN (fun r0 a w => ∃ (j : Nat) (u2 : Value), r0 = nr.length - j ∧ j ≤ nr.length ∧ Fr 115 a w [(1, Dv (slE intE) (GB W Go.Mono.G0) th), (2, E (I v0)), (3, E (ptr b3)), (7, E u2), (8, E (I k)), (9, E nv), (11, E (I j))] ∧ Ext W w ∧ Blk w b3 #[p1, p2] 25 ∧ OwR intE 3 N Go.Mono.G0 w (addL sn (nr.take j)) u2 ∧ OwR intE 3 N1 Go.Mono.G0 w nr nv ∧ (∀ b, nv.ownBlock = some b → u2.ownBlock ≠ some b) ∧ N2 ≤ w.heap.size) nr.length ⟨0, u, rfl, by omega, hf, e, ⟨B3, Hs, Hr, hne, hN2s⟩⟩ ?_)
      clear hf e; try clear B3; try clear Hs; try clear Hr; try clear hne; try clear hN2s
      rintro r0 a w ⟨j, u2, rfl, hj, hf, e, B3, Hs, Hr, hne, hN2s⟩
      repeat refine seq ?_
      refine regn 4 hf (by decide +kernel) ?_
      refine st (mv rfl) ?_
      refine st (mv rfl) ?_
      refine st (lenD Tryz.underlying30 (isE rfl Hr.sl)) ?_
      refine st (lss rfl rfl) ?_
      refine en fun a w e' hf => ?_
      replace Hs := Hs.ext e'
      replace Hr := Hr.ext e'
      replace hN2s := Nat.le_trans hN2s e'.size
      replace e := Ext.tr e e'
      replace B3 := B3.ext e'
      clear e'
      refine tl_nil ?_
      repeat refine seq ?_
      refine ifc hf rfl (fun hc => wskip ?_) (fun hc => wexit ?_)
      rotate_left
      rotate_left
      · have hltj : j < nr.length := by have := of_decide_eq_true hc; (try dsimp only at this); omega
        clear hc
        replace hf := hf.keep [1, 2, 3, 7, 8, 9, 11]
        dsimp only [keep, List.filterMap, look, Nat.beq, Option.map] at hf
        repeat refine seq ?_
        refine blk ?_
        have hy := gi_get hltj
        generalize gi nr j = y at hy
        have hsc := addL_succ (s := sn) hy
        have hlj := hal j
        rw [addN] at hsc
        obtain ⟨sj, hsj⟩ : ∃ sj, sj = addL sn (nr.take j) := ⟨_, rfl⟩
        rw [← hsj] at hsc hlj Hs
        repeat refine seq ?_
        refine regn 7 hf (by decide +kernel) ?_
        refine st (mv rfl) ?_
        refine st (mv rfl) ?_
        refine st (mv rfl) ?_
        refine st (idxD Tryz.underlying30 S3 (isE rfl Hr.sl) rfl (by omega) (hy)) ?_
        refine st (ldI T3 (isR rfl)) ?_
        refine st (call2 (A := E (B (decide (y ∈ sj)))) (B := E u2) (C := E (I y)) En45 rfl rfl (fun v u w he k1 k2 => by cases k1; cases k2; exact in_spec sj y _ w (VA.st _ _ _ _ he Hs.sl) (by omega))) ?_
        refine st (notp rfl) ?_
        refine en fun a w e' hf => ?_
        replace Hs := Hs.ext e'
        replace Hr := Hr.ext e'
        replace hN2s := Nat.le_trans hN2s e'.size
        replace e := Ext.tr e e'
        replace B3 := B3.ext e'
        clear e'
        refine tl_nil ?_
        repeat refine seq ?_
        refine ifc hf rfl (fun hb => ?_) (fun hb => ?_)
        · have hny : ¬y ∈ sj := by simpa using hb
          rw [if_neg hny] at hsc
          replace hf := hf.keep [1, 2, 3, 7, 8, 9, 11]
          dsimp only [keep, List.filterMap, look, Nat.beq, Option.map] at hf
          haveI r1 : InR (fun b => u2.ownBlock = some b) u2.ownBlock := ⟨fun b hb => hb⟩
          repeat refine seq ?_
          refine regn 6 hf (by decide +kernel) ?_
          refine st (mv rfl) ?_
          refine st (mv rfl) ?_
          refine st (mv rfl) ?_
          refine st (idxD Tryz.underlying30 S3 (isE rfl (Hr.slN (N := fun b => u2.ownBlock = some b) fun b hb hh => hne b hb hh)) rfl (by omega) (hy)) ?_
          refine st (ldI T3 (isR rfl)) ?_
          refine st (bsl1 Tryz.underlying30 I3 rfl (by decide) rfl Hs.avs (isI rfl)) ?_
          refine en fun a w e' hf => ?_
          replace B3 := B3.ext e'
          replace Hr := Hr.ext e'
          replace hne := hne
          replace hN2s := Nat.le_trans hN2s e'.size
          replace Hs := Hs.ext e'
          replace e := Ext.tr e e'
          clear e'
          haveI hin : ∀ G0, InR (GB W G0) _ := OwR.inGB (W := W) Hs hWN
          refine tl_app Tryz.underlying30 I3 rfl rfl hf (by decide) rfl Hs (isR rfl) (by simp only [List.length_singleton]; omega) (by simp only [List.length_singleton, maxLen]; omega) fun a v w hg hat Hn hf => ?_
          replace e := e.gro hg (Hs.row (W := W) hWN)
          have hrow := Hs.row (W := W) hWN
          replace B3 := B3.gro hg (Hs.neLt l3)
          replace Hr := Hr.groE hg hne
          replace hne := fun b hb => own_ne hat (hne b hb) (Nat.lt_of_lt_of_le (hlr b hb) hN2s)
          replace hN2s := Nat.le_trans hN2s hg.size
          replace Hs := Hn
          clear hrow
          replace Hs := Hn; clear Hn hg hat hin
          refine tl_as hf rfl (by decide) fun a hf => ?_
          refine tl_nil ?_
          rw [← hsc] at Hs
          try simp only [Exit.then, Exit.inBlock, ↓reduceIte]
          repeat refine seq ?_
          refine regn 2 hf (by decide +kernel) ?_
          refine st (mv rfl) ?_
          refine st ((add rfl rfl (by omega)).eq (congrArg (Value.int .i64) (show (j : Int) + 1 = ((j + 1 : Nat) : Int) from rfl))) ?_
          refine en fun a w e' hf => ?_
          replace B3 := B3.ext e'
          replace Hr := Hr.ext e'
          replace hne := hne
          replace hN2s := Nat.le_trans hN2s e'.size
          replace Hs := Hs.ext e'
          replace e := Ext.tr e e'
          clear e'
          refine tl_as hf rfl (by decide) fun a hf => ?_
          refine tl_nil ?_
          replace hf := hf.keep [1, 2, 3, 7, 8, 9, 11]
          dsimp only [keep, List.filterMap, look, Nat.beq, Option.map] at hf
          refine ⟨_, ?_, j + 1, _, rfl, by omega, hf, e, ?_⟩
          · omega
          exact ⟨B3, Hs, Hr, hne, hN2s⟩
        · have hny : y ∈ sj := by simpa using hb
          rw [if_pos hny] at hsc
          rw [← hsc] at Hs
          refine wskip ?_
          try simp only [Exit.then, Exit.inBlock, ↓reduceIte]
          try simp only [Exit.then, Exit.inBlock, ↓reduceIte]
          repeat refine seq ?_
          refine regn 2 hf (by decide +kernel) ?_
          refine st (mv rfl) ?_
          refine st ((add rfl rfl (by omega)).eq (congrArg (Value.int .i64) (show (j : Int) + 1 = ((j + 1 : Nat) : Int) from rfl))) ?_
          refine en fun a w e' hf => ?_
          replace B3 := B3.ext e'
          replace Hr := Hr.ext e'
          replace hne := hne
          replace hN2s := Nat.le_trans hN2s e'.size
          replace Hs := Hs.ext e'
          replace e := Ext.tr e e'
          clear e'
          refine tl_as hf rfl (by decide) fun a hf => ?_
          refine tl_nil ?_
          replace hf := hf.keep [1, 2, 3, 7, 8, 9, 11]
          dsimp only [keep, List.filterMap, look, Nat.beq, Option.map] at hf
          refine ⟨_, ?_, j + 1, _, rfl, by omega, hf, e, ?_⟩
          · omega
          exact ⟨B3, Hs, Hr, hne, hN2s⟩
      · obtain rfl : j = nr.length := by have := of_decide_eq_false hc; (try dsimp only at this); omega
        clear hc
        simp only [Exit.then, Exit.inBlock, ↓reduceIte]
        rw [List.take_length] at Hs
        replace hf := hf.keep [1, 2, 3, 7, 8]
        dsimp only [keep, List.filterMap, look, Nat.beq, Option.map] at hf
        try simp only [Exit.then, Exit.inBlock, ↓reduceIte]
        repeat refine seq ?_
        refine regn 2 hf (by decide +kernel) ?_
        refine st (mv rfl) ?_
        refine st ((add rfl rfl (by omega)).eq (congrArg (Value.int .i64) (show (k : Int) + 1 = ((k + 1 : Nat) : Int) from rfl))) ?_
        refine en fun a w e' hf => ?_
        replace Hs := Hs.ext e'
        replace e := Ext.tr e e'
        replace B3 := B3.ext e'
        clear e'
        refine tl_as hf rfl (by decide) fun a hf => ?_
        refine tl_nil ?_
        replace hf := hf.keep [1, 2, 3, 7, 8]
        dsimp only [keep, List.filterMap, look, Nat.beq, Option.map] at hf
        refine ⟨_, ?_, k + 1, addL sn nr, _, rfl, by omega, hf, e, ?_⟩
        · omega
        exact ⟨B3, Hs, hst⟩
  · have hks : ¬k < sn.length := by have := of_decide_eq_false hc; omega
    clear hc
    simp only [Exit.then, Exit.inBlock, ↓reduceIte]
    have hmem : ∀ x, x ∈ sn ↔ x = v0 ∨ RV (nearG g) th v0 x := fun x => RI.done (by omega)
    have hle := RI.len
    have hfin : ((idsG g).filter fun x => (decide (x ≠ v0) && decide (x ∈ sn)) && !decide (x ∈ th)) = refG g th v0 := by
      rw [refG, if_neg hc']
      refine List.filter_congr fun x _ => ?_
      rw [Bool.eq_iff_iff]
      simp only [Bool.and_eq_true, decide_eq_true_eq, Bool.not_eq_true', decide_eq_false_iff_not, hmem]
      constructor
      · rintro ⟨⟨a, b⟩, c⟩; exact ⟨a, b.resolve_left a, c⟩
      · rintro ⟨a, b, c⟩; exact ⟨⟨a, .inr b⟩, c⟩
    clear hmem RI
    replace hf := hf.keep [1, 2, 3, 7]
    dsimp only [keep, List.filterMap, look, Nat.beq, Option.map] at hf
    have e14 := e
    obtain ⟨N3, hN3⟩ : ∃ N3, N3 = w.heap.size := ⟨_, rfl⟩
    have hN3s : N3 ≤ w.heap.size := Nat.le_of_eq hN3
    clear hN3
    repeat refine seq ?_
    refine regn 2 hf (by decide +kernel) ?_
    refine st ((ldW T25 rfl B3 rfl).eq ((rfl : _ = Value.agg #[p1, p2]))) ?_
    refine st (call1 (A := OwA intE 3 N3 Go.Mono.G0 (idsG g)) En13 rfl (fun v w he k => by cases k; exact (ids_spec g _ w (VA.st _ _ _ _ (Ext.tr e14 he) hg0) (by omega)).mono fun en w' ⟨u, k1, k2, k3⟩ => ⟨u, k1, k2, OwR.low k3 (Nat.le_trans hN3s he.size) fun b hb => hb.elim⟩)) ?_
    refine en fun a w e' hf => ?_
    replace Hs := Hs.ext e'
    replace e := Ext.tr e e'
    replace B3 := B3.ext e'
    clear e'
    refine tl_as hf rfl (by decide) fun a hf => ?_
    refine tl_nil ?_
    obtain ⟨iv, Hi, hf⟩ := hf.opn 12 rfl
    replace Hi : OwR intE 3 N3 Go.Mono.G0 w (idsG g) iv := Hi
    obtain ⟨N4, hN4⟩ : ∃ N4, N4 = w.heap.size := ⟨_, rfl⟩
    have hN4s : N4 ≤ w.heap.size := Nat.le_of_eq hN4
    have hWN4 : W.heap.size ≤ N4 := by rw [hN4]; exact e.size
    have HI : (Dv (slE intE) (fun b => N4 ≤ b) (idsG g)).p iv w := Hi.slN fun b hb hh => by have := (Hi.lt hb).2; omega
    have HS : (Dv (slE intE) (fun b => N4 ≤ b) sn).p u w := Hs.slN fun b hb hh => by have := (Hs.lt hb).2; omega
    clear Hi Hs hN4 hN3s e14 B3
    replace hf := hf.keep [1, 2, 7, 12]
    dsimp only [keep, List.filterMap, look, Nat.beq, Option.map] at hf
    repeat refine seq ?_
    refine regn0 ?_
    refine tl_as hf rfl (by decide) fun a hf => ?_
    refine tl_nil ?_
    repeat refine seq ?_
    refine regn0 ?_
    refine tl_as hf rfl (by decide) fun a hf => ?_
    refine tl_nil ?_
    replace hf := hf.keep [1, 2, 7, 12, 13, 14]
    dsimp only [keep, List.filterMap, look, Nat.beq, Option.map] at hf
    repeat refine seq ?_
    refine blk (loopN (fun r0 a w => ∃ (i : Nat) (uo : Value), r0 = (idsG g).length - i ∧ i ≤ (idsG g).length ∧ Fr 115 a w [(1, Dv (slE intE) (GB W Go.Mono.G0) th), (2, E (I v0)), (7, E u), (12, E iv), (13, E uo), (14, E (I i))] ∧ Ext W w ∧ OwR intE 3 N4 Go.Mono.G0 w (((idsG g).take i).filter fun x => (decide (x ≠ v0) && decide (x ∈ sn)) && !decide (x ∈ th)) uo ∧ (Dv (slE intE) (fun b => N4 ≤ b) (idsG g)).p iv w ∧ (Dv (slE intE) (fun b => N4 ≤ b) sn).p u w) (idsG g).length ⟨0, .slice none 0 0, rfl, by omega, hf, e, ⟨OwR.nil intE _ hN4s fun b hb => hb.elim, HI, HS⟩⟩ ?_)
    clear hf e; try clear Ho; try clear HI; try clear HS
    rintro r0 a w ⟨i, uo, rfl, hi, hf, e, Ho, HI, HS⟩
    repeat refine seq ?_
    refine regn 4 hf (by decide +kernel) ?_
    refine st (mv rfl) ?_
    refine st (mv rfl) ?_
    refine st (lenD Tryz.underlying30 (isE rfl HI)) ?_
    refine st (lss rfl rfl) ?_
    refine en fun a w e' hf => ?_
    replace HI := VA.st _ _ _ _ e' HI
    replace HS := VA.st _ _ _ _ e' HS
    replace e := Ext.tr e e'
    replace Ho := Ho.ext e'
    clear e'
    refine tl_nil ?_
    repeat refine seq ?_
    refine ifc hf rfl (fun hc => wskip ?_) (fun hc => wexit ?_)
    rotate_left
    rotate_left
    · have hlti : i < (idsG g).length := by have := of_decide_eq_true hc; (try dsimp only at this); omega
      clear hc
      replace hf := hf.keep [1, 2, 7, 12, 13, 14]
      dsimp only [keep, List.filterMap, look, Nat.beq, Option.map] at hf
      repeat refine seq ?_
      refine blk ?_
      have hx := gi_get hlti
      generalize gi (idsG g) i = x at hx
      have hsc : ((idsG g).take (i + 1)).filter (fun x => (decide (x ≠ v0) && decide (x ∈ sn)) && !decide (x ∈ th)) = ((idsG g).take i).filter (fun x => (decide (x ≠ v0) && decide (x ∈ sn)) && !decide (x ∈ th)) ++ if ((decide (x ≠ v0) && decide (x ∈ sn)) && !decide (x ∈ th)) = true then [x] else [] := by
        rw [take_succ_get hx, List.filter_append, List.filter_cons, List.filter_nil]
      have hlo := List.length_filter_le (fun x => (decide (x ≠ v0) && decide (x ∈ sn)) && !decide (x ∈ th)) ((idsG g).take i)
      have hlt' := List.length_take_le i (idsG g)
      obtain ⟨ol, hol⟩ : ∃ ol, ol = ((idsG g).take i).filter (fun x => (decide (x ≠ v0) && decide (x ∈ sn)) && !decide (x ∈ th)) := ⟨_, rfl⟩
      rw [← hol] at hsc hlo Ho
      repeat refine seq ?_
      refine regn 23 hf (by decide +kernel) ?_
      refine st (mv rfl) ?_
      refine st (mv rfl) ?_
      refine st (idxD Tryz.underlying30 S3 (isE rfl HI) rfl (by omega) (hx)) ?_
      refine st (ldI T3 (isR rfl)) ?_
      refine st (mv rfl) ?_
      refine st (neq rfl rfl) ?_
      refine st (mv rfl) ?_
      refine sgE rfl rfl (.k 7 rfl .n) (fun hgd => mv rfl) ?_
      refine sgE rfl rfl (.k 12 rfl .n) (fun hgd => mv rfl) ?_
      refine sgE rfl rfl (.k 14 rfl .n) (fun hgd => mv rfl) ?_
      refine sgE rfl rfl (.c 92 rfl (fun h => h) (.c 93 rfl (fun h => h) .n)) (fun hgd => idxD Tryz.underlying30 S3 (isE rfl HI) rfl rfl (hx)) ?_
      refine sgE rfl rfl (.c 94 rfl (fun h => h) .n) (fun hgd => ldI T3 (isR rfl)) ?_
      refine sgE rfl rfl (.c 91 rfl (fun h => h) (.c 95 rfl (fun h => h) .n)) (fun hgd => call2 (A := E (B (decide (x ∈ sn)))) (B := E u) (C := E (I x)) En45 rfl rfl (fun v u w he k1 k2 => by cases k1; cases k2; exact in_spec sn x _ w (VA.st _ _ _ _ he HS) (by omega))) ?_
      refine st (pkAnd rfl rfl (fun h => by rw [h]; rfl)) ?_
      refine st (mv rfl) ?_
      refine sgE rfl rfl (.k 1 rfl .n) (fun hgd => mv rfl) ?_
      refine sgE rfl rfl (.k 12 rfl .n) (fun hgd => mv rfl) ?_
      refine sgE rfl rfl (.k 14 rfl .n) (fun hgd => mv rfl) ?_
      refine sgE rfl rfl (.c 100 rfl (fun h => h) (.c 101 rfl (fun h => h) .n)) (fun hgd => idxD Tryz.underlying30 S3 (isE rfl HI) rfl rfl (hx)) ?_
      refine sgE rfl rfl (.c 102 rfl (fun h => h) .n) (fun hgd => ldI T3 (isR rfl)) ?_
      refine sgE rfl rfl (.c 99 rfl (fun h => h) (.c 103 rfl (fun h => h) .n)) (fun hgd => call2 (A := E (B (decide (x ∈ th)))) (B := Dv (slE intE) (GB W Go.Mono.G0) th) (C := E (I x)) En45 rfl rfl (fun v u w he k1 k2 => by cases k2; exact in_spec th x v w k1 hlt2)) ?_
      refine sgE rfl rfl (.c 104 rfl (fun h => h) .n) (fun hgd => notp rfl) ?_
      refine st (pkAnd rfl rfl (fun h => by rw [h]; rfl)) ?_
      refine en fun a w e' hf => ?_
      replace HI := VA.st _ _ _ _ e' HI
      replace HS := VA.st _ _ _ _ e' HS
      replace e := Ext.tr e e'
      replace Ho := Ho.ext e'
      clear e'
      refine tl_nil ?_
      repeat refine seq ?_
      refine ifc hf rfl (fun hb => ?_) (fun hb => ?_)
      · have hP : ((decide (x ≠ v0) && decide (x ∈ sn)) && !decide (x ∈ th)) = true := by simpa using hb
        rw [if_pos hP] at hsc
        replace hf := hf.keep [1, 2, 7, 12, 13, 14]
        dsimp only [keep, List.filterMap, look, Nat.beq, Option.map] at hf
        haveI r5 : InR (fun b => N4 ≤ b) uo.ownBlock := ⟨fun b hb => (Ho.lt hb).1⟩
        repeat refine seq ?_
        refine regn 6 hf (by decide +kernel) ?_
        refine st (mv rfl) ?_
        refine st (mv rfl) ?_
        refine st (mv rfl) ?_
        refine st (idxD Tryz.underlying30 S3 (isE rfl HI) rfl (by omega) (hx)) ?_
        refine st (ldI T3 (isR rfl)) ?_
        refine st (bsl1 Tryz.underlying30 I3 rfl (by decide) rfl Ho.avs (isI rfl)) ?_
        refine en fun a w e' hf => ?_
        replace HI := VA.st _ _ _ _ e' HI
        replace HS := VA.st _ _ _ _ e' HS
        replace Ho := Ho.ext e'
        replace e := Ext.tr e e'
        clear e'
        haveI hin : ∀ G0, InR (GB W G0) _ := OwR.inGB (W := W) Ho hWN4
        refine tl_app Tryz.underlying30 I3 rfl rfl hf (by decide) rfl Ho (isR rfl) (by simp only [List.length_singleton]; omega) (by simp only [List.length_singleton, maxLen]; omega) fun a v w hg hat Hn hf => ?_
        replace e := e.gro hg (Ho.row (W := W) hWN4)
        have hrow := Ho.row (W := W) hWN4
        replace HI := Dv.gro HI hg (fun b hb => (Ho.lt hb).1)
        replace HS := Dv.gro HS hg (fun b hb => (Ho.lt hb).1)
        replace Ho := Hn
        clear hrow
        replace Ho := Hn; clear Hn hg hat hin
        refine tl_as hf rfl (by decide) fun a hf => ?_
        refine tl_nil ?_
        rw [← hsc] at Ho
        try simp only [Exit.then, Exit.inBlock, ↓reduceIte]
        repeat refine seq ?_
        refine regn 2 hf (by decide +kernel) ?_
        refine st (mv rfl) ?_
        refine st ((add rfl rfl (by omega)).eq (congrArg (Value.int .i64) (show (i : Int) + 1 = ((i + 1 : Nat) : Int) from rfl))) ?_
        refine en fun a w e' hf => ?_
        replace HI := VA.st _ _ _ _ e' HI
        replace HS := VA.st _ _ _ _ e' HS
        replace Ho := Ho.ext e'
        replace e := Ext.tr e e'
        clear e'
        refine tl_as hf rfl (by decide) fun a hf => ?_
        refine tl_nil ?_
        replace hf := hf.keep [1, 2, 7, 12, 13, 14]
        dsimp only [keep, List.filterMap, look, Nat.beq, Option.map] at hf
        refine ⟨_, ?_, i + 1, _, rfl, by omega, hf, e, ?_⟩
        · omega
        exact ⟨Ho, HI, HS⟩
      · have hP : ¬((decide (x ≠ v0) && decide (x ∈ sn)) && !decide (x ∈ th)) = true := by simpa using hb
        rw [if_neg hP, List.append_nil] at hsc
        rw [← hsc] at Ho
        refine wskip ?_
        try simp only [Exit.then, Exit.inBlock, ↓reduceIte]
        try simp only [Exit.then, Exit.inBlock, ↓reduceIte]
        repeat refine seq ?_
        refine regn 2 hf (by decide +kernel) ?_
        refine st (mv rfl) ?_
        refine st ((add rfl rfl (by omega)).eq (congrArg (Value.int .i64) (show (i : Int) + 1 = ((i + 1 : Nat) : Int) from rfl))) ?_
        refine en fun a w e' hf => ?_
        replace HI := VA.st _ _ _ _ e' HI
        replace HS := VA.st _ _ _ _ e' HS
        replace Ho := Ho.ext e'
        replace e := Ext.tr e e'
        clear e'
        refine tl_as hf rfl (by decide) fun a hf => ?_
        refine tl_nil ?_
        replace hf := hf.keep [1, 2, 7, 12, 13, 14]
        dsimp only [keep, List.filterMap, look, Nat.beq, Option.map] at hf
        refine ⟨_, ?_, i + 1, _, rfl, by omega, hf, e, ?_⟩
        · omega
        exact ⟨Ho, HI, HS⟩
    · obtain rfl : i = (idsG g).length := by have := of_decide_eq_false hc; (try dsimp only at this); omega
      clear hc
      simp only [Exit.then, Exit.inBlock, ↓reduceIte]
      rw [List.take_length, hfin] at Ho
      replace hf := hf.keep [13]
      dsimp only [keep, List.filterMap, look, Nat.beq, Option.map] at hf
      repeat refine seq ?_
      refine regn 1 hf (by decide +kernel) ?_
      refine st (mv rfl) ?_
      refine en fun a w e' hf => ?_
      replace e := Ext.tr e e'
      replace Ho := Ho.ext e'
      clear e'
      refine tl_as hf rfl (by decide) fun a hf => ?_
      refine tl_nil ?_
      refine wret ?_
      try simp only [Exit.then, Exit.inBlock]
      refine ret1 rfl hf rfl ?_
      rintro _ rfl
      exact ⟨_, rfl, e, Dv.weak Ho.sl fun b _ hb => hb.elim⟩
end Go.Mono
