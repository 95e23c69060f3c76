/-
  Walks and plain facts, in this order: Tw3, TwL, MatB, R23a, R23b, TwC, MonoC, R23c, R23d, MonoN, TwO, TwM, Elms.
  No condition.
-/
import Derived.Test.YtnknjdnfbaaeoaaGreatDoorDE
import Derived.Test.YtnknjdnfbaaeoaaGreatDoorDC
import Derived.Test.YtnknjdnfbaaeoaaGreatDoorDB
import Derived.ArgAppend
import Derived.Deep.Upon
import Derived.Deep.Slices
import Derived.Test.YtnknjdnfbaaeoaaGreatDoorDA
import Derived.Test.YtnknjdnfbaaeoaaGreatDoorDD
set_option linter.unusedVariables false
set_option linter.unusedSimpArgs false
namespace Go.Mono
open Go Go.Proofs Go.RowKit Go.Gr

/-- the end of a function: a slot and what a block holds -/
theorem ret2t {P : Program} {fn : Func} {t u s k : Nat} {R : Ending → World → Prop} {n : Nat} {a : Act} {w : World} {L : Env} {b : Nat} {cs : Array Value} {bt : TypeId} {A : VA} (hr : fn.results = #[.tmp s, .cell t u]) (ht : TI P u true k) (hf : Fr n a w L) (h : look L t = some (E (.pointer (some ⟨b, 0, none⟩)))) (h' : look L s = some A)
    (hb : Blk w b cs bt) (hs : cs.size = k) (hR : ∀ x, A.p x w → R (.returned (.tuple #[x, .agg cs])) w) : bodyPost P fn R .ret a w := by
  have hv : a.tmps.getD t undef = .pointer (some ⟨b, 0, none⟩) := hf.val t _ h
  have hv' : a.tmps[t]?.getD undef = .pointer (some ⟨b, 0, none⟩) := by simpa using hv
  obtain ⟨d, h1, h2⟩ := ht.u
  have hl := run_loadVar_row (P := P) w b bt u cs (0, 0) d hb h1 (by cases d <;> simp_all) (by rw [ht.s, hs])
  exact ⟨hf.defers, .tuple #[a.eval (.tmp s), .agg cs], by simp [results, hr, Act.eval, hv', asAddr, hl], hR _ (hf.val s A h')⟩
/-- the program's graph and the reference's: none where the graph is wrong or large -/
def frW (g : GT) (most : Int) : GT × Bool := if (decide (most < (g.1.length : Nat)) || decide ((40 : Int) < (g.2.length : Nat))) = true then (g, false) else if (ofR g.1 g.2).2 ≠ 0 then (g, false) else ((ofR g.1 g.2).1, true)
noncomputable def FrA (g : GT) (most : Int) : VA := ⟨fun v w => ((frW g most).2 = true → (Dv (ptE (grE 2000)) Go.Mono.G0 (some (frW g most).1)).p v w) ∧ ((frW g most).2 = false → v = .pointer none), fun v w w' e h => ⟨fun hc => Dv.ex (h.1 hc) e, h.2⟩⟩
theorem ofR_len {V : List VT} {E : List ET} (h : (ofR V E).2 = 0) : (ofR V E).1.1.length ≤ V.length + E.length ∧ (ofR V E).1.2.length ≤ V.length + E.length := by
  have : ∀ (l : List DT) (g : GT) (m : Nat), g.1.length ≤ m → g.2.length ≤ m → (l.foldl ofS (g, 0)).2 = 0 → (l.foldl ofS (g, 0)).1.1.length ≤ m + l.length ∧ (l.foldl ofS (g, 0)).1.2.length ≤ m + l.length := by
    intro l
    induction l with
    | nil => intro g m h1 h2 _; exact ⟨h1, h2⟩
    | cons d l ih =>
      intro g m h1 h2 h3
      rw [List.foldl_cons] at h3 ⊢
      by_cases hd : (doR g d).2 = 0
      · have e1 : ofS (g, 0) d = ((doR g d).1, 0) := by rw [ofS, if_neg (by simp), if_neg (by simpa using hd)]
        rw [e1] at h3 ⊢
        have := doR_len g d
        have h5 := ih (doR g d).1 (m + 1) (by omega) (by omega) h3
        rw [List.length_cons]; omega
      · have e1 : ofS (g, 0) d = (([], []), (doR g d).2) := by rw [ofS, if_neg (by simp), if_pos hd]
        rw [e1, ofS_stop (s := (([], []), (doR g d).2)) hd] at h3
        exact absurd h3 hd
  have h2 := this (V.map dV ++ E.map dE) ([], []) 0 (Nat.le_refl _) (Nat.le_refl _) h
  simpa [ofR] using h2
theorem ofR_ok {V : List VT} {E : List ET} (hV : ∀ x ∈ V, 0 ≤ x.2.1 ∧ x.2.1 < 256) (hE : ∀ x ∈ E, 0 ≤ x.2.1 ∧ x.2.1 < 256) : Gr.Ok (ofR V E).1 := by
  have z : Gr.Ok (([], []) : GT) := ⟨List.Pairwise.nil, List.Pairwise.nil, by simp, by simp, by simp⟩
  have : ∀ (l : List DT) (s : GT × Int), Gr.Ok s.1 → (∀ d ∈ l, 0 ≤ d.2.2.2.1 ∧ d.2.2.2.1 < 256) → Gr.Ok (l.foldl ofS s).1 := by
    intro l
    induction l with
    | nil => intro s h _; exact h
    | cons d l ih =>
      intro s h hl
      rw [List.foldl_cons]
      refine ih _ ?_ fun d hd => hl d (by simp [hd])
      unfold ofS
      split
      · exact h
      · split
        · exact z
        · exact ok_do h (hl d (by simp))
  refine this _ _ z fun d hd => ?_
  rcases List.mem_append.1 hd with h | h
  · obtain ⟨x, hx, rfl⟩ := List.mem_map.1 h; exact hV x hx
  · obtain ⟨x, hx, rfl⟩ := List.mem_map.1 h; exact hE x hx
/-- Build, at a valid graph -/
theorem build_post {G : Nat → Prop} (g : GT) (hg : Gr.Ok g) (v u : Value) (W : World) (h1 : (Dv (slE vtE) G g.1).p v W) (h2 : (Dv (slE etE) G g.2).p u W) (hl1 : g.1.length ≤ 1000) (hl2 : g.2.length ≤ 1000) {K : Nat → Prop} (hK : ∀ b, K b → b < W.heap.size) :
    Calls Tryz.prog 21 #[v, u] W (Post (Tup [Dv (ptE (grE 2000)) K (some g), E (I 0)]) W) :=
  Calls.mono (build_spec g.1 g.2 v u W h1 h2 (by omega) (by omega) (okD_V hg) (okD_E hg)) fun en w' ⟨e, hq⟩ => by
    obtain ⟨g', k1, k2, k3⟩ := bld_ok hg
    rcases hq with ⟨g2, b1, b2, b3, q1, rfl, q3, q4, q5, q6⟩ | ⟨c, q0, q1, _⟩
    · rw [k1] at q1; cases q1
      exact ⟨_, rfl, e, Tup.two ((q6.perm k2 k3).dv (by omega) (fun h => by have := hK _ h; omega) (fun h => by have := hK _ h; omega) (fun h => by have := hK _ h; omega)) rfl⟩
    · rw [k1] at q1; cases q1
theorem from23_spec {G : Nat → Prop} (g : GT) (most : Int) (v : Value) (W : World) (h : (Dv gtE G g).p v W) (hm : most ≤ 100) (hV : ∀ x ∈ g.1, 0 ≤ x.2.1 ∧ x.2.1 < 256) (hE : ∀ x ∈ g.2, 0 ≤ x.2.1 ∧ x.2.1 < 256) :
    Calls Tryz.prog 9 #[v, I most] W (Post (Tup [FrA g most, Dv gtE Go.Mono.G0 (frW g most).1]) W) := by
  obtain ⟨u1, u2, rfl, h1, h2⟩ := Dv.gt.1 (Dv.weak (G' := Go.Mono.G0) h fun b _ hb => hb.elim)
  have h1b := Dv.toB h1
  have h2b := Dv.toB h2
  have hgb : (Dv gtE (GB W Go.Mono.G0) g).p (.agg #[u1, u2]) W := Dv.gt.2 ⟨_, _, rfl, h1b, h2b⟩
  refine enter (args := [.agg #[u1, u2], I most]) (As := [E (.agg #[u1, u2]), E (I most)]) Tryz.func9 rfl Tryz.ntmps9 (Nat.le_of_ble_eq_true rfl) ?_ (fun a hf => ?_) (Nat.le_of_ble_eq_true rfl)
  rotate_left
  dsimp only [params, Nat.reduceAdd] at hf
  rotate_right
  · exact arg2 rfl rfl
  have e := Ext.rfl' W
  repeat refine seq ?_
  refine regn0 ?_
  refine tl_box hf rfl (by decide) fun a b2 w v2 hv2 e' hb2 hs2 B2 hf => ?_
  have hle2 := Nat.le_trans e.size (Nat.le_of_eq hb2.symm)
  replace e := Ext.tr e e'
  clear e'
  refine tl_as hf rfl (by decide) fun a hf => ?_
  refine tl_alloc I25 hf (by decide) fun a b5 w e' hb5 hs5 B5 hf => ?_
  have hle5 := Nat.le_trans e.size (Nat.le_of_eq hb5.symm)
  have lt5_B2 := B2.lt
  replace e := Ext.tr e e'
  replace B2 := B2.ext e'
  clear e'
  refine tl_nil ?_
  cases hv2
  repeat refine seq ?_
  refine regn 11 hf (by decide +kernel) ?_
  refine st (fldA Tryz.underlying25 rfl T22 (by decide) rfl) ?_
  refine st (ld1 T22 rfl (by assumption) rfl) ?_
  refine st (lenD Tryz.underlying22 (isE rfl (VA.st _ _ _ _ e h1))) ?_
  refine st (mv rfl) ?_
  refine st (gtr rfl rfl) ?_
  refine st (mv rfl) ?_
  refine sgE rfl rfl (.k 2 rfl .n) (fun hgd => fldA Tryz.underlying25 rfl T23 (by decide) rfl) ?_
  refine sgE rfl rfl (.c 20 rfl (fun h => h) .n) (fun hgd => ld1 T23 rfl (by assumption) rfl) ?_
  refine sgE rfl rfl (.c 21 rfl (fun h => h) .n) (fun hgd => lenD Tryz.underlying23 (isE rfl (VA.st _ _ _ _ e h2))) ?_
  refine sgE rfl rfl (.c 22 rfl (fun h => h) .n) (fun hgd => gtr rfl rfl) ?_
  refine st (pkOr rfl rfl (fun h => by rw [h]; rfl)) ?_
  refine en fun a w e' hf => ?_
  replace e := Ext.tr e e'
  replace B2 := B2.ext e'
  replace B5 := B5.ext e'
  clear e'
  refine tl_nil ?_
  repeat refine seq ?_
  refine ifc hf rfl (fun hb => ?_) (fun hb => ?_)
  · have hfw : frW g most = (g, false) := by rw [frW, if_pos hb]
    have hc2 : (#[u1, u2] : Array Value).all (·.oneCell') = true := one2 (slOne h1) (slOne h2)
    replace hf := hf.keep [2, 4, 5]
    dsimp only [keep, List.filterMap, look, Nat.beq, Option.map] at hf
    repeat refine seq ?_
    refine regJ 3 [0, 1] (Chg fun c => c = b5) (RelJ.one _) (fun w => ∃ cs, Blk w b5 cs 25 ∧ (E (.agg #[u1, u2])).p (.agg cs) w) (fun w w1 k h => h.imp fun cs h => ⟨h.1.ext k, h.2⟩) Mix.mix hf (by decide +kernel) (by decide +kernel) ?_
    refine ja ((ldW T25 rfl B2 rfl).eq ((rfl : _ = Value.agg #[u1, u2]))) ?_
    refine jf (fun w1 h1 => asg rfl) ?_
    refine jx (xstB T25 rfl B5 rfl rfl (fun v w hv => ⟨_, hv, rfl, hc2⟩) (fun v w w' hc hv => hv)) ?_
    refine je ?_
    refine fun a w hc HF hf => ?_
    try dsimp only [push] at hf
    obtain ⟨cs, B5, hcs⟩ := HF
    cases hcs
    replace e := e.ch hc (fun b hb => by rw [hb]; omega)
    clear hc
    refine tl_nil ?_
    refine wret (ret2t rfl T25 hf rfl rfl B5 rfl ?_)
    rintro _ rfl
    exact ⟨_, rfl, e, by rw [hfw]; exact Tup.two ⟨fun h => (by rw [hfw] at h; cases h), fun _ => rfl⟩ (VA.st _ _ _ _ e (Dv.weak h fun b _ hb => hb.elim))⟩
  have hfw0 : ¬ (decide (most < (g.1.length : Nat)) || decide ((40 : Int) < (g.2.length : Nat))) = true := by simpa using hb
  clear hb
  refine wskip ?_
  try simp only [Exit.then, Exit.inBlock, ↓reduceIte]
  have hvl : g.1.length ≤ 100 ∧ g.2.length ≤ 40 := by
    rw [Bool.or_eq_true, not_or, decide_eq_true_eq, decide_eq_true_eq] at hfw0
    omega
  replace hf := hf.keep [2, 4, 5]
  dsimp only [keep, List.filterMap, look, Nat.beq, Option.map] at hf
  obtain ⟨N6, hN6⟩ : ∃ N6, N6 = w.heap.size := ⟨_, rfl⟩
  have l5 : b5 < N6 := by rw [hN6]; exact B5.lt
  have l2 : b2 < N6 := by rw [hN6]; exact B2.lt
  have hN6s : N6 ≤ w.heap.size := Nat.le_of_eq hN6
  clear hN6
  have hofl := fun (h0 : (ofR g.1 g.2).2 = 0) => ofR_len h0
  have hofk := ofR_ok hV hE
  repeat refine seq ?_
  refine regn 8 hf (by decide +kernel) ?_
  refine st (fldA Tryz.underlying25 rfl T22 (by decide) rfl) ?_
  refine st (ld1 T22 rfl (by assumption) rfl) ?_
  refine st (fldA Tryz.underlying25 rfl T23 (by decide) rfl) ?_
  refine st (ld1 T23 rfl (by assumption) rfl) ?_
  refine st (call2 (A := Tup [Dv gtE (fun b => b < N6) (ofR g.1 g.2).1, E (I (ofR g.1 g.2).2)]) En31 rfl rfl (fun v u w he k1 k2 => by cases k1; cases k2; exact of05_spec g.1 g.2 _ _ w (VA.st _ _ _ _ (Ext.tr e he) h1) (VA.st _ _ _ _ (Ext.tr e he) h2) (by omega) (by omega) (fun b hb => Nat.lt_of_lt_of_le hb (Nat.le_trans hN6s he.size)))) ?_
  refine st (mv rfl) ?_
  refine st (ext_ rfl rfl) ?_
  refine st (ext_ rfl rfl) ?_
  refine en fun a w e' hf => ?_
  replace e := Ext.tr e e'
  replace B2 := B2.ext e'
  replace B5 := B5.ext e'
  clear e'
  obtain ⟨z, hz, hf⟩ := hf.opn 32 rfl
  obtain ⟨N7, hN7⟩ : ∃ N7, N7 = w.heap.size := ⟨_, rfl⟩
  obtain ⟨GZ, hGZ⟩ : ∃ GZ : Nat → Prop, GZ = fun b => b < N6 ∨ N7 ≤ b := ⟨_, rfl⟩
  have hzz : (Dv gtE GZ (ofR g.1 g.2).1).p z w := by
    rw [hGZ, hN7]; exact Dv.toB (Dv.weak hz fun b _ hb => hb)
  obtain ⟨z1, z2, rfl, hz1, hz2⟩ := Dv.gt.1 hzz
  have hzo : (#[z1, z2] : Array Value).all (·.oneCell') = true := one2 (slOne hz1) (slOne hz2)
  clear hz hzz
  have nZ : ∀ bb, (bb < N6 ∨ N7 ≤ bb) → GZ bb := fun bb hb => by rw [hGZ]; exact hb
  replace hf := hf.keep [2, 4, 5, 32, 33]
  dsimp only [keep, List.filterMap, look, Nat.beq, Option.map] at hf
  refine tl_alloc I25 hf (by decide) fun a b6 w e' hb6 hs6 B6 hf => ?_
  have hle6 := Nat.le_trans e.size (Nat.le_of_eq hb6.symm)
  have lt6_B2 := B2.lt
  have lt6_B5 := B5.lt
  replace hz1 := VA.st _ _ _ _ e' hz1
  replace hz2 := VA.st _ _ _ _ e' hz2
  replace e := Ext.tr e e'
  replace B2 := B2.ext e'
  replace B5 := B5.ext e'
  clear e'
  have l6 : N7 ≤ b6 := by omega
  have l67 : b6 < w.heap.size := B6.lt
  replace hf := hf.keep [2, 4, 5, 6, 32, 33]
  dsimp only [keep, List.filterMap, look, Nat.beq, Option.map] at hf
  refine tl_stW T25 hf rfl rfl hzo B6 rfl rfl fun w hg hsz B6 hf => ?_
  replace e := e.gr hg (by omega); replace B2 := B2.gr hg (by omega); replace B5 := B5.gr hg (by omega); replace hz1 := Dv.grN hz1 hg (fun bb hb => nZ bb (by cases hb; omega)); replace hz2 := Dv.grN hz2 hg (fun bb hb => nZ bb (by cases hb; omega)); clear hg
  refine tl_as hf rfl (by decide) fun a hf => ?_
  refine tl_nil ?_
  replace hf := hf.keep [2, 4, 5, 6, 7]
  dsimp only [keep, List.filterMap, look, Nat.beq, Option.map] at hf
  repeat refine seq ?_
  refine regn 2 hf (by decide +kernel) ?_
  refine st (mv rfl) ?_
  refine st (neq rfl rfl) ?_
  refine en fun a w e' hf => ?_
  replace hz1 := VA.st _ _ _ _ e' hz1
  replace hz2 := VA.st _ _ _ _ e' hz2
  replace e := Ext.tr e e'
  replace B2 := B2.ext e'
  replace B5 := B5.ext e'
  replace B6 := B6.ext e'
  clear e'
  refine tl_nil ?_
  repeat refine seq ?_
  refine ifc hf rfl (fun hb => ?_) (fun hb => ?_)
  · have hne : (ofR g.1 g.2).2 ≠ 0 := by simpa using hb
    have hfw : frW g most = (g, false) := by rw [frW, if_neg hfw0, if_pos hne]
    have hc2 : (#[u1, u2] : Array Value).all (·.oneCell') = true := one2 (slOne h1) (slOne h2)
    replace hf := hf.keep [2, 4, 5]
    dsimp only [keep, List.filterMap, look, Nat.beq, Option.map] at hf
    repeat refine seq ?_
    refine regJ 3 [0, 1] (Chg fun c => c = b5) (RelJ.one _) (fun w => ∃ cs, Blk w b5 cs 25 ∧ (E (.agg #[u1, u2])).p (.agg cs) w) (fun w w1 k h => h.imp fun cs h => ⟨h.1.ext k, h.2⟩) Mix.mix hf (by decide +kernel) (by decide +kernel) ?_
    refine ja ((ldW T25 rfl B2 rfl).eq ((rfl : _ = Value.agg #[u1, u2]))) ?_
    refine jf (fun w1 h1 => asg rfl) ?_
    refine jx (xstB T25 rfl B5 rfl rfl (fun v w hv => ⟨_, hv, rfl, hc2⟩) (fun v w w' hc hv => hv)) ?_
    refine je ?_
    refine fun a w hc HF hf => ?_
    try dsimp only [push] at hf
    obtain ⟨cs, B5, hcs⟩ := HF
    cases hcs
    replace e := e.ch hc (fun b hb => by rw [hb]; omega)
    clear hc
    refine tl_nil ?_
    refine wret (ret2t rfl T25 hf rfl rfl B5 rfl ?_)
    rintro _ rfl
    exact ⟨_, rfl, e, by rw [hfw]; exact Tup.two ⟨fun h => (by rw [hfw] at h; cases h), fun _ => rfl⟩ (VA.st _ _ _ _ e (Dv.weak h fun b _ hb => hb.elim))⟩
  have hof0 : (ofR g.1 g.2).2 = 0 := by simpa using hb
  clear hb
  have hfw : frW g most = ((ofR g.1 g.2).1, true) := by rw [frW, if_neg hfw0, if_neg (by simpa using hof0)]
  have hol := hofl hof0
  obtain ⟨gg, hgg⟩ : ∃ gg, gg = (ofR g.1 g.2).1 := ⟨_, rfl⟩
  rw [← hgg] at hz1 hz2 hofk hol hfw
  clear hgg hof0 hofl hfw0
  refine wskip ?_
  try simp only [Exit.then, Exit.inBlock, ↓reduceIte]
  replace hf := hf.keep [4, 5, 6]
  dsimp only [keep, List.filterMap, look, Nat.beq, Option.map] at hf
  obtain ⟨N8, hN8⟩ : ∃ N8, N8 = w.heap.size := ⟨_, rfl⟩
  have h78 : N7 ≤ N8 := by have := B6.lt; omega
  have h68 : b6 < N8 := by rw [hN8]; exact B6.lt
  have h58 : b5 < N8 := by rw [hN8]; exact B5.lt
  have hW8 : W.heap.size ≤ N8 := by rw [hN8]; exact e.size
  have hN8s : N8 ≤ w.heap.size := Nat.le_of_eq hN8
  clear hN8
  repeat refine seq ?_
  refine regn0 ?_
  refine tl_as hf rfl (by decide) fun a hf => ?_
  refine tl_nil ?_
  repeat refine seq ?_
  refine regn0 ?_
  refine tl_as hf rfl (by decide) fun a hf => ?_
  refine tl_nil ?_
  repeat refine seq ?_
  refine regn0 ?_
  refine tl_as hf rfl (by decide) fun a hf => ?_
  refine tl_nil ?_
  replace hf := hf.keep [4, 5, 6, 8, 9, 10]
  dsimp only [keep, List.filterMap, look, Nat.beq, Option.map] at hf
  repeat refine seq ?_
  refine blk (loopN (fun r0 a w => ∃ (k : Nat) (u : Value), r0 = gg.1.length - k ∧ k ≤ gg.1.length ∧ Fr 75 a w [(4, E (.pointer none)), (5, E (.pointer (some ⟨b5, 0, none⟩))), (6, E (.pointer (some ⟨b6, 0, none⟩))), (8, E u), (9, E (.slice none 0 0)), (10, E (I k))] ∧ Ext W w ∧ Blk w b5 #[.slice none 0 0, .slice none 0 0] 25 ∧ Blk w b6 #[z1, z2] 25 ∧ (Dv (slE vtE) GZ gg.1).p z1 w ∧ (Dv (slE etE) GZ gg.2).p z2 w ∧ OwR vtE 55 N8 Go.Mono.G0 w (gg.1.take k) u) gg.1.length ⟨0, .slice none 0 0, rfl, by omega, hf, e, ⟨B5, B6, hz1, hz2, OwR.nil vtE _ hN8s fun b hb => hb.elim⟩⟩ ?_)
  clear hf e; try clear B5; try clear B6; try clear hz1; try clear hz2; try clear Ho
  rintro r0 a w ⟨k, u, rfl, hk, hf, e, B5, B6, hz1, hz2, Ho⟩
  repeat refine seq ?_
  refine regn 5 hf (by decide +kernel) ?_
  refine st (mv rfl) ?_
  refine st (fldA Tryz.underlying25 rfl T22 (by decide) rfl) ?_
  refine st (ld1 T22 rfl B6 rfl) ?_
  refine st (lenD Tryz.underlying22 (isE rfl hz1)) ?_
  refine st (lss rfl rfl) ?_
  refine en fun a w e' hf => ?_
  replace hz1 := VA.st _ _ _ _ e' hz1
  replace hz2 := VA.st _ _ _ _ e' hz2
  replace e := Ext.tr e e'
  replace B5 := B5.ext e'
  replace B6 := B6.ext e'
  replace Ho := Ho.ext e'
  clear e'
  refine tl_nil ?_
  repeat refine seq ?_
  refine ifc hf rfl (fun hc => wskip ?_) (fun hc => wexit ?_)
  rotate_left
  rotate_left
  · have hlt : k < gg.1.length := by have := of_decide_eq_true hc; (try dsimp only at this); omega
    clear hc
    replace hf := hf.keep [4, 5, 6, 8, 9, 10]
    dsimp only [keep, List.filterMap, look, Nat.beq, Option.map] at hf
    repeat refine seq ?_
    refine blk ?_
    have hg := List.getElem?_eq_getElem hlt
    generalize gg.1[k] = y at hg
    have hlk := List.length_take_le k gg.1
    have n1 := Ho.neLt (b := b6) (by omega)
    have n2 := Ho.neLt (b := b5) (by omega)
    haveI iu : InR GZ u.ownBlock := ⟨fun b hb => nZ b (.inr (Nat.le_trans h78 (Ho.lt hb).1))⟩
    repeat refine seq ?_
    refine regn 7 hf (by decide +kernel) ?_
    refine st (mv rfl) ?_
    refine st (fldA Tryz.underlying25 rfl T22 (by decide) rfl) ?_
    refine st (ld1 T22 rfl B6 rfl) ?_
    refine st (mv rfl) ?_
    refine st (idxD Tryz.underlying22 S66 (isE rfl hz1) rfl (by omega) (hg)) ?_
    refine st (ldVt T66 (isR rfl)) ?_
    refine st (bsl1 Tryz.underlying52 I55 rfl (by decide) rfl Ho.avs (isVt rfl)) ?_
    refine en fun a w e' hf => ?_
    replace hz1 := VA.st _ _ _ _ e' hz1
    replace hz2 := VA.st _ _ _ _ e' hz2
    replace Ho := Ho.ext e'
    replace e := Ext.tr e e'
    replace B5 := B5.ext e'
    replace B6 := B6.ext e'
    clear e'
    haveI hin : ∀ G0, InR (GB W G0) _ := OwR.inGB (W := W) Ho (by omega)
    refine tl_app Tryz.underlying52 I55 rfl rfl hf (by decide) rfl Ho (isR rfl) (by simp only [List.length_singleton]; omega) (by simp only [List.length_singleton, maxLen]; omega) fun a v w hg hat Hn hf => ?_
    replace e := e.gro hg (Ho.row (W := W) (by omega))
    have hrow := Ho.row (W := W) (by omega)
    replace hz1 := Dv.grN hz1 hg (fun bb hb => nZ bb (.inr (Nat.le_trans h78 (Ho.lt hb).1)))
    replace hz2 := Dv.grN hz2 hg (fun bb hb => nZ bb (.inr (Nat.le_trans h78 (Ho.lt hb).1)))
    replace Ho := Hn
    clear hrow
    replace B5 := B5.gro hg (by assumption)
    replace B6 := B6.gro hg (by assumption)
    replace Ho := Hn; clear Hn hg hat hin
    refine tl_as hf rfl (by decide) fun a hf => ?_
    refine tl_nil ?_
    try simp only [Exit.then, Exit.inBlock, ↓reduceIte]
    repeat refine seq ?_
    refine regn 2 hf (by decide +kernel) ?_
    refine st (mv rfl) ?_
    refine st ((add rfl rfl (by omega)).eq (congrArg (Value.int .i64) (show (k : Int) + 1 = ((k + 1 : Nat) : Int) from rfl))) ?_
    refine en fun a w e' hf => ?_
    replace hz1 := VA.st _ _ _ _ e' hz1
    replace hz2 := VA.st _ _ _ _ e' hz2
    replace Ho := Ho.ext e'
    replace e := Ext.tr e e'
    replace B5 := B5.ext e'
    replace B6 := B6.ext e'
    clear e'
    refine tl_as hf rfl (by decide) fun a hf => ?_
    refine tl_nil ?_
    replace hf := hf.keep [4, 5, 6, 8, 9, 10]
    dsimp only [keep, List.filterMap, look, Nat.beq, Option.map] at hf
    refine ⟨_, ?_, k + 1, _, rfl, by omega, hf, e, ?_⟩
    · omega
    rw [take_succ_get hg]
    exact ⟨B5, B6, hz1, hz2, Ho⟩
  · obtain rfl : k = gg.1.length := by have := of_decide_eq_false hc; (try dsimp only at this); omega
    clear hc
    simp only [Exit.then, Exit.inBlock, ↓reduceIte]
    rw [List.take_length] at Ho
    obtain ⟨av, nv, cv, rfl⟩ := Dv.slF Ho.sl
    obtain ⟨NV, hNV⟩ : ∃ NV : Nat → Prop, NV = fun b => (Value.slice av nv cv).ownBlock ≠ some b := ⟨_, rfl⟩
    have HD : (Dv (slE vtE) NV gg.1).p (.slice av nv cv) w := Ho.slN fun b hb => by rw [hNV]; exact fun h => h hb
    obtain ⟨N5, hN5⟩ : ∃ N5, N5 = w.heap.size := ⟨_, rfl⟩
    have h89 : N8 ≤ N5 := by rw [hN5]; exact Ho.base
    have nV : ∀ bb, (bb < N8 ∨ N5 ≤ bb) → NV bb := fun bb hb => by rw [hNV]; intro h; have h3 := Ho.lt h; omega
    have hN5s : N5 ≤ w.heap.size := Nat.le_of_eq hN5
    clear hN5 hNV Ho
    replace hf := hf.keep [4, 5, 6, 8, 9]
    dsimp only [keep, List.filterMap, look, Nat.beq, Option.map] at hf
    repeat refine seq ?_
    refine regn0 ?_
    refine tl_as hf rfl (by decide) fun a hf => ?_
    refine tl_nil ?_
    replace hf := hf.keep [4, 5, 6, 8, 9, 11]
    dsimp only [keep, List.filterMap, look, Nat.beq, Option.map] at hf
    repeat refine seq ?_
    refine blk (loopN (fun r0 a w => ∃ (k : Nat) (u : Value), r0 = gg.2.length - k ∧ k ≤ gg.2.length ∧ Fr 75 a w [(4, E (.pointer none)), (5, E (.pointer (some ⟨b5, 0, none⟩))), (6, E (.pointer (some ⟨b6, 0, none⟩))), (8, E (.slice av nv cv)), (9, E u), (11, E (I k))] ∧ Ext W w ∧ Blk w b5 #[.slice none 0 0, .slice none 0 0] 25 ∧ Blk w b6 #[z1, z2] 25 ∧ (Dv (slE vtE) GZ gg.1).p z1 w ∧ (Dv (slE etE) GZ gg.2).p z2 w ∧ (Dv (slE vtE) NV gg.1).p (.slice av nv cv) w ∧ OwR etE 57 N5 Go.Mono.G0 w (gg.2.take k) u ∧ N5 ≤ w.heap.size) gg.2.length ⟨0, .slice none 0 0, rfl, by omega, hf, e, ⟨B5, B6, hz1, hz2, HD, OwR.nil etE _ hN5s fun b hb => hb.elim, hN5s⟩⟩ ?_)
    clear hf e; try clear B5; try clear B6; try clear hz1; try clear hz2; try clear HD; try clear Ho; try clear hN5s
    rintro r0 a w ⟨k, u, rfl, hk, hf, e, B5, B6, hz1, hz2, HD, Ho, hN5s⟩
    repeat refine seq ?_
    refine regn 5 hf (by decide +kernel) ?_
    refine st (mv rfl) ?_
    refine st (fldA Tryz.underlying25 rfl T23 (by decide) rfl) ?_
    refine st (ld1 T23 rfl B6 rfl) ?_
    refine st (lenD Tryz.underlying23 (isE rfl hz2)) ?_
    refine st (lss rfl rfl) ?_
    refine en fun a w e' hf => ?_
    replace hz1 := VA.st _ _ _ _ e' hz1
    replace hz2 := VA.st _ _ _ _ e' hz2
    replace HD := VA.st _ _ _ _ e' HD
    replace hN5s := Nat.le_trans hN5s e'.size
    replace e := Ext.tr e e'
    replace B5 := B5.ext e'
    replace B6 := B6.ext e'
    replace Ho := Ho.ext e'
    clear e'
    refine tl_nil ?_
    repeat refine seq ?_
    refine ifc hf rfl (fun hc => wskip ?_) (fun hc => wexit ?_)
    rotate_left
    rotate_left
    · have hlt : k < gg.2.length := by have := of_decide_eq_true hc; (try dsimp only at this); omega
      clear hc
      replace hf := hf.keep [4, 5, 6, 8, 9, 11]
      dsimp only [keep, List.filterMap, look, Nat.beq, Option.map] at hf
      repeat refine seq ?_
      refine blk ?_
      have hg := List.getElem?_eq_getElem hlt
      generalize gg.2[k] = y at hg
      have hlk := List.length_take_le k gg.2
      have h79 : N7 ≤ N5 := Nat.le_trans h78 h89
      have n1 := Ho.neLt (b := b6) (by omega)
      have n2 := Ho.neLt (b := b5) (by omega)
      haveI iu : InR GZ u.ownBlock := ⟨fun b hb => nZ b (.inr (Nat.le_trans h79 (Ho.lt hb).1))⟩
      repeat refine seq ?_
      refine regn 7 hf (by decide +kernel) ?_
      refine st (mv rfl) ?_
      refine st (fldA Tryz.underlying25 rfl T23 (by decide) rfl) ?_
      refine st (ld1 T23 rfl B6 rfl) ?_
      refine st (mv rfl) ?_
      refine st (idxD Tryz.underlying23 S74 (isE rfl hz2) rfl (by omega) (hg)) ?_
      refine st (ldEt T74 (isR rfl)) ?_
      refine st (bsl1 Tryz.underlying53 I57 rfl (by decide) rfl Ho.avs (isEt rfl)) ?_
      refine en fun a w e' hf => ?_
      replace hz1 := VA.st _ _ _ _ e' hz1
      replace hz2 := VA.st _ _ _ _ e' hz2
      replace HD := VA.st _ _ _ _ e' HD
      replace hN5s := Nat.le_trans hN5s e'.size
      replace Ho := Ho.ext e'
      replace e := Ext.tr e e'
      replace B5 := B5.ext e'
      replace B6 := B6.ext e'
      clear e'
      haveI hin : ∀ G0, InR (GB W G0) _ := OwR.inGB (W := W) Ho (by omega)
      refine tl_app Tryz.underlying53 I57 rfl rfl hf (by decide) rfl Ho (isR rfl) (by simp only [List.length_singleton]; omega) (by simp only [List.length_singleton, maxLen]; omega) fun a v w hg hat Hn hf => ?_
      replace e := e.gro hg (Ho.row (W := W) (by omega))
      have hrow := Ho.row (W := W) (by omega)
      replace hz1 := Dv.grN hz1 hg (fun bb hb => nZ bb (.inr (Nat.le_trans h79 (Ho.lt hb).1)))
      replace hz2 := Dv.grN hz2 hg (fun bb hb => nZ bb (.inr (Nat.le_trans h79 (Ho.lt hb).1)))
      replace HD := Dv.grN HD hg (fun bb hb => nV bb (.inr (Ho.lt hb).1))
      replace hN5s := Nat.le_trans hN5s hg.size
      replace Ho := Hn
      clear hrow
      replace B5 := B5.gro hg (by assumption)
      replace B6 := B6.gro hg (by assumption)
      replace Ho := Hn; clear Hn hg hat hin
      refine tl_as hf rfl (by decide) fun a hf => ?_
      refine tl_nil ?_
      try simp only [Exit.then, Exit.inBlock, ↓reduceIte]
      repeat refine seq ?_
      refine regn 2 hf (by decide +kernel) ?_
      refine st (mv rfl) ?_
      refine st ((add rfl rfl (by omega)).eq (congrArg (Value.int .i64) (show (k : Int) + 1 = ((k + 1 : Nat) : Int) from rfl))) ?_
      refine en fun a w e' hf => ?_
      replace hz1 := VA.st _ _ _ _ e' hz1
      replace hz2 := VA.st _ _ _ _ e' hz2
      replace HD := VA.st _ _ _ _ e' HD
      replace hN5s := Nat.le_trans hN5s e'.size
      replace Ho := Ho.ext e'
      replace e := Ext.tr e e'
      replace B5 := B5.ext e'
      replace B6 := B6.ext e'
      clear e'
      refine tl_as hf rfl (by decide) fun a hf => ?_
      refine tl_nil ?_
      replace hf := hf.keep [4, 5, 6, 8, 9, 11]
      dsimp only [keep, List.filterMap, look, Nat.beq, Option.map] at hf
      refine ⟨_, ?_, k + 1, _, rfl, by omega, hf, e, ?_⟩
      · omega
      rw [take_succ_get hg]
      exact ⟨B5, B6, hz1, hz2, HD, Ho, hN5s⟩
    · obtain rfl : k = gg.2.length := by have := of_decide_eq_false hc; (try dsimp only at this); omega
      clear hc
      simp only [Exit.then, Exit.inBlock, ↓reduceIte]
      rw [List.take_length] at Ho
      have h65 : b6 < N5 := by omega
      have h55 : b5 < N5 := by omega
      have hlg : gg.1.length ≤ 1000 ∧ gg.2.length ≤ 1000 := by omega
      replace hf := hf.keep [4, 5, 6, 8, 9]
      dsimp only [keep, List.filterMap, look, Nat.beq, Option.map] at hf
      repeat refine seq ?_
      refine regn 6 hf (by decide +kernel) ?_
      refine st (mv rfl) ?_
      refine st (mv rfl) ?_
      refine st (call2 (A := Tup [Dv (ptE (grE 2000)) (fun b => b < N5) (some gg), E (I 0)]) En21 rfl rfl (fun v u w he k1 k2 => by cases k1; cases k2; exact build_post gg hofk _ _ w (VA.st _ _ _ _ he (Dv.weak HD fun b _ hb => hb.elim)) (VA.st _ _ _ _ he Ho.sl) hlg.1 hlg.2 (fun b hb => Nat.lt_of_lt_of_le hb (Nat.le_trans hN5s he.size)))) ?_
      refine st (mv rfl) ?_
      refine st (ext_ rfl rfl) ?_
      refine st (ext_ rfl rfl) ?_
      refine en fun a w e' hf => ?_
      replace hz1 := VA.st _ _ _ _ e' hz1
      replace hz2 := VA.st _ _ _ _ e' hz2
      replace e := Ext.tr e e'
      replace B5 := B5.ext e'
      replace B6 := B6.ext e'
      clear e'
      refine tl_as hf rfl (by decide) fun a hf => ?_
      refine tl_as hf rfl (by decide) fun a hf => ?_
      refine tl_nil ?_
      replace hf := hf.keep [4, 5, 6, 12]
      dsimp only [keep, List.filterMap, look, Nat.beq, Option.map] at hf
      haveI ik : InR (fun b => b < N5) (some b5) := ⟨fun b hb => by cases hb; exact h55⟩
      have hzo : (#[z1, z2] : Array Value).all (·.oneCell') = true := one2 (slOne hz1) (slOne hz2)
      repeat refine seq ?_
      refine regJ 4 [2, 0, 1] (Chg fun c => c = b5) (RelJ.one _) (fun w => ∃ cs, Blk w b5 cs 25 ∧ (E (.agg #[z1, z2])).p (.agg cs) w) (fun w w1 k h => h.imp fun cs h => ⟨h.1.ext k, h.2⟩) Mix.mix hf (by decide +kernel) (by decide +kernel) ?_
      refine jk (mv rfl) ?_
      refine ja ((ldW T25 rfl B6 rfl).eq ((rfl : _ = Value.agg #[z1, z2]))) ?_
      refine jf (fun w1 h1 => asg rfl) ?_
      refine jx (xstB T25 rfl B5 rfl rfl (fun v w hv => ⟨_, hv, rfl, hzo⟩) (fun v w w' hc hv => hv)) ?_
      refine je ?_
      refine fun a w hc HF hf => ?_
      try dsimp only [push] at hf
      obtain ⟨cs, B5, hcs⟩ := HF
      cases hcs
      replace e := e.ch hc (fun b hb => by rw [hb]; omega)
      replace hz1 := Dv.ch hz1 hc (fun b hb => nZ b (.inl (by rw [hb]; exact l5)))
      replace hz2 := Dv.ch hz2 hc (fun b hb => nZ b (.inl (by rw [hb]; exact l5)))
      clear hc
      refine tl_nil ?_
      refine wret (ret2t rfl T25 hf rfl rfl B5 rfl ?_)
      rintro x hx
      exact ⟨_, rfl, e, Tup.two ⟨fun _ => by rw [hfw]; exact Dv.weak hx fun b _ hb => hb.elim, fun h => by rw [hfw] at h; cases h⟩ (by rw [hfw]; exact Dv.gt.2 ⟨_, _, rfl, Dv.weak hz1 fun b _ hb => hb.elim, Dv.weak hz2 fun b _ hb => hb.elim⟩)⟩
end Go.Mono

namespace Go.Mono
open Go Go.Proofs Go.RowKit Go.Gr
theorem insV_len (l : List VT) (x : VT) : (insV l x).length = l.length + 1 := by
  have := (insW_perm (fun y => lt1 x.1 y.1) x l).length_eq
  rw [List.length_cons] at this
  exact this
theorem doR_dV (g : GT) (x : VT) : (doR g (dV x)).1.1.length ≤ g.1.length + 1 := by
  unfold doR
  split
  · exact Nat.le_succ _
  · rw [if_pos (by rfl)]
    dsimp only
    rw [insV_len]
    exact Nat.le_refl _
theorem doR_dE (g : GT) (x : ET) : (doR g (dE x)).1.1 = g.1 := by
  unfold doR
  split
  · rfl
  · rw [if_neg (show ¬((dE x).1 == 0) = true from (by decide : ¬((2 : Int) == 0) = true)), if_pos (by rfl)]
theorem ofV_len : ∀ (l : List VT) (s : GT × Int), ((l.map dV).foldl ofS s).1.1.length ≤ s.1.1.length + l.length := by
  intro l
  induction l with
  | nil => intro s; exact Nat.le_refl _
  | cons x l ih =>
    intro s
    rw [List.map_cons, List.foldl_cons]
    refine Nat.le_trans (ih _) ?_
    have h : (ofS s (dV x)).1.1.length ≤ s.1.1.length + 1 := by
      unfold ofS
      split
      · exact Nat.le_succ _
      · split
        · exact Nat.zero_le _
        · exact doR_dV s.1 x
    rw [List.length_cons]; omega
theorem ofE_len : ∀ (l : List ET) (s : GT × Int), ((l.map dE).foldl ofS s).1.1.length ≤ s.1.1.length := by
  intro l
  induction l with
  | nil => intro s; exact Nat.le_refl _
  | cons x l ih =>
    intro s
    rw [List.map_cons, List.foldl_cons]
    refine Nat.le_trans (ih _) ?_
    unfold ofS
    split
    · exact Nat.le_refl _
    · split
      · exact Nat.zero_le _
      · dsimp only; rw [doR_dE]; exact Nat.le_refl _
theorem ofR_vlen (V : List VT) (E' : List ET) : (ofR V E').1.1.length ≤ V.length := by
  rw [ofR, List.foldl_append]
  refine Nat.le_trans (ofE_len _ _) (Nat.le_trans (ofV_len V _) ?_)
  simp
/-- what is known of a law's graph -/
structure TwOk (gg : GT) (most : Int) : Prop where
  ok : Gr.Ok gg
  l1 : gg.1.length ≤ most
  l2 : gg.2.length ≤ 1000
theorem twOk {g : GT} {most : Int} (h : (frW g most).2 = true) (hV : ∀ x ∈ g.1, 0 ≤ x.2.1 ∧ x.2.1 < 256) (hE : ∀ x ∈ g.2, 0 ≤ x.2.1 ∧ x.2.1 < 256) (hm : most ≤ 100) : TwOk (frW g most).1 most := by
  by_cases h1 : (decide (most < (g.1.length : Nat)) || decide ((40 : Int) < (g.2.length : Nat))) = true
  · rw [frW, if_pos h1] at h; cases h
  · by_cases h2 : (ofR g.1 g.2).2 ≠ 0
    · rw [frW, if_neg h1, if_pos h2] at h; cases h
    · have e : frW g most = ((ofR g.1 g.2).1, true) := by rw [frW, if_neg h1, if_neg h2]
      have h3 := ofR_vlen g.1 g.2
      have h4 := ofR_len (V := g.1) (E := g.2) (Decidable.not_not.1 h2)
      rw [Bool.or_eq_true, not_or, decide_eq_true_eq, decide_eq_true_eq] at h1
      rw [e]
      exact ⟨ofR_ok hV hE, by dsimp only; omega, by dsimp only; omega⟩
end Go.Mono

namespace Go.Mono
open Go Go.RowKit
def bC (n : Nat) (f : Nat → Bool) : Array Value := ((List.range n).map fun j => Value.bool (f j)).toArray
theorem bC_size (n : Nat) (f : Nat → Bool) : (bC n f).size = n := by simp [bC]
theorem bC_get {n i : Nat} {f : Nat → Bool} (h : i < n) : (bC n f)[i]? = some (.bool (f i)) := by simp [bC, h]
theorem bC_congr {n : Nat} {f g : Nat → Bool} (h : ∀ i, i < n → f i = g i) : bC n f = bC n g := by
  unfold bC
  congr 1
  exact List.map_congr_left fun i hi => by rw [h i (List.mem_range.1 hi)]
theorem bC_set (n : Nat) (f : Nat → Bool) (j : Nat) (b : Bool) : (bC n f).setIfInBounds j (.bool b) = bC n (fun i => if i = j then b else f i) := by
  apply Array.ext_getElem?
  intro i
  by_cases hi : i < n
  · rw [bC_get hi]
    by_cases hk : i = j
    · subst hk
      rw [Array.getElem?_setIfInBounds_self_of_lt (by rw [bC_size]; exact hi)]
      simp
    · rw [Array.getElem?_setIfInBounds_ne (Ne.symm hk), bC_get hi]
      simp [hk]
  · rw [Array.getElem?_eq_none (by simp [bC_size]; omega), Array.getElem?_eq_none (by simp [bC_size]; omega)]
theorem bC_made (n : Nat) : (List.replicate n (Value.bool false)).toArray = bC n fun _ => false := by
  apply Array.ext_getElem?
  intro i
  by_cases hi : i < n
  · rw [bC_get hi]; simp [hi]
  · rw [Array.getElem?_eq_none (by simp; omega), Array.getElem?_eq_none (by simp [bC_size]; omega)]
def oC (n k : Nat) (rb : Nat → Nat) : Array Value := ((List.range n).map fun i => if i < k then Value.slice (some ⟨rb i, 0, none⟩) n n else .slice none 0 0).toArray
theorem oC_size (n k : Nat) (rb : Nat → Nat) : (oC n k rb).size = n := by simp [oC]
theorem oC_get {n k i : Nat} {rb : Nat → Nat} (h : i < k) (hk : k ≤ n) : (oC n k rb)[i]? = some (.slice (some ⟨rb i, 0, none⟩) n n) := by
  have : i < n := by omega
  simp [oC, h, this]
theorem oC_made (n : Nat) (rb : Nat → Nat) : (List.replicate n (Value.slice none 0 0)).toArray = oC n 0 rb := by
  apply Array.ext_getElem?
  intro i
  by_cases hi : i < n
  · simp [oC, hi]
  · rw [Array.getElem?_eq_none (by simp; omega), Array.getElem?_eq_none (by simp [oC_size]; omega)]
def adB (rb : Nat → Nat) (k b : Nat) : Nat → Nat := fun i => if i = k then b else rb i
theorem oC_set {n k b : Nat} {rb : Nat → Nat} (hk : k < n) : (oC n k rb).setIfInBounds k (.slice (some ⟨b, 0, none⟩) n n) = oC n (k + 1) (adB rb k b) := by
  apply Array.ext_getElem?
  intro i
  by_cases hi : i < n
  · by_cases hik : i = k
    · subst hik
      rw [Array.getElem?_setIfInBounds_self_of_lt (by rw [oC_size]; exact hi), oC_get (Nat.lt_succ_self _) hi]
      simp [adB]
    · rw [Array.getElem?_setIfInBounds_ne (Ne.symm hik)]
      by_cases h : i < k
      · rw [oC_get h (by omega), oC_get (show i < k + 1 by omega) (by omega)]
        simp [adB, hik]
      · have h' : ¬ i < k + 1 := by omega
        simp [oC, hi, h, h']
  · rw [Array.getElem?_eq_none (by simp [oC_size]; omega), Array.getElem?_eq_none (by simp [oC_size]; omega)]
/-- a square of truth values, of which k rows are made -/
structure MatR (tr tb : TypeId) (N n k : Nat) (rb : Nat → Nat) (M : Nat → Nat → Bool) (bo : Nat) (w : World) : Prop where
  o : Blk w bo (oC n k rb) tr
  r : ∀ i, i < k → Blk w (rb i) (bC n (M i)) tb
  d : ∀ i j, i < k → j < k → rb i = rb j → i = j
  lo : N ≤ bo ∧ ∀ i, i < k → N ≤ rb i
  ty : tr ≠ tb
section
variable {tr tb : TypeId} {N n k : Nat} {rb : Nat → Nat} {M M' : Nat → Nat → Bool} {bo : Nat} {w w' : World}
theorem Blk.tyNe {a b : Nat} {cs cs' : Array Value} {t t' : TypeId} (h : Blk w a cs t) (h' : Blk w b cs' t') (ht : t ≠ t') : a ≠ b := by
  rintro rfl
  unfold Blk at h h'
  rw [h] at h'
  cases h'; exact ht rfl
theorem MatR.gro (h : MatR tr tb N n k rb M bo w) {row : Option Nat} (hg : w.grownBy w' row) (h0 : row ≠ some bo) (h1 : ∀ i, i < k → row ≠ some (rb i)) : MatR tr tb N n k rb M bo w' :=
  ⟨(hg.block bo h.o.lt (fun e => h0 e.symm)).trans h.o, fun i hi => (hg.block _ (h.r i hi).lt (fun e => h1 i hi e.symm)).trans (h.r i hi), h.d, h.lo, h.ty⟩
theorem MatR.ext (h : MatR tr tb N n k rb M bo w) (e : Ext w w') : MatR tr tb N n k rb M bo w' := ⟨h.o.ext e, fun i hi => (h.r i hi).ext e, h.d, h.lo, h.ty⟩
theorem MatR.congr (h : MatR tr tb N n k rb M bo w) (hM : ∀ i, i < k → ∀ j, j < n → M i j = M' i j) : MatR tr tb N n k rb M' bo w :=
  ⟨h.o, fun i hi => by rw [← bC_congr (hM i hi)]; exact h.r i hi, h.d, h.lo, h.ty⟩
theorem MatR.add (h : MatR tr tb N n k rb M bo w) {b : Nat} {f : Nat → Bool} (hb : Blk w b (bC n f) tb) (hn : ∀ i, i < k → rb i ≠ b) (hN : N ≤ b) (hk : k < n) (hg : w.grownBy w' (some bo)) (ho : Blk w' bo ((oC n k rb).setIfInBounds k (.slice (some ⟨b, 0, none⟩) n n)) tr) :
    MatR tr tb N n (k + 1) (adB rb k b) (fun i => if i = k then f else M i) bo w' := by
  refine ⟨by rw [← oC_set hk]; exact ho, fun i hi => ?_, fun i j hi hj hij => ?_, ⟨h.lo.1, fun i hi => ?_⟩, h.ty⟩
  · by_cases hik : i = k
    · subst hik
      simp only [adB, if_true]
      exact hb.gr hg fun e => h.o.tyNe hb h.ty e.symm
    · simp only [adB, if_neg hik]
      exact (h.r i (by omega)).gr hg fun e => h.o.tyNe (h.r i (by omega)) h.ty e.symm
  · by_cases hik : i = k <;> by_cases hjk : j = k
    · omega
    · simp only [adB, if_neg hjk, hik, if_true] at hij
      exact absurd hij.symm (hn j (by omega))
    · simp only [adB, if_neg hik, hjk, if_true] at hij
      exact absurd hij (hn i (by omega))
    · simp only [adB, if_neg hik, if_neg hjk] at hij
      exact h.d i j (by omega) (by omega) hij
  · by_cases hik : i = k
    · simp only [adB, hik, if_true]; exact hN
    · simp only [adB, if_neg hik]; exact h.lo.2 i (by omega)
def upM (M : Nat → Nat → Bool) (i j : Nat) (b : Bool) : Nat → Nat → Bool := fun a c => if a = i ∧ c = j then b else M a c
theorem MatR.put (h : MatR tr tb N n k rb M bo w) {i j : Nat} {b : Bool} (hi : i < k) (hg : w.grownBy w' (some (rb i))) (hb : Blk w' (rb i) ((bC n (M i)).setIfInBounds j (.bool b)) tb) : MatR tr tb N n k rb (upM M i j b) bo w' := by
  refine ⟨h.o.gr hg (h.o.tyNe (h.r i hi) h.ty), fun a ha => ?_, h.d, h.lo, h.ty⟩
  by_cases hai : a = i
  · subst hai
    rw [bC_set] at hb
    rw [show (upM M a j b a) = fun c => if c = j then b else M a c from funext fun c => by simp [upM]]
    exact hb
  · rw [show upM M i j b a = M a from funext fun c => by simp [upM, hai]]
    exact (h.r a ha).gr hg fun e => hai (h.d a i ha hi e)
theorem MatR.ne (h : MatR tr tb N n k rb M bo w) {b : Nat} {cs : Array Value} {t : TypeId} (hb : Blk w b cs t) (h1 : t ≠ tr) (h2 : t ≠ tb) : b ≠ bo ∧ ∀ i, i < k → b ≠ rb i :=
  ⟨hb.tyNe h.o h1, fun i hi => hb.tyNe (h.r i hi) h2⟩
end
end Go.Mono

namespace Go.Mono
open Go Go.Proofs Go.RowKit Go.Gr

def idsG (g : GT) : List Int := g.1.map (·.1)
theorem ids_spec {G : Nat → Prop} (g : GT) (v : Value) (W : World) (h : (Dv gtE G g).p v W) (hl : g.1.length ≤ 100000) :
    Calls Tryz.prog 13 #[v] W (Post (OwA intE 3 W.heap.size Go.Mono.G0 (idsG g)) W) := by
  obtain ⟨u1, u2, rfl, h1, h2⟩ := Dv.gt.1 (Dv.weak (G' := Go.Mono.G0) h fun b _ hb => hb.elim)
  have h1b := Dv.toB h1
  refine enter (args := [.agg #[u1, u2]]) (As := [E (.agg #[u1, u2])]) Tryz.func13 rfl Tryz.ntmps13 (Nat.le_of_ble_eq_true rfl) ?_ (fun a hf => ?_) (Nat.le_of_ble_eq_true rfl)
  rotate_left
  dsimp only [params, Nat.reduceAdd] at hf
  rotate_right
  · exact arg1 rfl
  have e := Ext.rfl' W
  repeat refine seq ?_
  refine regn0 ?_
  refine tl_box hf rfl (by decide) fun a b1 w v1 hv1 e' hb1 hs1 B1 hf => ?_
  have hle1 := Nat.le_trans e.size (Nat.le_of_eq hb1.symm)
  replace e := Ext.tr e e'
  clear e'
  refine tl_as hf rfl (by decide) fun a hf => ?_
  refine tl_nil ?_
  cases hv1
  replace B1 : Blk w b1 #[u1, u2] 25 := B1
  obtain ⟨N, hN⟩ : ∃ N, N = w.heap.size := ⟨_, rfl⟩
  have l1 : b1 < N := by rw [hN]; exact B1.lt
  have hNs : N ≤ w.heap.size := Nat.le_of_eq hN
  have hWN : W.heap.size ≤ N := by rw [hN]; exact e.size
  clear hN
  repeat refine seq ?_
  refine regn0 ?_
  refine tl_as hf rfl (by decide) fun a hf => ?_
  refine tl_nil ?_
  repeat refine seq ?_
  refine regn0 ?_
  refine tl_as hf rfl (by decide) fun a hf => ?_
  refine tl_nil ?_
  replace hf := hf.keep [1, 3, 4]
  dsimp only [keep, List.filterMap, look, Nat.beq, Option.map] at hf
  repeat refine seq ?_
  refine blk (loopN (fun r0 a w => ∃ (k : Nat) (u : Value), r0 = g.1.length - k ∧ k ≤ g.1.length ∧ Fr 22 a w [(1, E (ptr b1)), (3, E u), (4, E (I k))] ∧ Ext W w ∧ Blk w b1 #[u1, u2] 25 ∧ OwR intE 3 N Go.Mono.G0 w ((idsG g).take k) u) g.1.length ⟨0, .slice none 0 0, rfl, by omega, hf, e, ⟨B1, OwR.nil intE _ hNs fun b hb => hb.elim⟩⟩ ?_)
  clear hf e; try clear B1; try clear Ho
  rintro r0 a w ⟨k, u, rfl, hk, hf, e, B1, Ho⟩
  repeat refine seq ?_
  refine regn 5 hf (by decide +kernel) ?_
  refine st (mv rfl) ?_
  refine st (fldA Tryz.underlying25 rfl T22 (by decide) rfl) ?_
  refine st (ld1 T22 rfl B1 rfl) ?_
  refine st (lenD Tryz.underlying22 (isE rfl (VA.st _ _ _ _ e h1))) ?_
  refine st (lss rfl rfl) ?_
  refine en fun a w e' hf => ?_
  replace e := Ext.tr e e'
  replace B1 := B1.ext e'
  replace Ho := Ho.ext e'
  clear e'
  refine tl_nil ?_
  repeat refine seq ?_
  refine ifc hf rfl (fun hc => wskip ?_) (fun hc => wexit ?_)
  rotate_left
  rotate_left
  · have hlt : k < g.1.length := by have := of_decide_eq_true hc; (try dsimp only at this); omega
    clear hc
    replace hf := hf.keep [1, 3, 4]
    dsimp only [keep, List.filterMap, look, Nat.beq, Option.map] at hf
    repeat refine seq ?_
    refine blk ?_
    have hx := List.getElem?_eq_getElem hlt
    generalize g.1[k] = y at hx
    have hxi : (idsG g)[k]? = some y.1 := by rw [idsG, List.getElem?_map, hx]; rfl
    have hlk := List.length_take_le k (idsG g)
    have hlI : (idsG g).length = g.1.length := by simp [idsG]
    repeat refine seq ?_
    refine regn 8 hf (by decide +kernel) ?_
    refine st (mv rfl) ?_
    refine st (fldA Tryz.underlying25 rfl T22 (by decide) rfl) ?_
    refine st (ld1 T22 rfl B1 rfl) ?_
    refine st (mv rfl) ?_
    refine st (idxD Tryz.underlying22 S66 (isE rfl (VA.st _ _ _ _ e h1b)) rfl (by omega) (hx)) ?_
    refine st (fldD Tryz.underlying66 rfl T3 (by decide) (Fld.fst Fld.refl) (isR rfl)) ?_
    refine st (ldI T3 (isR rfl)) ?_
    refine st (bsl1 Tryz.underlying30 I3 rfl (by decide) rfl Ho.avs (isI rfl)) ?_
    refine en fun a w e' hf => ?_
    replace B1 := B1.ext e'
    replace Ho := Ho.ext e'
    replace e := Ext.tr e e'
    clear e'
    haveI hin : ∀ G0, InR (GB W G0) _ := OwR.inGB (W := W) Ho hWN
    refine tl_app Tryz.underlying30 I3 rfl rfl hf (by decide) rfl Ho (isR rfl) (by simp only [List.length_singleton]; omega) (by simp only [List.length_singleton, maxLen]; omega) fun a v w hg hat Hn hf => ?_
    replace e := e.gro hg (Ho.row (W := W) hWN)
    have hrow := Ho.row (W := W) hWN
    replace B1 := B1.gro hg (Ho.neLt l1)
    replace Ho := Hn
    clear hrow
    replace Ho := Hn; clear Hn hg hat hin
    refine tl_as hf rfl (by decide) fun a hf => ?_
    refine tl_nil ?_
    rw [← take_succ_get hxi] at Ho
    try simp only [Exit.then, Exit.inBlock, ↓reduceIte]
    repeat refine seq ?_
    refine regn 2 hf (by decide +kernel) ?_
    refine st (mv rfl) ?_
    refine st ((add rfl rfl (by omega)).eq (congrArg (Value.int .i64) (show (k : Int) + 1 = ((k + 1 : Nat) : Int) from rfl))) ?_
    refine en fun a w e' hf => ?_
    replace e := Ext.tr e e'
    replace B1 := B1.ext e'
    replace Ho := Ho.ext e'
    clear e'
    refine tl_as hf rfl (by decide) fun a hf => ?_
    refine tl_nil ?_
    replace hf := hf.keep [1, 3, 4]
    dsimp only [keep, List.filterMap, look, Nat.beq, Option.map] at hf
    refine ⟨_, ?_, k + 1, _, rfl, by omega, hf, e, ?_⟩
    · omega
    exact ⟨B1, Ho⟩
  · obtain rfl : k = g.1.length := by have := of_decide_eq_false hc; (try dsimp only at this); omega
    clear hc
    simp only [Exit.then, Exit.inBlock, ↓reduceIte]
    rw [show g.1.length = (idsG g).length by simp [idsG], List.take_length] at Ho
    repeat refine seq ?_
    refine regn 1 hf (by decide +kernel) ?_
    refine st (mv rfl) ?_
    refine en fun a w e' hf => ?_
    replace e := Ext.tr e e'
    replace Ho := Ho.ext e'
    clear e'
    refine tl_as hf rfl (by decide) fun a hf => ?_
    refine tl_nil ?_
    refine wret (ret1 rfl hf rfl ?_)
    rintro _ rfl
    exact ⟨_, rfl, e, Ho.low hWN fun b hb => hb.elim⟩
end Go.Mono

namespace Go.Mono
open Go Go.Proofs Go.RowKit Go.Gr

abbrev Mx := Nat → Nat → Bool
/-- who is joined at the start, by position -/
def M0 (g : GT) : Mx := fun a c => decide (0 ≤ edgF g.2 (gi (idsG g) a) (gi (idsG g) c))
def nrTo (M : Mx) (gone : Nat → Bool) (p k : Nat) : List Nat := (List.range k).filter fun j => M p j && !gone j
theorem nrTo_succ (M : Mx) (gone : Nat → Bool) (p k : Nat) : nrTo M gone p (k + 1) = nrTo M gone p k ++ if (M p k && !gone k) = true then [k] else [] := by
  rw [nrTo, List.range_succ, List.filter_append, nrTo, List.filter_cons, List.filter_nil]
theorem nrTo_len (M : Mx) (gone : Nat → Bool) (p k : Nat) : (nrTo M gone p k).length ≤ k := by
  have := List.length_filter_le (fun j => M p j && !gone j) (List.range k)
  rw [List.length_range] at this
  exact this
theorem nrTo_lt {M : Mx} {gone : Nat → Bool} {p k j : Nat} (h : j ∈ nrTo M gone p k) : j < k := List.mem_range.1 (List.mem_filter.1 h).1
theorem nrTo_nodup (M : Mx) (gone : Nat → Bool) (p k : Nat) : (nrTo M gone p k).Nodup := List.nodup_range.sublist List.filter_sublist
def fillB (a : Nat) (M : Mx) (b : Nat) : Mx := if a ≠ b then upM M a b true else M
def fillA (nr : List Nat) (M : Mx) (a : Nat) : Mx := nr.foldl (fillB a) M
def fillM (nr : List Nat) (M : Mx) : Mx := nr.foldl (fillA nr) M
/-- one vertex eliminated: who is joined, who is gone, the greatest number so far -/
def csS (n : Nat) (s : Mx × (Nat → Bool) × Int) (p : Nat) : Mx × (Nat → Bool) × Int :=
  let gone := fun i => if i = p then true else s.2.1 i
  let nr := nrTo s.1 gone p n
  (fillM nr s.1, gone, if s.2.2 < (nr.length : Nat) then (nr.length : Nat) else s.2.2)
def csTo (g : GT) (order : List Int) : Mx × (Nat → Bool) × Int := order.foldl (fun s x => csS g.1.length s (fndF g.1 x).toNat) (M0 g, fun _ => false, -1)
def costG (g : GT) (order : List Int) : Int := (csTo g order).2.2
theorem nodup_inj {α : Type} {l : List α} (hn : l.Nodup) {i j : Nat} {a : α} (hi : l[i]? = some a) (hj : l[j]? = some a) : i = j := by
  obtain ⟨h1, rfl⟩ := List.getElem?_eq_some_iff.1 hi
  obtain ⟨h2, h3⟩ := List.getElem?_eq_some_iff.1 hj
  have hp := List.pairwise_iff_getElem.1 hn
  rcases Nat.lt_trichotomy i j with h | h | h
  · exact absurd h3.symm (hp i j h1 h2 h)
  · exact h
  · exact absurd h3 (hp j i h2 h1 h)
theorem cost_spec {G G' : Nat → Prop} (g : GT) (order : List Int) (v u : Value) (W : World) (h : (Dv gtE G g).p v W) (h' : (Dv (slE intE) G' order).p u W) (hl : g.1.length ≤ 1000) (hl2 : g.2.length ≤ 1000) (hlo : order.length ≤ 1000) (hin : ∀ x ∈ order, 0 ≤ fndF g.1 x ∧ fndF g.1 x < (g.1.length : Nat)) :
    Calls Tryz.prog 17 #[v, u] W (Post (E (I (costG g order))) W) := by
  obtain ⟨u1, u2, rfl, h1, h2⟩ := Dv.gt.1 (Dv.weak (G' := Go.Mono.G0) h fun b _ hb => hb.elim)
  have hg0 : (Dv gtE Go.Mono.G0 g).p (.agg #[u1, u2]) W := Dv.gt.2 ⟨_, _, rfl, h1, h2⟩
  have hord : (Dv (slE intE) Go.Mono.G0 order).p u W := Dv.weak h' fun b _ hb => hb.elim
  clear h h'
  refine enter (args := [.agg #[u1, u2], u]) (As := [E (.agg #[u1, u2]), E u]) Tryz.func17 rfl Tryz.ntmps17 (Nat.le_of_ble_eq_true rfl) ?_ (fun a hf => ?_) (Nat.le_of_ble_eq_true rfl)
  rotate_left
  dsimp only [params, Nat.reduceAdd] at hf
  rotate_right
  · exact arg2 rfl rfl
  have e := Ext.rfl' W
  obtain ⟨n, hn⟩ : ∃ n, n = g.1.length := ⟨_, rfl⟩
  have hlI : (idsG g).length = n := by simp [idsG, hn]
  repeat refine seq ?_
  refine regn0 ?_
  refine tl_box hf rfl (by decide) fun a b2 w v2 hv2 e' hb2 hs2 B2 hf => ?_
  have hle2 := Nat.le_trans e.size (Nat.le_of_eq hb2.symm)
  replace e := Ext.tr e e'
  clear e'
  refine tl_as hf rfl (by decide) fun a hf => ?_
  refine tl_nil ?_
  cases hv2
  replace B2 : Blk w b2 #[u1, u2] 25 := B2
  replace hf := hf.keep [1, 2, 4]
  dsimp only [keep, List.filterMap, look, Nat.beq, Option.map] at hf
  have e1 := e
  obtain ⟨N1, hN1⟩ : ∃ N1, N1 = w.heap.size := ⟨_, rfl⟩
  have hN1s : N1 ≤ w.heap.size := Nat.le_of_eq hN1
  have l2 : b2 < N1 := by rw [hN1]; exact B2.lt
  repeat refine seq ?_
  refine regn 2 hf (by decide +kernel) ?_
  refine st ((ldW T25 rfl B2 rfl).eq ((rfl : _ = Value.agg #[u1, u2]))) ?_
  refine st (call1 (A := OwA intE 3 N1 Go.Mono.G0 (idsG g)) En13 rfl (fun v w he k => by cases k; exact (ids_spec g _ w (VA.st _ _ _ _ (Ext.tr e1 he) hg0) (by omega)).mono fun en w' ⟨u, k1, k2, k3⟩ => ⟨u, k1, k2, OwR.low k3 (Nat.le_trans hN1s he.size) fun b hb => hb.elim⟩)) ?_
  refine en fun a w e' hf => ?_
  replace e := Ext.tr e e'
  replace B2 := B2.ext e'
  clear e'
  refine tl_as hf rfl (by decide) fun a hf => ?_
  refine tl_nil ?_
  obtain ⟨iv, Hi, hf⟩ := hf.opn 5 rfl
  replace Hi : OwR intE 3 N1 Go.Mono.G0 w (idsG g) iv := Hi
  obtain ⟨N, hN⟩ : ∃ N, N = w.heap.size := ⟨_, rfl⟩
  have hNs : N ≤ w.heap.size := Nat.le_of_eq hN
  have hWN : W.heap.size ≤ N := by rw [hN]; exact e.size
  have l2N : b2 < N := by rw [hN]; exact B2.lt
  have HI : (Dv (slE intE) (fun b => N ≤ b) (idsG g)).p iv w := Hi.slN fun b hb hh => by have := (Hi.lt hb).2; omega
  clear Hi hN hN1s hN1 l2 e1
  replace hf := hf.keep [1, 2, 4, 5]
  dsimp only [keep, List.filterMap, look, Nat.beq, Option.map] at hf
  repeat refine seq ?_
  refine regn 2 hf (by decide +kernel) ?_
  refine st (mv rfl) ?_
  refine st ((lenD Tryz.underlying30 (isE rfl HI)).eq (congrArg I (congrArg Int.ofNat hlI))) ?_
  refine en fun a w e' hf => ?_
  replace HI := VA.st _ _ _ _ e' HI
  replace hNs := Nat.le_trans hNs e'.size
  replace e := Ext.tr e e'
  replace B2 := B2.ext e'
  clear e'
  refine tl_as hf rfl (by decide) fun a hf => ?_
  refine tl_nil ?_
  replace hf := hf.keep [1, 2, 4, 5, 6]
  dsimp only [keep, List.filterMap, look, Nat.beq, Option.map] at hf
  replace hf := hf.upd 6 rfl (B := E (I (n : Nat))) (fun v h => h)
  replace hf := hf.keep [1, 2, 4, 5, 6]
  dsimp only [keep, List.filterMap, look, Nat.beq, Option.map] at hf
  repeat refine seq ?_
  refine regn 1 hf (by decide +kernel) ?_
  refine st (mv rfl) ?_
  refine en fun a w e' hf => ?_
  replace HI := VA.st _ _ _ _ e' HI
  replace hNs := Nat.le_trans hNs e'.size
  replace e := Ext.tr e e'
  replace B2 := B2.ext e'
  clear e'
  refine tl_mk Tryz.underlying89 I90 rfl hf (by decide) rfl (by omega) (by decide) fun a b23 w e' hb23 hs23 B23 hf => ?_
  have hle23 := Nat.le_trans e.size (Nat.le_of_eq hb23.symm)
  have lo23_hNs := Nat.le_trans hNs (Nat.le_of_eq hb23.symm)
  have lt23_B2 := B2.lt
  replace HI := VA.st _ _ _ _ e' HI
  replace hNs := Nat.le_trans hNs e'.size
  replace e := Ext.tr e e'
  replace B2 := B2.ext e'
  clear e'
  refine tl_as hf rfl (by decide) fun a hf => ?_
  refine tl_nil ?_
  rw [oC_made n fun _ => 0] at B23
  have n23 : N ≤ b23 := by omega
  have HM : MatR 90 4 N n 0 (fun _ => 0) (M0 g) b23 w := ⟨B23, fun i hi => by omega, fun i j hi => by omega, ⟨n23, fun i hi => by omega⟩, by decide⟩
  clear B23
  replace hf := hf.keep [1, 2, 5, 6, 7]
  dsimp only [keep, List.filterMap, look, Nat.beq, Option.map] at hf
  repeat refine seq ?_
  refine regn0 ?_
  refine tl_as hf rfl (by decide) fun a hf => ?_
  refine tl_nil ?_
  replace hf := hf.keep [1, 2, 5, 6, 7, 8]
  dsimp only [keep, List.filterMap, look, Nat.beq, Option.map] at hf
  repeat refine seq ?_
  refine blk (loopN (fun r0 a w => ∃ (k : Nat) (rb : Nat → Nat), r0 = n - k ∧ k ≤ n ∧ Fr 130 a w [(1, E u), (2, E (ptr b2)), (5, E iv), (6, E (I (n : Nat))), (7, E (.slice (some ⟨b23, 0, none⟩) n n)), (8, E (I k))] ∧ Ext W w ∧ Blk w b2 #[u1, u2] 25 ∧ (Dv (slE intE) (fun b => N ≤ b) (idsG g)).p iv w ∧ MatR 90 4 N n k rb (M0 g) b23 w) n ⟨0, fun _ => 0, rfl, by omega, hf, e, ⟨B2, HI, HM⟩⟩ ?_)
  clear hf e; try clear B2; try clear HI; try clear HM
  rintro r0 a w ⟨k, rb, rfl, hk, hf, e, B2, HI, HM⟩
  repeat refine seq ?_
  refine regn 3 hf (by decide +kernel) ?_
  refine st (mv rfl) ?_
  refine st (mv rfl) ?_
  refine st (lss rfl rfl) ?_
  refine en fun a w e' hf => ?_
  replace HI := VA.st _ _ _ _ e' HI
  replace HM := HM.ext e'
  replace e := Ext.tr e e'
  replace B2 := B2.ext e'
  clear e'
  refine tl_nil ?_
  repeat refine seq ?_
  refine ifc hf rfl (fun hc => wskip ?_) (fun hc => wexit ?_)
  rotate_left
  rotate_left
  · have hlt : k < n := by have := of_decide_eq_true hc; (try dsimp only at this); omega
    clear hc
    replace hf := hf.keep [1, 2, 5, 6, 7, 8]
    dsimp only [keep, List.filterMap, look, Nat.beq, Option.map] at hf
    repeat refine seq ?_
    refine blk ?_
    have hNs : N ≤ w.heap.size := Nat.le_of_lt (Nat.lt_of_le_of_lt n23 HM.o.lt)
    repeat refine seq ?_
    refine regn 3 hf (by decide +kernel) ?_
    refine st (mv rfl) ?_
    refine st (mv rfl) ?_
    refine st (mv rfl) ?_
    refine en fun a w e' hf => ?_
    replace HI := VA.st _ _ _ _ e' HI
    replace HM := HM.ext e'
    replace hNs := Nat.le_trans hNs e'.size
    replace e := Ext.tr e e'
    replace B2 := B2.ext e'
    clear e'
    have hfr : ∀ i, i < k → rb i < w.heap.size := fun i hi => (HM.r i hi).lt
    refine tl_mk Tryz.underlying90 I4 rfl hf (by decide) rfl (by omega) (by decide) fun a b32 w e' hb32 hs32 B32 hf => ?_
    have hle32 := Nat.le_trans e.size (Nat.le_of_eq hb32.symm)
    have lo32_hNs := Nat.le_trans hNs (Nat.le_of_eq hb32.symm)
    have lt32_B2 := B2.lt
    replace HI := VA.st _ _ _ _ e' HI
    replace HM := HM.ext e'
    replace hNs := Nat.le_trans hNs e'.size
    replace e := Ext.tr e e'
    replace B2 := B2.ext e'
    clear e'
    refine tl_op hf (by decide) (idxS Tryz.underlying89 S90 rfl rfl (by omega)) fun a w e' hf => ?_
    replace HI := VA.st _ _ _ _ e' HI
    replace HM := HM.ext e'
    replace hNs := Nat.le_trans hNs e'.size
    replace e := Ext.tr e e'
    replace B2 := B2.ext e'
    replace B32 := B32.ext e'
    clear e'
    rw [bC_made] at B32
    have n32 : N ≤ b32 := by omega
    refine tl_st1 T90 hf rfl rfl rfl HM.o (by rw [oC_size]; omega) fun w hg hsz Bo hf => ?_
    rw [show 0 + ((k : Nat) : Int).toNat * 1 = k by omega] at Bo
    have nb23 : b23 ≠ b32 := HM.o.tyNe B32 (by decide)
    replace HM := HM.add B32 (fun i hi => by have := hfr i hi; omega) n32 hlt hg Bo
    replace e := e.gr hg (by omega); replace B2 := B2.gr hg (by omega); replace HI := Dv.grN HI hg (fun bb hb => by cases hb; omega)
    clear hg Bo B32 hfr hNs
    replace HM : MatR 90 4 N n (k + 1) (adB rb k b32) (fun a c => if a < k ∨ c < 0 then M0 g a c else false) b23 w := HM.congr fun i hi j hj => by
      by_cases h : i = k
      · simp [h]
      · have h' : i < k := by omega
        simp [h, h']
    generalize adB rb k b32 = rb' at HM
    refine tl_nil ?_
    replace hf := hf.keep [1, 2, 5, 6, 7, 8]
    dsimp only [keep, List.filterMap, look, Nat.beq, Option.map] at hf
    repeat refine seq ?_
    refine regn0 ?_
    refine tl_as hf rfl (by decide) fun a hf => ?_
    refine tl_nil ?_
    replace hf := hf.keep [1, 2, 5, 6, 7, 8, 9]
    dsimp only [keep, List.filterMap, look, Nat.beq, Option.map] at hf
    repeat refine seq ?_
    refine blk (loopN (fun r0 a w => ∃ (j : Nat) , r0 = n - j ∧ j ≤ n ∧ Fr 130 a w [(1, E u), (2, E (ptr b2)), (5, E iv), (6, E (I (n : Nat))), (7, E (.slice (some ⟨b23, 0, none⟩) n n)), (8, E (I k)), (9, E (I j))] ∧ Ext W w ∧ Blk w b2 #[u1, u2] 25 ∧ (Dv (slE intE) (fun b => N ≤ b) (idsG g)).p iv w ∧ MatR 90 4 N n (k + 1) rb' (fun a c => if a < k ∨ c < j then M0 g a c else false) b23 w) n ⟨0, rfl, by omega, hf, e, ⟨B2, HI, HM⟩⟩ ?_)
    clear hf e; try clear B2; try clear HI; try clear HM
    rintro r0 a w ⟨j, rfl, hj, hf, e, B2, HI, HM⟩
    repeat refine seq ?_
    refine regn 3 hf (by decide +kernel) ?_
    refine st (mv rfl) ?_
    refine st (mv rfl) ?_
    refine st (lss rfl rfl) ?_
    refine en fun a w e' hf => ?_
    replace HI := VA.st _ _ _ _ e' HI
    replace HM := HM.ext e'
    replace e := Ext.tr e e'
    replace B2 := B2.ext e'
    clear e'
    refine tl_nil ?_
    repeat refine seq ?_
    refine ifc hf rfl (fun hc => wskip ?_) (fun hc => wexit ?_)
    rotate_left
    rotate_left
    · have hltj : j < n := by have := of_decide_eq_true hc; (try dsimp only at this); omega
      clear hc
      replace hf := hf.keep [1, 2, 5, 6, 7, 8, 9]
      dsimp only [keep, List.filterMap, look, Nat.beq, Option.map] at hf
      repeat refine seq ?_
      refine blk ?_
      have hxk : (idsG g)[k]? = some (gi (idsG g) k) := gi_get (by omega)
      have hxj : (idsG g)[j]? = some (gi (idsG g) j) := gi_get (by omega)
      repeat refine seq ?_
      refine reg 17 Mix.mix hf (by decide +kernel) ?_
      refine st (mv rfl) ?_
      refine st (mv rfl) ?_
      refine st (idxS Tryz.underlying89 S90 rfl rfl (by omega)) ?_
      refine st (ld1 (v := .slice (some ⟨rb' k, 0, none⟩) n n) T90 rfl HM.o (by rw [show 0 + ((k : Nat) : Int).toNat * 1 = k by omega]; exact oC_get (Nat.lt_succ_self _) hlt)) ?_
      refine st (mv rfl) ?_
      refine st ((ldW T25 rfl B2 rfl).eq ((rfl : _ = Value.agg #[u1, u2]))) ?_
      refine st (mv rfl) ?_
      refine st (mv rfl) ?_
      refine st (idxD Tryz.underlying30 S3 (isE rfl HI) rfl (by omega) (hxk)) ?_
      refine st (ldI T3 (isR rfl)) ?_
      refine st (mv rfl) ?_
      refine st (mv rfl) ?_
      refine st (idxD Tryz.underlying30 S3 (isE rfl HI) rfl (by omega) (hxj)) ?_
      refine st (ldI T3 (isR rfl)) ?_
      refine st (call3 (A := E (I (edgF g.2 (gi (idsG g) k) (gi (idsG g) j)))) En42 rfl rfl rfl (fun v u s w he k1 k2 k3 => by cases k1; cases k2; cases k3; exact edge_spec g _ _ _ w (VA.st _ _ _ _ (Ext.tr e he) hg0) (by omega))) ?_
      refine st (geq rfl rfl) ?_
      refine st (idxS Tryz.underlying90 S4 rfl rfl (by omega)) ?_
      refine en fun a w e' hf => ?_
      replace HI := VA.st _ _ _ _ e' HI
      replace HM := HM.ext e'
      replace e := Ext.tr e e'
      replace B2 := B2.ext e'
      clear e'
      replace hf := hf.keep [1, 2, 5, 6, 7, 8, 9, 54, 55]
      dsimp only [keep, List.filterMap, look, Nat.beq, Option.map] at hf
      refine tl_st1 T4 hf rfl rfl rfl (HM.r k (Nat.lt_succ_self _)) (by rw [bC_size]; omega) fun w hg hsz Br hf => ?_
      rw [show 0 + ((j : Nat) : Int).toNat * 1 = j by omega] at Br
      have nr2 := (HM.lo.2 k (Nat.lt_succ_self _))
      replace HM := HM.put (Nat.lt_succ_self _) hg Br
      replace e := e.gr hg (by omega); replace B2 := B2.gr hg (by omega); replace HI := Dv.grN HI hg (fun bb hb => by cases hb; exact nr2)
      clear hg Br nr2
      replace HM : MatR 90 4 N n (k + 1) rb' (fun a c => if a < k ∨ c < j + 1 then M0 g a c else false) b23 w := HM.congr fun a ha c hc => by
        unfold upM
        by_cases h1 : a = k ∧ c = j
        · rw [if_pos h1, h1.1, h1.2, if_pos (.inr (Nat.lt_succ_self _))]; rfl
        · rw [if_neg h1]
          dsimp only
          by_cases h2 : a < k ∨ c < j
          · rw [if_pos h2, if_pos (h2.imp id fun h => by omega)]
          · rw [if_neg h2, if_neg (fun h => h2 (h.imp id fun h => by omega))]
      refine tl_nil ?_
      try simp only [Exit.then, Exit.inBlock, ↓reduceIte]
      repeat refine seq ?_
      refine regn 2 hf (by decide +kernel) ?_
      refine st (mv rfl) ?_
      refine st ((add rfl rfl (by omega)).eq (congrArg (Value.int .i64) (show (j : Int) + 1 = ((j + 1 : Nat) : Int) from rfl))) ?_
      refine en fun a w e' hf => ?_
      replace HI := VA.st _ _ _ _ e' HI
      replace HM := HM.ext e'
      replace e := Ext.tr e e'
      replace B2 := B2.ext e'
      clear e'
      refine tl_as hf rfl (by decide) fun a hf => ?_
      refine tl_nil ?_
      replace hf := hf.keep [1, 2, 5, 6, 7, 8, 9]
      dsimp only [keep, List.filterMap, look, Nat.beq, Option.map] at hf
      refine ⟨_, ?_, j + 1, rfl, by omega, hf, e, ?_⟩
      · omega
      exact ⟨B2, HI, HM⟩
    · obtain rfl : n = j := by have := of_decide_eq_false hc; (try dsimp only at this); omega
      clear hc
      simp only [Exit.then, Exit.inBlock, ↓reduceIte]
      replace HM : MatR 90 4 N n (k + 1) rb' (M0 g) b23 w := HM.congr fun a ha c hc => by simp [hc]
      try simp only [Exit.then, Exit.inBlock, ↓reduceIte]
      repeat refine seq ?_
      refine regn 2 hf (by decide +kernel) ?_
      refine st (mv rfl) ?_
      refine st ((add rfl rfl (by omega)).eq (congrArg (Value.int .i64) (show (k : Int) + 1 = ((k + 1 : Nat) : Int) from rfl))) ?_
      refine en fun a w e' hf => ?_
      replace HI := VA.st _ _ _ _ e' HI
      replace HM := HM.ext e'
      replace e := Ext.tr e e'
      replace B2 := B2.ext e'
      clear e'
      refine tl_as hf rfl (by decide) fun a hf => ?_
      refine tl_nil ?_
      replace hf := hf.keep [1, 2, 5, 6, 7, 8]
      dsimp only [keep, List.filterMap, look, Nat.beq, Option.map] at hf
      refine ⟨_, ?_, k + 1, rb', rfl, by omega, hf, e, ?_⟩
      · omega
      exact ⟨B2, HI, HM⟩
  · obtain rfl : n = k := by have := of_decide_eq_false hc; (try dsimp only at this); omega
    clear hc
    simp only [Exit.then, Exit.inBlock, ↓reduceIte]
    clear HI
    have hNs : N ≤ w.heap.size := Nat.le_of_lt (Nat.lt_of_le_of_lt n23 HM.o.lt)
    replace hf := hf.keep [1, 2, 6, 7]
    dsimp only [keep, List.filterMap, look, Nat.beq, Option.map] at hf
    have hfr : ∀ i, i < n → rb i < w.heap.size := fun i hi => (HM.r i hi).lt
    repeat refine seq ?_
    refine regn0 ?_
    refine tl_op hf (by decide) (mv rfl) fun a w e' hf => ?_
    replace HM := HM.ext e'
    replace hNs := Nat.le_trans hNs e'.size
    replace e := Ext.tr e e'
    replace B2 := B2.ext e'
    clear e'
    have hfr2 : ∀ i, i < n → rb i < w.heap.size := fun i hi => (HM.r i hi).lt
    refine tl_mk Tryz.underlying90 I4 rfl hf (by decide) rfl (by omega) (by decide) fun a b57 w e' hb57 hs57 B57 hf => ?_
    have hle57 := Nat.le_trans e.size (Nat.le_of_eq hb57.symm)
    have lo57_hNs := Nat.le_trans hNs (Nat.le_of_eq hb57.symm)
    have lt57_B2 := B2.lt
    replace HM := HM.ext e'
    replace hNs := Nat.le_trans hNs e'.size
    replace e := Ext.tr e e'
    replace B2 := B2.ext e'
    clear e'
    refine tl_as hf rfl (by decide) fun a hf => ?_
    refine tl_nil ?_
    rw [bC_made] at B57
    have n57 : N ≤ b57 := by omega
    have hgb : ∀ i, i < n → rb i ≠ b57 := fun i hi => by have := hfr2 i hi; omega
    have ng23 : b57 ≠ b23 := (HM.o.tyNe B57 (by decide)).symm
    clear hfr hfr2
    replace hf := hf.keep [1, 2, 6, 7, 10]
    dsimp only [keep, List.filterMap, look, Nat.beq, Option.map] at hf
    repeat refine seq ?_
    refine regn0 ?_
    refine tl_as hf rfl (by decide) fun a hf => ?_
    refine tl_nil ?_
    repeat refine seq ?_
    refine regn0 ?_
    refine tl_as hf rfl (by decide) fun a hf => ?_
    refine tl_nil ?_
    clear hNs
    replace hf := hf.keep [1, 2, 6, 7, 10, 11, 12]
    dsimp only [keep, List.filterMap, look, Nat.beq, Option.map] at hf
    repeat refine seq ?_
    refine blk (loopN (fun r0 a w => ∃ (k : Nat) (zs : Mx × (Nat → Bool) × Int), r0 = order.length - k ∧ k ≤ order.length ∧ Fr 130 a w [(1, E u), (2, E (ptr b2)), (6, E (I (n : Nat))), (7, E (.slice (some ⟨b23, 0, none⟩) n n)), (10, E (.slice (some ⟨b57, 0, none⟩) n n)), (11, E (I zs.2.2)), (12, E (I k))] ∧ Ext W w ∧ Blk w b2 #[u1, u2] 25 ∧ Blk w b57 (bC n zs.2.1) 4 ∧ MatR 90 4 N n n rb zs.1 b23 w ∧ (order.take k).foldl (fun s x => csS n s (fndF g.1 x).toNat) (M0 g, fun _ => false, -1) = zs) order.length ⟨0, (M0 g,  fun _ => false,  -1), rfl, by omega, hf, e, ⟨B2, B57, HM, rfl⟩⟩ ?_)
    clear hf e; try clear B2; try clear B57; try clear HM; try clear hst
    rintro r0 a w ⟨k, zs, rfl, hk, hf, e, B2, B57, HM, hst⟩
    repeat refine seq ?_
    refine regn 4 hf (by decide +kernel) ?_
    refine st (mv rfl) ?_
    refine st (mv rfl) ?_
    refine st (lenD Tryz.underlying30 (isE rfl (VA.st _ _ _ _ e hord))) ?_
    refine st (lss rfl rfl) ?_
    refine en fun a w e' hf => ?_
    replace HM := HM.ext e'
    replace e := Ext.tr e e'
    replace B2 := B2.ext e'
    replace B57 := B57.ext e'
    clear e'
    refine tl_nil ?_
    repeat refine seq ?_
    refine ifc hf rfl (fun hc => wskip ?_) (fun hc => wexit ?_)
    rotate_left
    rotate_left
    · have hlt : k < order.length := by have := of_decide_eq_true hc; (try dsimp only at this); omega
      clear hc
      replace hf := hf.keep [1, 2, 6, 7, 10, 11, 12]
      dsimp only [keep, List.filterMap, look, Nat.beq, Option.map] at hf
      repeat refine seq ?_
      refine blk ?_
      obtain ⟨M, gone, most⟩ := zs
      dsimp only at *
      have hx : order[k]? = some (gi order k) := gi_get hlt
      obtain ⟨x, hxe⟩ : ∃ x, x = gi order k := ⟨_, rfl⟩
      rw [← hxe] at hx
      have hxm := hin x (List.mem_of_getElem? hx)
      obtain ⟨p, hp⟩ : ∃ p : Nat, fndF g.1 x = (p : Int) := ⟨(fndF g.1 x).toNat, by omega⟩
      have hpn : p < n := by rw [hp] at hxm; omega
      have hstep : (order.take (k + 1)).foldl (fun s x => csS n s (fndF g.1 x).toNat) (M0 g, fun _ => false, -1) = csS n (M, gone, most) p := by rw [take_succ_get hx, List.foldl_append, hst, List.foldl_cons, List.foldl_nil, hp, Int.toNat_natCast]
      clear hst
      have hNs : N ≤ w.heap.size := Nat.le_of_lt (Nat.lt_of_le_of_lt n23 HM.o.lt)
      repeat refine seq ?_
      refine reg 6 Mix.mix hf (by decide +kernel) ?_
      refine st ((ldW T25 rfl B2 rfl).eq ((rfl : _ = Value.agg #[u1, u2]))) ?_
      refine st (mv rfl) ?_
      refine st (mv rfl) ?_
      refine st (idxD Tryz.underlying30 S3 (isE rfl (VA.st _ _ _ _ e hord)) rfl (by omega) (hx)) ?_
      refine st (ldI T3 (isR rfl)) ?_
      refine st (call2 (A := E (I (p : Nat))) En28 rfl rfl (fun v u w he k1 k2 => by cases k1; cases k2; have := find_spec g x _ w (VA.st _ _ _ _ (Ext.tr e he) hg0) (by omega); rwa [hp] at this)) ?_
      refine en fun a w e' hf => ?_
      replace HM := HM.ext e'
      replace hNs := Nat.le_trans hNs e'.size
      replace e := Ext.tr e e'
      replace B2 := B2.ext e'
      replace B57 := B57.ext e'
      clear e'
      refine tl_as hf rfl (by decide) fun a hf => ?_
      refine tl_nil ?_
      replace hf := hf.keep [1, 2, 6, 7, 10, 11, 12, 13]
      dsimp only [keep, List.filterMap, look, Nat.beq, Option.map] at hf
      repeat refine seq ?_
      refine regn 3 hf (by decide +kernel) ?_
      refine st (mv rfl) ?_
      refine st (mv rfl) ?_
      refine st (idxS Tryz.underlying90 S4 rfl rfl (by omega)) ?_
      refine en fun a w e' hf => ?_
      replace HM := HM.ext e'
      replace hNs := Nat.le_trans hNs e'.size
      replace e := Ext.tr e e'
      replace B2 := B2.ext e'
      replace B57 := B57.ext e'
      clear e'
      refine tl_st1 T4 hf rfl rfl rfl B57 (by rw [bC_size]; omega) fun w hg hsz B57 hf => ?_
      rw [show 0 + ((p : Nat) : Int).toNat * 1 = p by omega, bC_set] at B57
      replace HM := HM.gro hg (fun h => ng23 (by cases h; rfl)) (fun i hi h => hgb i hi (by cases h; rfl))
      replace e := e.gr hg (by omega); replace B2 := B2.gr hg (by omega); replace hNs := Nat.le_trans hNs hg.size
      clear hg
      refine tl_nil ?_
      obtain ⟨gone', hgo⟩ : ∃ gone' : Nat → Bool, gone' = fun i => if i = p then true else gone i := ⟨_, rfl⟩
      rw [← hgo] at B57
      replace hf := hf.keep [1, 2, 6, 7, 10, 11, 12, 13]
      dsimp only [keep, List.filterMap, look, Nat.beq, Option.map] at hf
      repeat refine seq ?_
      refine regn0 ?_
      refine tl_as hf rfl (by decide) fun a hf => ?_
      refine tl_nil ?_
      repeat refine seq ?_
      refine regn0 ?_
      refine tl_as hf rfl (by decide) fun a hf => ?_
      refine tl_nil ?_
      replace hf := hf.keep [1, 2, 6, 7, 10, 11, 12, 13, 14, 15]
      dsimp only [keep, List.filterMap, look, Nat.beq, Option.map] at hf
      repeat refine seq ?_
      refine blk (loopN (fun r0 a w => ∃ (j : Nat) (uv : Value), r0 = n - j ∧ j ≤ n ∧ Fr 130 a w [(1, E u), (2, E (ptr b2)), (6, E (I (n : Nat))), (7, E (.slice (some ⟨b23, 0, none⟩) n n)), (10, E (.slice (some ⟨b57, 0, none⟩) n n)), (11, E (I most)), (12, E (I k)), (13, E (I (p : Nat))), (14, E uv), (15, E (I j))] ∧ Ext W w ∧ Blk w b2 #[u1, u2] 25 ∧ Blk w b57 (bC n gone') 4 ∧ MatR 90 4 N n n rb M b23 w ∧ OwR intE 3 N Go.Mono.G0 w (natL (nrTo M gone' p j)) uv) n ⟨0, .slice none 0 0, rfl, by omega, hf, e, ⟨B2, B57, HM, OwR.nil intE _ hNs fun b hb => hb.elim⟩⟩ ?_)
      clear hf e; try clear B2; try clear B57; try clear HM; try clear Ho
      rintro r0 a w ⟨j, uv, rfl, hj, hf, e, B2, B57, HM, Ho⟩
      repeat refine seq ?_
      refine regn 3 hf (by decide +kernel) ?_
      refine st (mv rfl) ?_
      refine st (mv rfl) ?_
      refine st (lss rfl rfl) ?_
      refine en fun a w e' hf => ?_
      replace HM := HM.ext e'
      replace e := Ext.tr e e'
      replace B2 := B2.ext e'
      replace B57 := B57.ext e'
      replace Ho := Ho.ext e'
      clear e'
      refine tl_nil ?_
      repeat refine seq ?_
      refine ifc hf rfl (fun hc => wskip ?_) (fun hc => wexit ?_)
      rotate_left
      rotate_left
      · have hltj : j < n := by have := of_decide_eq_true hc; (try dsimp only at this); omega
        clear hc
        replace hf := hf.keep [1, 2, 6, 7, 10, 11, 12, 13, 14, 15]
        dsimp only [keep, List.filterMap, look, Nat.beq, Option.map] at hf
        repeat refine seq ?_
        refine blk ?_
        have hsuc := nrTo_succ M gone' p j
        have hll := nrTo_len M gone' p j
        have hLn : (natL (nrTo M gone' p j)).length = (nrTo M gone' p j).length := by simp [natL]
        cases hMp : M p j with
        | false =>
          rw [hMp, Bool.false_and, if_neg (by decide), List.append_nil] at hsuc
          repeat refine seq ?_
          refine regn 14 hf (by decide +kernel) ?_
          refine st (mv rfl) ?_
          refine st (mv rfl) ?_
          refine st (idxS Tryz.underlying89 S90 rfl rfl (by omega)) ?_
          refine st (ld1 (v := .slice (some ⟨rb p, 0, none⟩) n n) T90 rfl HM.o (by rw [show 0 + ((p : Nat) : Int).toNat * 1 = p by omega]; exact oC_get hpn (Nat.le_refl _))) ?_
          refine st (mv rfl) ?_
          refine st (idxS Tryz.underlying90 S4 rfl rfl (by omega)) ?_
          refine st ((ld1 (v := .bool (M p j)) T4 rfl (HM.r p hpn) (by rw [show 0 + ((j : Nat) : Int).toNat * 1 = j by omega]; exact bC_get hltj)).eq (congrArg Value.bool (hMp))) ?_
          refine st (mv rfl) ?_
          refine sn rfl rfl rfl ?_
          refine sn rfl rfl rfl ?_
          refine sn rfl rfl rfl ?_
          refine sn rfl rfl rfl ?_
          refine sn rfl rfl rfl ?_
          refine st (pkF rfl rfl) ?_
          refine en fun a w e' hf => ?_
          replace HM := HM.ext e'
          replace e := Ext.tr e e'
          replace B2 := B2.ext e'
          replace B57 := B57.ext e'
          replace Ho := Ho.ext e'
          clear e'
          refine tl_nil ?_
          repeat refine seq ?_
          refine ifc hf rfl (fun h => by cases h) (fun _ => ?_)
          refine wskip ?_
          try simp only [Exit.then, Exit.inBlock, ↓reduceIte]
          try simp only [Exit.then, Exit.inBlock, ↓reduceIte]
          repeat refine seq ?_
          refine regn 2 hf (by decide +kernel) ?_
          refine st (mv rfl) ?_
          refine st ((add rfl rfl (by omega)).eq (congrArg (Value.int .i64) (show (j : Int) + 1 = ((j + 1 : Nat) : Int) from rfl))) ?_
          refine en fun a w e' hf => ?_
          replace HM := HM.ext e'
          replace e := Ext.tr e e'
          replace B2 := B2.ext e'
          replace B57 := B57.ext e'
          replace Ho := Ho.ext e'
          clear e'
          refine tl_as hf rfl (by decide) fun a hf => ?_
          refine tl_nil ?_
          replace hf := hf.keep [1, 2, 6, 7, 10, 11, 12, 13, 14, 15]
          dsimp only [keep, List.filterMap, look, Nat.beq, Option.map] at hf
          refine ⟨_, ?_, j + 1, _, rfl, by omega, hf, e, ?_⟩
          · omega
          rw [hsuc]
          exact ⟨B2, B57, HM, Ho⟩
        | true =>
          rw [hMp, Bool.true_and] at hsuc
          repeat refine seq ?_
          refine regn 14 hf (by decide +kernel) ?_
          refine st (mv rfl) ?_
          refine st (mv rfl) ?_
          refine st (idxS Tryz.underlying89 S90 rfl rfl (by omega)) ?_
          refine st (ld1 (v := .slice (some ⟨rb p, 0, none⟩) n n) T90 rfl HM.o (by rw [show 0 + ((p : Nat) : Int).toNat * 1 = p by omega]; exact oC_get hpn (Nat.le_refl _))) ?_
          refine st (mv rfl) ?_
          refine st (idxS Tryz.underlying90 S4 rfl rfl (by omega)) ?_
          refine st ((ld1 (v := .bool (M p j)) T4 rfl (HM.r p hpn) (by rw [show 0 + ((j : Nat) : Int).toNat * 1 = j by omega]; exact bC_get hltj)).eq (congrArg Value.bool (hMp))) ?_
          refine st (mv rfl) ?_
          refine sy rfl rfl (mv rfl) ?_
          refine sy rfl rfl (mv rfl) ?_
          refine sy rfl rfl (idxS Tryz.underlying90 S4 rfl rfl (by omega)) ?_
          refine sy rfl rfl (ld1 (v := .bool (gone' j)) T4 rfl B57 (by rw [show 0 + ((j : Nat) : Int).toNat * 1 = j by omega]; exact bC_get hltj)) ?_
          refine sy rfl rfl (notp rfl) ?_
          refine st (pkT rfl rfl) ?_
          refine en fun a w e' hf => ?_
          replace HM := HM.ext e'
          replace e := Ext.tr e e'
          replace B2 := B2.ext e'
          replace B57 := B57.ext e'
          replace Ho := Ho.ext e'
          clear e'
          refine tl_nil ?_
          repeat refine seq ?_
          refine ifc hf rfl (fun hb => ?_) (fun hb => ?_)
          · rw [if_pos hb] at hsuc
            replace hf := hf.keep [1, 2, 6, 7, 10, 11, 12, 13, 14, 15]
            dsimp only [keep, List.filterMap, look, Nat.beq, Option.map] at hf
            repeat refine seq ?_
            refine regn 3 hf (by decide +kernel) ?_
            refine st (mv rfl) ?_
            refine st (mv rfl) ?_
            refine st (bsl1 Tryz.underlying30 I3 rfl (by decide) rfl Ho.avs (isI rfl)) ?_
            refine en fun a w e' hf => ?_
            replace B2 := B2.ext e'
            replace B57 := B57.ext e'
            replace HM := HM.ext e'
            replace Ho := Ho.ext e'
            replace e := Ext.tr e e'
            clear e'
            haveI hin : ∀ G0, InR (GB W G0) _ := OwR.inGB (W := W) Ho hWN
            refine tl_app Tryz.underlying30 I3 rfl rfl hf (by decide) rfl Ho (isR rfl) (by simp only [List.length_singleton]; omega) (by simp only [List.length_singleton, maxLen]; omega) fun a v w hg hat Hn hf => ?_
            replace e := e.gro hg (Ho.row (W := W) hWN)
            have hrow := Ho.row (W := W) hWN
            replace B2 := B2.gro hg (Ho.neLt l2N)
            replace B57 := B57.gro hg (Ho.neB B57 (by decide))
            replace HM := HM.gro hg (Ho.neB HM.o (by decide)) (fun i hi => Ho.neB (HM.r i hi) (by decide))
            replace Ho := Hn
            clear hrow
            replace Ho := Hn; clear Hn hg hat hin
            refine tl_as hf rfl (by decide) fun a hf => ?_
            refine tl_nil ?_
            try simp only [Exit.then, Exit.inBlock, ↓reduceIte]
            repeat refine seq ?_
            refine regn 2 hf (by decide +kernel) ?_
            refine st (mv rfl) ?_
            refine st ((add rfl rfl (by omega)).eq (congrArg (Value.int .i64) (show (j : Int) + 1 = ((j + 1 : Nat) : Int) from rfl))) ?_
            refine en fun a w e' hf => ?_
            replace HM := HM.ext e'
            replace e := Ext.tr e e'
            replace B2 := B2.ext e'
            replace B57 := B57.ext e'
            replace Ho := Ho.ext e'
            clear e'
            refine tl_as hf rfl (by decide) fun a hf => ?_
            refine tl_nil ?_
            replace hf := hf.keep [1, 2, 6, 7, 10, 11, 12, 13, 14, 15]
            dsimp only [keep, List.filterMap, look, Nat.beq, Option.map] at hf
            refine ⟨_, ?_, j + 1, _, rfl, by omega, hf, e, ?_⟩
            · omega
            rw [hsuc]
            exact ⟨B2, B57, HM, by rw [natL, List.map_append]; exact Ho⟩
          · rw [if_neg (by simpa using hb), List.append_nil] at hsuc
            refine wskip ?_
            try simp only [Exit.then, Exit.inBlock, ↓reduceIte]
            try simp only [Exit.then, Exit.inBlock, ↓reduceIte]
            repeat refine seq ?_
            refine regn 2 hf (by decide +kernel) ?_
            refine st (mv rfl) ?_
            refine st ((add rfl rfl (by omega)).eq (congrArg (Value.int .i64) (show (j : Int) + 1 = ((j + 1 : Nat) : Int) from rfl))) ?_
            refine en fun a w e' hf => ?_
            replace HM := HM.ext e'
            replace e := Ext.tr e e'
            replace B2 := B2.ext e'
            replace B57 := B57.ext e'
            replace Ho := Ho.ext e'
            clear e'
            refine tl_as hf rfl (by decide) fun a hf => ?_
            refine tl_nil ?_
            replace hf := hf.keep [1, 2, 6, 7, 10, 11, 12, 13, 14, 15]
            dsimp only [keep, List.filterMap, look, Nat.beq, Option.map] at hf
            refine ⟨_, ?_, j + 1, _, rfl, by omega, hf, e, ?_⟩
            · omega
            rw [hsuc]
            exact ⟨B2, B57, HM, Ho⟩
      · obtain rfl : n = j := by have := of_decide_eq_false hc; (try dsimp only at this); omega
        clear hc
        simp only [Exit.then, Exit.inBlock, ↓reduceIte]
        obtain ⟨nr, hnr⟩ : ∃ nr, nr = nrTo M gone' p n := ⟨_, rfl⟩
        rw [← hnr] at Ho
        have hnd : nr.Nodup := by rw [hnr]; exact nrTo_nodup _ _ _ _
        have hnl : nr.length ≤ n := by rw [hnr]; exact nrTo_len _ _ _ _
        have hlt' : ∀ a ∈ nr, a < n := fun a ha => by rw [hnr] at ha; exact nrTo_lt ha
        have hLn : (natL nr).length = nr.length := by simp [natL]
        have hLi : (((natL nr).length : Nat) : Int) = ((nr.length : Nat) : Int) := by rw [hLn]
        have hcs : csS n (M, gone, most) p = (fillM nr M, gone', if most < ((nr.length : Nat) : Int) then ((nr.length : Nat) : Int) else most) := by rw [hnr, hgo]; rfl
        rw [hcs] at hstep
        clear hnr hgo hcs
        repeat refine seq ?_
        refine regn 4 hf (by decide +kernel) ?_
        refine st (mv rfl) ?_
        refine st ((lenD Tryz.underlying30 (isE rfl Ho.sl)).eq (congrArg I hLi)) ?_
        refine st (mv rfl) ?_
        refine st (gtr rfl rfl) ?_
        refine en fun a w e' hf => ?_
        replace HM := HM.ext e'
        replace e := Ext.tr e e'
        replace B2 := B2.ext e'
        replace B57 := B57.ext e'
        replace Ho := Ho.ext e'
        clear e'
        refine tl_nil ?_
        obtain ⟨most', hmost⟩ : ∃ most' : Int, most' = if most < ((nr.length : Nat) : Int) then ((nr.length : Nat) : Int) else most := ⟨_, rfl⟩
        rw [← hmost] at hstep
        replace hf := hf.keep [1, 2, 6, 7, 10, 11, 12, 14, 99]
        dsimp only [keep, List.filterMap, look, Nat.beq, Option.map] at hf
        repeat refine seq ?_
        refine cut (J := fun a w => Fr 130 a w [(1, E u), (2, E (ptr b2)), (6, E (I (n : Nat))), (7, E (.slice (some ⟨b23, 0, none⟩) n n)), (10, E (.slice (some ⟨b57, 0, none⟩) n n)), (11, E (I most')), (12, E (I k)), (14, E uv)] ∧ Ext W w ∧ Blk w b2 #[u1, u2] 25 ∧ Blk w b57 (bC n gone') 4 ∧ MatR 90 4 N n n rb M b23 w ∧ OwR intE 3 N Go.Mono.G0 w (natL nr) uv) ?_ (fun a w hJ => ?_)
        · repeat refine seq ?_
          refine ifc hf rfl (fun hb => ?_) (fun hb => ?_)
          · have hb' : most < (nr.length : Nat) := of_decide_eq_true hb
            rw [if_pos hb'] at hmost
            repeat refine seq ?_
            refine regn 2 hf (by decide +kernel) ?_
            refine st (mv rfl) ?_
            refine st ((lenD Tryz.underlying30 (isE rfl Ho.sl)).eq (congrArg I (show (((natL nr).length : Nat) : Int) = most' by rw [hmost, hLn]))) ?_
            refine en fun a w e' hf => ?_
            replace HM := HM.ext e'
            replace e := Ext.tr e e'
            replace B2 := B2.ext e'
            replace B57 := B57.ext e'
            replace Ho := Ho.ext e'
            clear e'
            refine tl_as hf rfl (by decide) fun a hf => ?_
            refine tl_nil ?_
            replace hf := hf.keep [1, 2, 6, 7, 10, 11, 12, 14]
            dsimp only [keep, List.filterMap, look, Nat.beq, Option.map] at hf
            exact ⟨rfl, hf, e, B2, B57, HM, Ho⟩
          · have hb' : ¬ most < (nr.length : Nat) := of_decide_eq_false hb
            rw [if_neg hb'] at hmost
            refine wskip ?_
            rw [← hmost] at hf
            replace hf := hf.keep [1, 2, 6, 7, 10, 11, 12, 14]
            dsimp only [keep, List.filterMap, look, Nat.beq, Option.map] at hf
            exact ⟨rfl, hf, e, B2, B57, HM, Ho⟩
        clear hf e B2 B57 HM Ho
        obtain ⟨hf, e, B2, B57, HM, Ho⟩ := hJ
        try simp only [Exit.then]
        clear hmost
        repeat refine seq ?_
        refine regn0 ?_
        refine tl_as hf rfl (by decide) fun a hf => ?_
        refine tl_nil ?_
        replace hf := hf.keep [1, 2, 6, 7, 10, 11, 12, 14, 16]
        dsimp only [keep, List.filterMap, look, Nat.beq, Option.map] at hf
        repeat refine seq ?_
        refine blk (loopN (fun r0 a w => ∃ (i : Nat) , r0 = nr.length - i ∧ i ≤ nr.length ∧ Fr 130 a w [(1, E u), (2, E (ptr b2)), (6, E (I (n : Nat))), (7, E (.slice (some ⟨b23, 0, none⟩) n n)), (10, E (.slice (some ⟨b57, 0, none⟩) n n)), (11, E (I most')), (12, E (I k)), (14, E uv), (16, E (I i))] ∧ Ext W w ∧ Blk w b2 #[u1, u2] 25 ∧ Blk w b57 (bC n gone') 4 ∧ MatR 90 4 N n n rb ((nr.take i).foldl (fillA nr) M) b23 w ∧ OwR intE 3 N Go.Mono.G0 w (natL nr) uv) nr.length ⟨0, rfl, by omega, hf, e, ⟨B2, B57, HM, Ho⟩⟩ ?_)
        clear hf e; try clear B2; try clear B57; try clear HM; try clear Ho
        rintro r0 a w ⟨i, rfl, hi, hf, e, B2, B57, HM, Ho⟩
        repeat refine seq ?_
        refine regn 4 hf (by decide +kernel) ?_
        refine st (mv rfl) ?_
        refine st (mv rfl) ?_
        refine st ((lenD Tryz.underlying30 (isE rfl Ho.sl)).eq (congrArg I hLi)) ?_
        refine st (lss rfl rfl) ?_
        refine en fun a w e' hf => ?_
        replace HM := HM.ext e'
        replace e := Ext.tr e e'
        replace B2 := B2.ext e'
        replace B57 := B57.ext e'
        replace Ho := Ho.ext e'
        clear e'
        refine tl_nil ?_
        repeat refine seq ?_
        refine ifc hf rfl (fun hc => wskip ?_) (fun hc => wexit ?_)
        rotate_left
        rotate_left
        · have hlti : i < nr.length := by have := of_decide_eq_true hc; (try dsimp only at this); omega
          clear hc
          replace hf := hf.keep [1, 2, 6, 7, 10, 11, 12, 14, 16]
          dsimp only [keep, List.filterMap, look, Nat.beq, Option.map] at hf
          repeat refine seq ?_
          refine blk ?_
          have hai := List.getElem?_eq_getElem hlti
          generalize nr[i] = a0 at hai
          have ha0 := hlt' a0 (List.mem_of_getElem? hai)
          have haI : (natL nr)[i]? = some (a0 : Int) := by rw [natL, List.getElem?_map, hai]; rfl
          have hsI : (nr.take (i + 1)).foldl (fillA nr) M = fillA nr ((nr.take i).foldl (fillA nr) M) a0 := by rw [take_succ_get hai, List.foldl_append]; rfl
          obtain ⟨Mi, hMi⟩ : ∃ Mi, Mi = (nr.take i).foldl (fillA nr) M := ⟨_, rfl⟩
          rw [← hMi] at HM hsI
          repeat refine seq ?_
          refine regn0 ?_
          refine tl_as hf rfl (by decide) fun a hf => ?_
          refine tl_nil ?_
          replace hf := hf.keep [1, 2, 6, 7, 10, 11, 12, 14, 16, 17]
          dsimp only [keep, List.filterMap, look, Nat.beq, Option.map] at hf
          repeat refine seq ?_
          refine blk (loopN (fun r0 a w => ∃ (j : Nat) , r0 = nr.length - j ∧ j ≤ nr.length ∧ Fr 130 a w [(1, E u), (2, E (ptr b2)), (6, E (I (n : Nat))), (7, E (.slice (some ⟨b23, 0, none⟩) n n)), (10, E (.slice (some ⟨b57, 0, none⟩) n n)), (11, E (I most')), (12, E (I k)), (14, E uv), (16, E (I i)), (17, E (I j))] ∧ Ext W w ∧ Blk w b2 #[u1, u2] 25 ∧ Blk w b57 (bC n gone') 4 ∧ MatR 90 4 N n n rb ((nr.take j).foldl (fillB a0) Mi) b23 w ∧ OwR intE 3 N Go.Mono.G0 w (natL nr) uv) nr.length ⟨0, rfl, by omega, hf, e, ⟨B2, B57, HM, Ho⟩⟩ ?_)
          clear hf e; try clear B2; try clear B57; try clear HM; try clear Ho
          rintro r0 a w ⟨j, rfl, hj, hf, e, B2, B57, HM, Ho⟩
          repeat refine seq ?_
          refine regn 4 hf (by decide +kernel) ?_
          refine st (mv rfl) ?_
          refine st (mv rfl) ?_
          refine st ((lenD Tryz.underlying30 (isE rfl Ho.sl)).eq (congrArg I hLi)) ?_
          refine st (lss rfl rfl) ?_
          refine en fun a w e' hf => ?_
          replace HM := HM.ext e'
          replace e := Ext.tr e e'
          replace B2 := B2.ext e'
          replace B57 := B57.ext e'
          replace Ho := Ho.ext e'
          clear e'
          refine tl_nil ?_
          repeat refine seq ?_
          refine ifc hf rfl (fun hc => wskip ?_) (fun hc => wexit ?_)
          rotate_left
          rotate_left
          · have hltj : j < nr.length := by have := of_decide_eq_true hc; (try dsimp only at this); omega
            clear hc
            replace hf := hf.keep [1, 2, 6, 7, 10, 11, 12, 14, 16, 17]
            dsimp only [keep, List.filterMap, look, Nat.beq, Option.map] at hf
            repeat refine seq ?_
            refine blk ?_
            have hbj := List.getElem?_eq_getElem hltj
            generalize nr[j] = c0 at hbj
            have hc0 := hlt' c0 (List.mem_of_getElem? hbj)
            have hbI : (natL nr)[j]? = some (c0 : Int) := by rw [natL, List.getElem?_map, hbj]; rfl
            have hsJ : (nr.take (j + 1)).foldl (fillB a0) Mi = fillB a0 ((nr.take j).foldl (fillB a0) Mi) c0 := by rw [take_succ_get hbj, List.foldl_append]; rfl
            obtain ⟨Mj, hMj⟩ : ∃ Mj, Mj = (nr.take j).foldl (fillB a0) Mi := ⟨_, rfl⟩
            rw [← hMj] at HM hsJ
            have hij : a0 = c0 ↔ i = j := ⟨fun h => nodup_inj hnd hai (by rw [h]; exact hbj), fun h => by rw [h, hbj] at hai; exact (Option.some.inj hai).symm⟩
            repeat refine seq ?_
            refine regn 3 hf (by decide +kernel) ?_
            refine st (mv rfl) ?_
            refine st (mv rfl) ?_
            refine st (neq rfl rfl) ?_
            refine en fun a w e' hf => ?_
            replace HM := HM.ext e'
            replace e := Ext.tr e e'
            replace B2 := B2.ext e'
            replace B57 := B57.ext e'
            replace Ho := Ho.ext e'
            clear e'
            refine tl_nil ?_
            repeat refine seq ?_
            refine ifc hf rfl (fun hb => ?_) (fun hb => ?_)
            · have hne : a0 ≠ c0 := fun h => by have := hij.1 h; simp [this] at hb
              rw [fillB, if_pos hne] at hsJ
              replace hf := hf.keep [1, 2, 6, 7, 10, 11, 12, 14, 16, 17]
              dsimp only [keep, List.filterMap, look, Nat.beq, Option.map] at hf
              repeat refine seq ?_
              refine reg 12 Mix.mix hf (by decide +kernel) ?_
              refine st (mv rfl) ?_
              refine st (mv rfl) ?_
              refine st (mv rfl) ?_
              refine st (idxD Tryz.underlying30 S3 (isE rfl Ho.sl) rfl (by omega) (haI)) ?_
              refine st (ldI T3 (isR rfl)) ?_
              refine st (idxS Tryz.underlying89 S90 rfl rfl (by omega)) ?_
              refine st (ld1 (v := .slice (some ⟨rb a0, 0, none⟩) n n) T90 rfl HM.o (by rw [show 0 + ((a0 : Nat) : Int).toNat * 1 = a0 by omega]; exact oC_get ha0 (Nat.le_refl _))) ?_
              refine st (mv rfl) ?_
              refine st (mv rfl) ?_
              refine st (idxD Tryz.underlying30 S3 (isE rfl Ho.sl) rfl (by omega) (hbI)) ?_
              refine st (ldI T3 (isR rfl)) ?_
              refine st (idxS Tryz.underlying90 S4 rfl rfl (by omega)) ?_
              refine en fun a w e' hf => ?_
              replace HM := HM.ext e'
              replace e := Ext.tr e e'
              replace B2 := B2.ext e'
              replace B57 := B57.ext e'
              replace Ho := Ho.ext e'
              clear e'
              replace hf := hf.keep [1, 2, 6, 7, 10, 11, 12, 14, 16, 17, 128]
              dsimp only [keep, List.filterMap, look, Nat.beq, Option.map] at hf
              refine tl_st1 T4 hf rfl rfl rfl (HM.r a0 ha0) (by rw [bC_size]; omega) fun w hg hsz Br hf => ?_
              rw [show 0 + ((c0 : Nat) : Int).toNat * 1 = c0 by omega] at Br
              have zr := HM.lo.2 a0 ha0
              replace Ho := Ho.grE hg (Ho.neB (HM.r a0 ha0) (by decide))
              replace HM := HM.put ha0 hg Br
              replace e := e.gr hg (by omega); replace B2 := B2.gr hg (by omega); replace B57 := B57.gr hg (fun h => hgb a0 ha0 h.symm)
              clear hg Br zr
              refine tl_nil ?_
              try simp only [Exit.then, Exit.inBlock, ↓reduceIte]
              repeat refine seq ?_
              refine regn 2 hf (by decide +kernel) ?_
              refine st (mv rfl) ?_
              refine st ((add rfl rfl (by omega)).eq (congrArg (Value.int .i64) (show (j : Int) + 1 = ((j + 1 : Nat) : Int) from rfl))) ?_
              refine en fun a w e' hf => ?_
              replace HM := HM.ext e'
              replace e := Ext.tr e e'
              replace B2 := B2.ext e'
              replace B57 := B57.ext e'
              replace Ho := Ho.ext e'
              clear e'
              refine tl_as hf rfl (by decide) fun a hf => ?_
              refine tl_nil ?_
              replace hf := hf.keep [1, 2, 6, 7, 10, 11, 12, 14, 16, 17]
              dsimp only [keep, List.filterMap, look, Nat.beq, Option.map] at hf
              refine ⟨_, ?_, j + 1, rfl, by omega, hf, e, ?_⟩
              · omega
              rw [hsJ]
              exact ⟨B2, B57, HM, Ho⟩
            · have hne : ¬ a0 ≠ c0 := fun h => by
                have : ¬ i = j := fun h' => h (hij.2 h')
                simp at hb; omega
              rw [fillB, if_neg hne] at hsJ
              refine wskip ?_
              try simp only [Exit.then, Exit.inBlock, ↓reduceIte]
              try simp only [Exit.then, Exit.inBlock, ↓reduceIte]
              repeat refine seq ?_
              refine regn 2 hf (by decide +kernel) ?_
              refine st (mv rfl) ?_
              refine st ((add rfl rfl (by omega)).eq (congrArg (Value.int .i64) (show (j : Int) + 1 = ((j + 1 : Nat) : Int) from rfl))) ?_
              refine en fun a w e' hf => ?_
              replace HM := HM.ext e'
              replace e := Ext.tr e e'
              replace B2 := B2.ext e'
              replace B57 := B57.ext e'
              replace Ho := Ho.ext e'
              clear e'
              refine tl_as hf rfl (by decide) fun a hf => ?_
              refine tl_nil ?_
              replace hf := hf.keep [1, 2, 6, 7, 10, 11, 12, 14, 16, 17]
              dsimp only [keep, List.filterMap, look, Nat.beq, Option.map] at hf
              refine ⟨_, ?_, j + 1, rfl, by omega, hf, e, ?_⟩
              · omega
              rw [hsJ]
              exact ⟨B2, B57, HM, Ho⟩
          · obtain rfl : nr.length = j := by have := of_decide_eq_false hc; (try dsimp only at this); omega
            clear hc
            simp only [Exit.then, Exit.inBlock, ↓reduceIte]
            rw [List.take_length] at HM
            try simp only [Exit.then, Exit.inBlock, ↓reduceIte]
            repeat refine seq ?_
            refine regn 2 hf (by decide +kernel) ?_
            refine st (mv rfl) ?_
            refine st ((add rfl rfl (by omega)).eq (congrArg (Value.int .i64) (show (i : Int) + 1 = ((i + 1 : Nat) : Int) from rfl))) ?_
            refine en fun a w e' hf => ?_
            replace HM := HM.ext e'
            replace e := Ext.tr e e'
            replace B2 := B2.ext e'
            replace B57 := B57.ext e'
            replace Ho := Ho.ext e'
            clear e'
            refine tl_as hf rfl (by decide) fun a hf => ?_
            refine tl_nil ?_
            replace hf := hf.keep [1, 2, 6, 7, 10, 11, 12, 14, 16]
            dsimp only [keep, List.filterMap, look, Nat.beq, Option.map] at hf
            refine ⟨_, ?_, i + 1, rfl, by omega, hf, e, ?_⟩
            · omega
            rw [hsI]
            exact ⟨B2, B57, HM, Ho⟩
        · obtain rfl : nr.length = i := by have := of_decide_eq_false hc; (try dsimp only at this); omega
          clear hc
          simp only [Exit.then, Exit.inBlock, ↓reduceIte]
          rw [List.take_length] at HM
          replace hf := hf.keep [1, 2, 6, 7, 10, 11, 12]
          dsimp only [keep, List.filterMap, look, Nat.beq, Option.map] at hf
          clear Ho
          try simp only [Exit.then, Exit.inBlock, ↓reduceIte]
          repeat refine seq ?_
          refine regn 2 hf (by decide +kernel) ?_
          refine st (mv rfl) ?_
          refine st ((add rfl rfl (by omega)).eq (congrArg (Value.int .i64) (show (k : Int) + 1 = ((k + 1 : Nat) : Int) from rfl))) ?_
          refine en fun a w e' hf => ?_
          replace HM := HM.ext e'
          replace e := Ext.tr e e'
          replace B2 := B2.ext e'
          replace B57 := B57.ext e'
          clear e'
          refine tl_as hf rfl (by decide) fun a hf => ?_
          refine tl_nil ?_
          replace hf := hf.keep [1, 2, 6, 7, 10, 11, 12]
          dsimp only [keep, List.filterMap, look, Nat.beq, Option.map] at hf
          refine ⟨_, ?_, k + 1, (fillM nr M, gone', most'), rfl, by omega, hf, e, ?_⟩
          · omega
          exact ⟨B2, B57, HM, hstep⟩
    · obtain rfl : order.length = k := by have := of_decide_eq_false hc; (try dsimp only at this); omega
      clear hc
      simp only [Exit.then, Exit.inBlock, ↓reduceIte]
      rw [List.take_length] at hst
      replace hf := hf.keep [11]
      dsimp only [keep, List.filterMap, look, Nat.beq, Option.map] at hf
      repeat refine seq ?_
      refine regn 1 hf (by decide +kernel) ?_
      refine st (mv rfl) ?_
      refine en fun a w e' hf => ?_
      replace e := Ext.tr e e'
      clear e'
      refine tl_as hf rfl (by decide) fun a hf => ?_
      refine tl_nil ?_
      refine wret ?_
      try simp only [Exit.then, Exit.inBlock]
      refine ret1 rfl hf rfl ?_
      rintro _ rfl
      exact ⟨_, rfl, e, congrArg I (by rw [costG, csTo, ← hn, hst])⟩
end Go.Mono

namespace Go.Mono
open Go Go.Proofs Go.RowKit Go.Gr

/-- the vertex at a position -/
def idN (g : GT) (p : Nat) : Nat := (gi (idsG g) p).toNat
section
variable {g : GT}
theorem idN_at (G : Gr.Ok g) {p : Nat} (hp : p < g.1.length) : gi (idsG g) p = (idN g p : Int) ∧ (vset g.1).getLsbD (idN g p) = true := by
  have h1 : (idsG g)[p]? = some (gi (idsG g) p) := gi_get (by simp [idsG]; exact hp)
  have h2 := List.mem_of_getElem? h1
  rw [idsG] at h2
  obtain ⟨x, hx, hxe⟩ := List.mem_map.1 h2
  rw [← idsG] at hxe
  have h3 := idOk_r (G.rv x hx).1
  have h4 : gi (idsG g) p = (idN g p : Int) := by rw [idN]; omega
  exact ⟨h4, (mem_vset G).2 ⟨x, hx, by rw [hxe, h4]⟩⟩
theorem idN_inj (G : Gr.Ok g) {p q : Nat} (hp : p < g.1.length) (hq : q < g.1.length) (h : idN g p = idN g q) : p = q := by
  have hnd : (idsG g).Nodup := List.pairwise_map.2 (G.sv.imp fun h => by
    have := (lt1_asy h).2; exact this)
  have h1 : (idsG g)[p]? = some (gi (idsG g) p) := gi_get (by simp [idsG]; exact hp)
  have h2 : (idsG g)[q]? = some (gi (idsG g) q) := gi_get (by simp [idsG]; exact hq)
  rw [(idN_at G hp).1] at h1
  rw [(idN_at G hq).1, ← h] at h2
  exact nodup_inj hnd h1 h2
theorem fnd_at (G : Gr.Ok g) {v : Nat} (hv : (vset g.1).getLsbD v = true) : ∃ p : Nat, fndF g.1 (v : Int) = (p : Int) ∧ p < g.1.length ∧ idN g p = v := by
  obtain ⟨x, hx, hxe⟩ := (mem_vset G).1 hv
  cases hf : g.1.findIdx? (fun y => decide (y.1 = (v : Int))) with
  | none =>
    have := List.findIdx?_eq_none_iff.1 hf x hx
    simp [hxe] at this
  | some p =>
    obtain ⟨hp, h1, _⟩ := List.findIdx?_eq_some_iff_getElem.1 hf
    refine ⟨p, by rw [fndF, hf], hp, ?_⟩
    have h2 : g.1[p].1 = (v : Int) := of_decide_eq_true h1
    have h3 : (idsG g)[p]? = some (v : Int) := by rw [idsG, List.getElem?_map, List.getElem?_eq_getElem hp, ← h2]; rfl
    have h4 : (idsG g)[p]? = some (gi (idsG g) p) := gi_get (by simp [idsG]; exact hp)
    rw [h3] at h4
    have := Option.some.inj h4
    rw [idN, ← this]; rfl
theorem edg_at (G : Gr.Ok g) (i j : Nat) : 0 ≤ edgF g.2 (i : Int) (j : Int) ↔ Adj g i j := by
  unfold edgF
  cases hf : g.2.findIdx? (fun y => isEd y (i : Int) (j : Int)) with
  | none =>
    refine ⟨fun h => by simp at h, fun ⟨x, hx, h⟩ => ?_⟩
    have h1 := List.findIdx?_eq_none_iff.1 hf x hx
    rw [isEd] at h1
    rcases h with h | h <;> rw [h] at h1 <;> simp at h1
  | some p =>
    obtain ⟨hp, h1, _⟩ := List.findIdx?_eq_some_iff_getElem.1 hf
    refine ⟨fun _ => ⟨g.2[p], List.getElem_mem hp, ?_⟩, fun _ => by simp⟩
    rw [isEd, Bool.or_eq_true, Bool.and_eq_true, Bool.and_eq_true, beq_iff_eq, beq_iff_eq, beq_iff_eq, beq_iff_eq] at h1
    rcases h1 with ⟨h1, h2⟩ | ⟨h1, h2⟩
    · exact .inl (Prod.ext h1 h2)
    · exact .inr (Prod.ext h1 h2)
theorem fillB_at (a : Nat) (M : Mx) (b i j : Nat) : fillB a M b i j = (M i j || (decide (i = a) && decide (j = b) && decide (a ≠ b))) := by
  unfold fillB
  by_cases h : a ≠ b
  · rw [if_pos h, upM]
    by_cases h2 : i = a ∧ j = b
    · rw [if_pos h2]; simp [h2.1, h2.2, h]
    · rw [if_neg h2]
      have : (decide (i = a) && decide (j = b)) = false := by
        rw [Bool.and_eq_false_iff, decide_eq_false_iff_not, decide_eq_false_iff_not]
        exact Classical.not_and_iff_not_or_not.1 h2
      rw [this]; simp
  · rw [if_neg h]; simp [h]
theorem fillA_at (a : Nat) (i j : Nat) : ∀ (nr : List Nat) (M : Mx), nr.foldl (fillB a) M i j = true ↔ M i j = true ∨ (i = a ∧ j ∈ nr ∧ a ≠ j) := by
  intro nr
  induction nr with
  | nil => intro M; simp
  | cons b nr ih =>
    intro M
    rw [List.foldl_cons, ih, fillB_at, Bool.or_eq_true, Bool.and_eq_true, Bool.and_eq_true, decide_eq_true_eq, decide_eq_true_eq, decide_eq_true_eq, List.mem_cons]
    constructor
    · rintro ((h | ⟨⟨h1, h2⟩, h3⟩) | ⟨h1, h2, h3⟩)
      · exact .inl h
      · exact .inr ⟨h1, .inl h2, by rw [h2]; exact h3⟩
      · exact .inr ⟨h1, .inr h2, h3⟩
    · rintro (h | ⟨h1, h2 | h2, h3⟩)
      · exact .inl (.inl h)
      · exact .inl (.inr ⟨⟨h1, h2⟩, by rw [← h2]; exact h3⟩)
      · exact .inr ⟨h1, h2, h3⟩
theorem fillM_at (mr : List Nat) (i j : Nat) : ∀ (nr : List Nat) (M : Mx), nr.foldl (fillA mr) M i j = true ↔ M i j = true ∨ (i ∈ nr ∧ j ∈ mr ∧ i ≠ j) := by
  intro nr
  induction nr with
  | nil => intro M; simp
  | cons b nr ih =>
    intro M
    rw [List.foldl_cons, ih, fillA, fillA_at, List.mem_cons]
    constructor
    · rintro ((h | ⟨h1, h2, h3⟩) | ⟨h1, h2, h3⟩)
      · exact .inl h
      · exact .inr ⟨.inl h1, h2, by rw [h1]; exact h3⟩
      · exact .inr ⟨.inr h1, h2, h3⟩
    · rintro (h | ⟨h1 | h1, h2, h3⟩)
      · exact .inl (.inl h)
      · exact .inl (.inr ⟨h1, h2, by rw [← h1]; exact h3⟩)
      · exact .inr ⟨h1, h2, h3⟩
/-- what the square says when the vertices of S are gone -/
structure CsI (g : GT) (S : BS) (s : Mx × (Nat → Bool) × Int) : Prop where
  go : ∀ p, p < g.1.length → (s.2.1 p = true ↔ S.getLsbD (idN g p) = true)
  mx : ∀ p q, p < g.1.length → q < g.1.length → p ≠ q → ¬S.getLsbD (idN g p) = true → ¬S.getLsbD (idN g q) = true → (s.1 p q = true ↔ Via (nbA g) S (idN g p) (idN g q))
theorem nb_symm (G : Gr.Ok g) : ∀ i j : Nat, (nbA g (i : Int)).getLsbD j = true → (nbA g (j : Int)).getLsbD i = true := fun i j h => (nbA_bit G).2 ((nbA_bit G).1 h).symm
theorem csI_0 (G : Gr.Ok g) : CsI g 0 (M0 g, fun _ => false, -1) := by
  refine ⟨fun p hp => ⟨fun h => (nomatch h), fun h => absurd h (bit_zero _)⟩, fun p q hp hq hne _ _ => ?_⟩
  show decide (0 ≤ edgF g.2 (gi (idsG g) p) (gi (idsG g) q)) = true ↔ _
  rw [decide_eq_true_eq, (idN_at G hp).1, (idN_at G hq).1, edg_at G, ← nbA_bit G]
  refine ⟨.one, fun h => ?_⟩
  cases h with
  | one h => exact h
  | step _ ht _ => exact absurd ht (bit_zero _)
theorem csI_step (G : Gr.Ok g) {S : BS} {s : Mx × (Nat → Bool) × Int} (h : CsI g S s) {p : Nat} (hp : p < g.1.length) (hS : ¬S.getLsbD (idN g p) = true) :
    CsI g (ins S (idN g p : Int)) (csS g.1.length s p) ∧ (csS g.1.length s p).2.2 = max s.2.2 (rn (nbA g) S (idN g p)) := by
  obtain ⟨M, gone, most⟩ := s
  have hv := (idN_at G hp).2
  have hv' := bit_lt hv
  obtain ⟨go, hgo⟩ : ∃ go : Nat → Bool, go = fun i => if i = p then true else gone i := ⟨_, rfl⟩
  obtain ⟨nr, hnr⟩ : ∃ nr, nr = nrTo M go p g.1.length := ⟨_, rfl⟩
  have e : csS g.1.length (M, gone, most) p = (fillM nr M, go, if most < ((nr.length : Nat) : Int) then ((nr.length : Nat) : Int) else most) := by rw [hnr, hgo]; rfl
  have hgoi : ∀ q, q < g.1.length → (go q = true ↔ (ins S (idN g p : Int)).getLsbD (idN g q) = true) := fun q hq => by
    rw [hgo, bit_ins S hv']
    by_cases hqp : q = p
    · simp [hqp]
    · have h1 : idN g q ≠ idN g p := fun h => hqp (idN_inj G hq hp h)
      simp only [if_neg hqp]
      rw [h.go q hq]
      exact ⟨.inl, fun h => h.elim id fun h => absurd h h1⟩
  have hmem : ∀ q, q ∈ nr ↔ q < g.1.length ∧ q ≠ p ∧ ¬S.getLsbD (idN g q) = true ∧ Via (nbA g) S (idN g p) (idN g q) := fun q => by
    rw [hnr, nrTo, List.mem_filter, List.mem_range, Bool.and_eq_true, Bool.not_eq_true']
    constructor
    · rintro ⟨hq, h1, h2⟩
      have h3 : ¬(ins S (idN g p : Int)).getLsbD (idN g q) = true := fun hh => by rw [(hgoi q hq).2 hh] at h2; cases h2
      rw [bit_ins S hv'] at h3
      have hqp : q ≠ p := fun hh => h3 (.inr (by rw [hh]))
      have h4 : ¬S.getLsbD (idN g q) = true := fun hh => h3 (.inl hh)
      exact ⟨hq, hqp, h4, (h.mx p q hp hq (Ne.symm hqp) hS h4).1 h1⟩
    · rintro ⟨hq, hqp, h4, h5⟩
      refine ⟨hq, (h.mx p q hp hq (Ne.symm hqp) hS h4).2 h5, ?_⟩
      cases hg : go q with
      | false => rfl
      | true =>
        have := (hgoi q hq).1 hg
        rw [bit_ins S hv'] at this
        exact this.elim (fun hh => absurd hh h4) fun hh => absurd (idN_inj G hq hp hh) hqp
  have hlen : ((nr.length : Nat) : Int) = rn (nbA g) S (idN g p) := by
    have hperm : (nr.map (idN g)).Perm (elems (reB (nbA g) S (idN g p : Int))) := by
      have hn1 : (nr.map (idN g)).Nodup := by
        have hnd : nr.Nodup := by rw [hnr]; exact nrTo_nodup _ _ _ _
        refine List.pairwise_map.2 (List.Pairwise.imp_of_mem (fun {a b} ha hb hab hh => hab (idN_inj G ((hmem a).1 ha).1 ((hmem b).1 hb).1 hh)) hnd)
      have hn2 : (elems (reB (nbA g) S (idN g p : Int))).Nodup := List.Nodup.sublist List.filter_sublist List.nodup_range
      refine (List.perm_ext_iff_of_nodup hn1 hn2).2 fun u => ?_
      rw [List.mem_map, mem_elems, reB_bit hv']
      constructor
      · rintro ⟨q, hq, rfl⟩
        obtain ⟨k1, k2, k3, k4⟩ := (hmem q).1 hq
        exact ⟨bit_lt (idN_at G k1).2, k4, k3, fun hh => k2 (idN_inj G k1 hp hh)⟩
      · rintro ⟨_, k1, k2, k3⟩
        have hu := k1.inn (V := vset g.1) fun i j hh => (((nbA_bit G).1 hh).inn G).2.1
        obtain ⟨q, _, hq, rfl⟩ := fnd_at G hu
        exact ⟨q, (hmem q).2 ⟨hq, fun hh => k3 (by rw [hh]), k2, k1⟩, rfl⟩
    have := hperm.length_eq
    rw [List.length_map, card_elems] at this
    rw [rn, this]
  rw [e]
  refine ⟨⟨fun q hq => hgoi q hq, fun a b ha hb hab h1 h2 => ?_⟩, ?_⟩
  · rw [bit_ins S hv'] at h1 h2
    have a1 : ¬S.getLsbD (idN g a) = true := fun hh => h1 (.inl hh)
    have b1 : ¬S.getLsbD (idN g b) = true := fun hh => h2 (.inl hh)
    have a2 : a ≠ p := fun hh => h1 (.inr (by rw [hh]))
    have b2 : b ≠ p := fun hh => h2 (.inr (by rw [hh]))
    show fillM nr M a b = true ↔ _
    rw [fillM, fillM_at, h.mx a b ha hb hab a1 b1, hmem, hmem, Via.ins hv']
    constructor
    · rintro (k | ⟨⟨_, _, _, k1⟩, ⟨_, _, _, k2⟩, _⟩)
      · exact .inl k
      · exact .inr ⟨k1.symm (nb_symm G), k2⟩
    · rintro (k | ⟨k1, k2⟩)
      · exact .inl k
      · exact .inr ⟨⟨ha, a2, a1, k1.symm (nb_symm G)⟩, ⟨hb, b2, b1, k2⟩, hab⟩
  · show (if most < ((nr.length : Nat) : Int) then ((nr.length : Nat) : Int) else most) = _
    rw [hlen]
    split <;> (dsimp only; omega)
theorem cs_widL (G : Gr.Ok g) : ∀ (l : List Nat) (S : BS) (s : Mx × (Nat → Bool) × Int), CsI g S s → -1 ≤ s.2.2 → l.Nodup → (∀ v ∈ l, (vset g.1).getLsbD v = true ∧ ¬S.getLsbD v = true) →
    ((natL l).foldl (fun s x => csS g.1.length s (fndF g.1 x).toNat) s).2.2 = max s.2.2 (widL (nbA g) S l)
  | [], S, s, _, h0, _, _ => by
    show s.2.2 = max s.2.2 (-1)
    omega
  | v :: l, S, s, h, h0, hnd, hl => by
    obtain ⟨p, hp1, hp2, hp3⟩ := fnd_at G (hl v (by simp)).1
    obtain ⟨n1, n2⟩ := List.nodup_cons.1 hnd
    have hS := (hl v (by simp)).2
    have hv' := bit_lt (hl v (by simp)).1
    obtain ⟨k1, k2⟩ := csI_step G h hp2 (by rw [hp3]; exact hS)
    rw [hp3] at k1 k2
    have ih := cs_widL G l (ins S (v : Int)) (csS g.1.length s p) k1 (by rw [k2]; omega) n2 fun u hu => ⟨(hl u (by simp [hu])).1, fun hh => by
      rw [bit_ins S hv'] at hh
      exact hh.elim (hl u (by simp [hu])).2 fun hh => n1 (by rw [← hh]; exact hu)⟩
    have e1 : (natL (v :: l)).foldl (fun s x => csS g.1.length s (fndF g.1 x).toNat) s = (natL l).foldl (fun s x => csS g.1.length s (fndF g.1 x).toNat) (csS g.1.length s p) := by
      rw [natL, List.map_cons, List.foldl_cons, hp1, Int.toNat_natCast]; rfl
    rw [e1, ih, k2, widL]
    omega
theorem widL_ge (nb : Int → BS) : ∀ (l : List Nat) (S : BS), -1 ≤ widL nb S l
  | [], S => Int.le_refl _
  | v :: l, S => by have := widL_ge nb l (ins S (v : Int)); rw [widL]; omega
/-- COST IS THE WIDTH OF THE ORDER -/
theorem cost_widL (G : Gr.Ok g) {l : List Nat} (hnd : l.Nodup) (hl : ∀ v ∈ l, (vset g.1).getLsbD v = true) : costG g (natL l) = widL (nbA g) 0 l := by
  have h := cs_widL G l 0 (M0 g, fun _ => false, -1) (csI_0 G) (Int.le_refl _) hnd fun v hv => ⟨hl v hv, bit_zero v⟩
  have h2 := widL_ge (nbA g) l 0
  rw [costG, csTo, h]
  dsimp only
  omega
end
end Go.Mono

namespace Go.Mono
open Go Go.RowKit
/-- a slice of numbers without room, in a block from N on -/
def FuA (te : TypeId) (N : Nat) (xs : List Int) : VA := ⟨fun v w => ∃ b, N ≤ b ∧ v = .slice (some ⟨b, 0, none⟩) xs.length xs.length ∧ Blk w b (xs.map (Value.int .i64)).toArray te, fun v w w' e ⟨b, h1, h2, h3⟩ => ⟨b, h1, h2, h3.ext e⟩⟩
theorem avR_fu {te : TypeId} {N : Nat} {xs : List Int} {row : Option Nat} (h : ∀ b, row = some b → b < N) : AvR row (FuA te N xs) := ⟨fun v w w' hg ⟨b, h1, h2, h3⟩ => ⟨b, h1, h2, h3.gro hg fun e => by have := h b e; omega⟩⟩
theorem avR_ow {te : TypeId} {N : Nat} {G : Nat → Prop} {xs : List Int} {row : Option Nat} (h : ∀ b, row = some b → b < N) : AvR row (OwA intE te N G xs) := ⟨fun v w w' hg ho => OwR.groE ho hg fun b hb e => by have := h b e; have := (OwR.lt ho hb).1; omega⟩
theorem int_cells_all {G : Nat → Prop} {w : World} : ∀ l : List Int, Cells intE G w l (l.map (Value.int .i64))
  | [] => rfl
  | d :: l => ⟨[.int .i64 d], l.map (Value.int .i64), rfl, rfl, int_cells_all l⟩
theorem int_cells_eq {G : Nat → Prop} {w : World} : ∀ {l : List Int} {cs : List Value}, Cells intE G w l cs → cs = l.map (Value.int .i64)
  | [], cs, h => h
  | x :: l, cs, ⟨c, d, h, h1, h2⟩ => by
    have : c = [.int .i64 x] := h1
    rw [h, this, int_cells_eq h2]; rfl
section
variable {P : Program} {w0 : World} {L : Env} {dst : Option Tmp} {ty : TypeId} {pos : String} {aft : Array Edge} {g : Option (Nat × Bool)} {t te : TypeId} {N : Nat}
theorem bslF0 {s : Nat} (ht : P.underlying t = some (.slice te)) (hi : (P.info? te).map (·.size) = some s) (hN : N ≤ w0.heap.size) : OpC P w0 L ⟨dst, .buildSlice t 0 #[], ty, pos, aft, g⟩ (FuA te N []) := by
  refine ⟨fun ρ w he hv => ?_⟩
  have hrun : (execOp ρ ⟨dst, .buildSlice t 0 #[], ty, pos, aft, g⟩).run P w = .ok (.value (.slice (some ⟨w.heap.size, 0, none⟩) 0 0)) (w.alloc (.cells #[] te)) := by
    cases hit : P.info? te with
    | none => simp [hit] at hi
    | some i => simp [execOp, Instr.buildSlice, run_underlying ht, sizeOf, typeInfo, hit, Instr.fill, newRow, Array.range_zero']
  simp only [OpR, hrun]
  exact ⟨ext_alloc _ _, w.heap.size, Nat.le_trans hN he.size, rfl, blk_alloc w _ _⟩
theorem bslF1 {x : Operand} {z : Int} {bz : Nat} {z0 : Value} (ht : P.underlying t = some (.slice te)) (hi : (P.info? te).map (fun i => (i.zero, i.size, i.bytes)) = some (some z0, 1, bz)) (hz0 : z0.cells.size = 1)
    (hx : opd L x = some (E (.int .i64 z))) (hN : N ≤ w0.heap.size) : OpC P w0 L ⟨dst, .buildSlice t 1 #[(0, x)], ty, pos, aft, g⟩ (FuA te N [z]) := by
  refine ⟨fun ρ w he hv => ?_⟩
  have hxv := opE hv (x := x) (by simp [Op.operands]) hx
  obtain ⟨it, hit, hiz, hsz, _⟩ := info_parts hi
  have hfl := fill_seq (k := 1) [Value.int .i64 z] [[Value.int .i64 z]] 0 [] ((Array.range (1 * 1)).map (z0.cells[· % z0.cells.size]!)) rfl (by simp) (by simp) (by simp) (by simp)
  have hr := run_buildSlice (P := P) w t te 1 #[(0, .int .i64 z)] #[.int .i64 z] it z0 ht hit hiz (by rw [hsz]; omega) (by rw [hsz]; omega) (by rw [hsz]; exact hfl)
  have hrun : (execOp ρ ⟨dst, .buildSlice t 1 #[(0, x)], ty, pos, aft, g⟩).run P w = .ok (.value (.slice (some ⟨w.heap.size, 0, none⟩) 1 1)) (w.alloc (.cells #[.int .i64 z] te)) := by
    simp only [execOp, Sem.run_bind, List.map_toArray, List.map_cons, List.map_nil, hxv, hr, Result.andThen_ok, Sem.run_pure]
  simp only [OpR, hrun]
  exact ⟨ext_alloc _ _, w.heap.size, Nat.le_trans hN he.size, rfl, blk_alloc w _ _⟩
/-- append where there is no room -/
theorem appF {x y : Operand} {G : Nat → Prop} {xs ys : List Int} {bz : Nat} {z0 : Value} (ht : P.underlying t = some (.slice te)) (hi : (P.info? te).map (fun i => (i.zero, i.size, i.bytes)) = some (some z0, 1, bz)) (hz0 : z0.cells.size = 1)
    (hx : opd L x = some (FuA te N xs)) (hy : Is L w0 y (Dv (slE intE) G ys)) (hN : N ≤ w0.heap.size) (h63 : xs.length + ys.length ≤ maxLen) (hb : (xs.length + ys.length) * bz ≤ 140737488355328) :
    OpC P w0 L ⟨dst, .call ⟨.builtin .append, #[x, y], #[t, t]⟩, ty, pos, aft, g⟩ (OwA intE te N (fun _ => False) (xs ++ ys)) := by
  refine ⟨fun ρ w he hv => ?_⟩
  obtain ⟨it, hit, hiz, hsz', hbz⟩ := info_parts hi
  obtain ⟨b, hNb, hxv, hB⟩ := hv x (by simp [Op.operands, Call.operands]) _ hx
  have hyv := hy.v he hv (by simp [Op.operands, Call.operands])
  have hcx : ∀ j u, (xs.map (Value.int .i64))[j]? = some u → w.cell? ((⟨b, 0, none⟩ : Addr).add j) = some u := fun j u hu => by
    rw [Addr.add_lit, hB.cell, List.getElem?_toArray, Nat.zero_add]; exact hu
  have own : w.ownsRow N te 1 (.slice (some ⟨b, 0, none⟩) xs.length xs.length) xs.length (xs.map (Value.int .i64)) := by
    refine ⟨by simp, .inr ⟨b, xs.length, _, rfl, hNb, hB, Nat.le_refl _, ?_, by simp, ?_⟩⟩
    · exact Nat.le_trans (Nat.le_add_right _ _) h63
    · rw [Nat.mul_one, List.take_of_length_le (by simp)]
  have nothing : ∀ u, Src P it.size t u 0 [] w → ys = [] → ρ y = u → OpR P ⟨dst, .call ⟨.builtin .append, #[x, y], #[t, t]⟩, ty, pos, aft, g⟩ ρ w (fun v w' => Ext w w' ∧ (OwA intE te N (fun _ => False) (xs ++ ys)).p v w') := fun u hs hys hu => by
    have h1 := run_append_nothing (P := P) w t t ty te it ht hit (some ⟨b, 0, none⟩) xs.length xs.length (Nat.le_refl _) u hs
    simp only [OpR, execOp, resolve, invoke, builtin, Sem.run_bind, Sem.run_pure, Result.andThen_ok, List.map_toArray, List.map_cons, List.map_nil, hxv, hu, h1]
    refine ⟨Ext.rfl' _, ?_⟩
    rw [hys, List.append_nil]
    exact ⟨⟨_, own, int_cells_all _⟩, fun b hb => hb.elim, Nat.le_trans hN he.size⟩
  rcases Dv.sl.1 hyv with ⟨hy0, hys⟩ | ⟨ad, cap, ds, hy0, _, h3, h4, h5, h6⟩
  · refine nothing _ ⟨.inl ⟨_, ht⟩, fun w' => ?_, ?_, ?_, by simp, by simp⟩ hys hy0
    · simp [Builtin.lenOf]
    · simp [Builtin.firstCells]
    · simp [Builtin.firstCells]
  · have hds := int_cells_eq h5
    subst hds
    by_cases hys : ys = []
    · subst hys
      refine nothing _ ⟨.inl ⟨_, ht⟩, fun w' => ?_, ?_, ?_, by simp, by simp⟩ rfl hy0
      · simp [Builtin.lenOf]
      · exact run_firstCells_some (P := P) w it.size 0 ad 0 cap [] (by simp) (fun j u hu => by simp at hu)
      · exact run_firstCells_some (P := P) w.drew it.size 0 ad 0 cap [] (by simp) (fun j u hu => by simp at hu)
    · have hpos : 0 < ys.length := List.length_pos_iff.2 hys
      obtain ⟨v', w', r1, r2, r3⟩ := run_append_arg_grows (P := P) w t ty te it z0 1 bz ht hit hiz hsz' hbz hz0 (by decide) ⟨b, 0, none⟩ xs.length xs.length (xs.map (Value.int .i64)) (by simp) hcx ad ys.length cap (ys.map (Value.int .i64)) (by simp) h6 (by omega) h63 hb
      simp only [OpR, execOp, resolve, invoke, builtin, Sem.run_bind, Sem.run_pure, Result.andThen_ok, List.map_toArray, List.map_cons, List.map_nil, hxv, hy0, r1]
      refine ⟨⟨r3.os, r3.tape, r3.output, r3.size, fun b hb => r3.block b hb (by simp)⟩, ⟨_, ?_, by have := int_cells_all (G := GO (fun _ => False) v') (w := w') (xs ++ ys); rwa [List.map_append] at this⟩, fun b hb => hb.elim, Nat.le_trans (Nat.le_trans hN he.size) r3.size⟩
      obtain ⟨q1, q2⟩ := r2
      refine ⟨by simp [show intE.k = 1 from rfl], ?_⟩
      rcases q2 with ⟨k1, k2⟩ | ⟨gg, cap2, cur, k1, k2, k3, k4, k5, k6, k7⟩
      · omega
      · exact .inr ⟨gg, cap2, cur, by rw [List.length_append]; exact k1, Nat.le_trans (Nat.le_trans hN he.size) k2, k3, by rw [List.length_append]; exact k4, k5, k6, by rw [List.length_append]; exact k7⟩
/-- the tail of a slice -/
theorem slcT {α : Type} {e : Enc α} {G : Nat → Prop} {x y : Operand} {xs : List α} {i : Nat} (ht : P.underlying t = some (.slice te)) (hs : (P.info? te).map (·.size) = some e.k) (hx : Is L w0 x (Dv (slE e) G xs)) (hy : opd L y = some (E (.int .i64 (i : Nat)))) (hi : i ≤ xs.length) :
    OpC P w0 L ⟨dst, .slice t x (some y) none none, ty, pos, aft, g⟩ (Dv (slE e) G (xs.drop i)) :=
  opc_pure fun ρ w he hv => by
    have h := Dv.sl.1 (hx.v he hv (by simp [Op.operands]))
    have h2 := opE hv (x := y) (by simp [Op.operands]) hy
    rcases h with ⟨h, rfl⟩ | ⟨ad, cap, cs, h, hc, h3, h4, h5, h6⟩
    · have hi0 : i = 0 := by simpa using hi
      subst hi0
      refine ⟨.slice none 0 0, ?_, Dv.nil⟩
      simp [execOp, h, h2, Instr.sliceAt, Instr.slice, Instr.sliceBounds, Instr.sliceBound, asIntOf, run_underlying ht, sz_of hs]
    · have h8 := h5.drop i
      have hxl : (xs.drop i).length = xs.length - i := List.length_drop
      by_cases hcap : (cap : Int) = (i : Nat)
      · have hl0 : xs.length - i = 0 := by omega
        have hd0 : xs.drop i = [] := List.drop_eq_nil_of_le (by omega)
        rw [hd0]
        refine ⟨.slice (some ad) 0 0, ?_, Dv.sl.2 (.inr ⟨ad, 0, [], rfl, Nat.le_refl _, h3, h4, rfl, fun j u hu => by simp at hu⟩)⟩
        have hi1 : (0 : Int) ≤ (i : Int) ∧ (i : Int) ≤ (xs.length : Int) := by omega
        have hl1 : xs.length = i := by omega
        have hc1 : cap = i := by omega
        subst hc1
        simp [execOp, h, h2, Instr.sliceAt, Instr.slice, Instr.sliceBounds, Instr.sliceBound, asIntOf, run_underlying ht, sz_of hs, hl1]
      · refine ⟨.slice (some (ad.add (i * e.k))) (xs.drop i).length (cap - i), ?_, Dv.sl.2 (.inr ⟨ad.add (i * e.k), cap - i, cs.drop (i * e.k), rfl, by rw [hxl]; omega, by simpa [add_block] using h3, by simpa [add_block] using h4, h8, fun j u hu => ?_⟩)⟩
        · have hne : ¬ cap = i := fun hh => hcap (by rw [hh])
          have hne2 : ¬ cap - i = 0 := by omega
          have hle : (i : Int) ≤ (xs.length : Int) := by omega
          have hle2 : i ≤ cap := by omega
          have hle3 : i ≤ xs.length := hi
          simp [execOp, h, h2, Instr.sliceAt, Instr.slice, Instr.sliceBounds, Instr.sliceBound, asIntOf, run_underlying ht, sz_of hs, hne, hne2, hle, hle2, hle3, hc]
        · rw [Go.Deep.add_add]
          rw [List.getElem?_drop] at hu
          exact h6 _ _ hu
end
end Go.Mono

namespace Go.Mono
open Go Go.Proofs Go.RowKit Go.Gr

/-- all orders, the first numbers ascending -/
def ordF : Nat → List Int → List (List Int)
  | 0, _ => [[]]
  | f + 1, l => (List.range l.length).flatMap fun i => (ordF f (l.take i ++ l.drop (i + 1))).map fun r => gi l i :: r
def ordTo (f : Nat) (l : List Int) (k : Nat) : List (List Int) := (List.range k).flatMap fun i => (ordF f (l.take i ++ l.drop (i + 1))).map fun r => gi l i :: r
theorem ordTo_succ (f : Nat) (l : List Int) (k : Nat) : ordTo f l (k + 1) = ordTo f l k ++ (ordF f (l.take k ++ l.drop (k + 1))).map fun r => gi l k :: r := by
  rw [ordTo, List.range_succ, List.flatMap_append, ← ordTo]
  simp
theorem cut_len {l : List Int} {k n : Nat} (h : l.length = n + 1) (hk : k < l.length) : (l.take k ++ l.drop (k + 1)).length = n := by
  rw [List.length_append, List.length_take, List.length_drop]; omega
def facN : Nat → Nat
  | 0 => 1
  | n + 1 => (n + 1) * facN n
theorem ordF_len : ∀ (f : Nat) (l : List Int), l.length = f → (ordF f l).length = facN f
  | 0, l, _ => rfl
  | f + 1, l, h => by
    have : ∀ k, k ≤ l.length → (ordTo f l k).length = k * facN f := by
      intro k
      induction k with
      | zero => intro _; simp [ordTo]
      | succ k ih =>
        intro hk
        rw [ordTo_succ, List.length_append, ih (by omega), List.length_map, ordF_len f _ (cut_len h (by omega)), Nat.succ_mul]
    have := this l.length (Nat.le_refl _)
    rw [h] at this
    show (ordTo f l l.length).length = _
    rw [h, this]; rfl
theorem ordF_each : ∀ (f : Nat) (l : List Int), l.length = f → ∀ o ∈ ordF f l, o.length = f
  | 0, l, _, o, ho => by
    rw [show ordF 0 l = [[]] from rfl, List.mem_singleton] at ho
    rw [ho]; rfl
  | f + 1, l, h, o, ho => by
    rw [ordF, List.mem_flatMap] at ho
    obtain ⟨i, hi, ho⟩ := ho
    obtain ⟨r, hr, rfl⟩ := List.mem_map.1 ho
    rw [List.length_cons, ordF_each f _ (cut_len h (List.mem_range.1 hi)) r hr]
theorem facN_le : ∀ {f n : Nat}, f ≤ n → n ≤ 9 → facN f ≤ 362880 := by
  intro f n h1 h2
  have : f = 0 ∨ f = 1 ∨ f = 2 ∨ f = 3 ∨ f = 4 ∨ f = 5 ∨ f = 6 ∨ f = 7 ∨ f = 8 ∨ f = 9 := by omega
  rcases this with rfl | rfl | rfl | rfl | rfl | rfl | rfl | rfl | rfl | rfl <;> decide
theorem is_ow {w0 : World} {L : Env} {x : Operand} {te : TypeId} {N : Nat} {xs : List Int} (h : opd L x = some (OwA intE te N (fun _ => False) xs)) : Is L w0 x (Dv (slE intE) (fun b => b < N) xs) :=
  ⟨_, h, fun v w _ ho => OwR.slN ho fun b hb hh => by have := (OwR.lt ho hb).1; omega⟩
theorem orders_spec : ∀ (f : Nat) (l : List Int) (G : Nat → Prop) (v : Value) (W : World), l.length = f → f ≤ 9 → (Dv (slE intE) G l).p v W → ∀ (K : Nat → Prop), (∀ b, K b → b < W.heap.size) →
    Calls Tryz.prog 38 #[v] W (Post (Dv (slE (slE intE)) K (ordF f l)) W) := by
  intro f
  induction f with
  | zero =>
    intro l G v W hl hf9 h K hK
    have hb0 := Dv.toB (Dv.weak (G' := Go.Mono.G0) h fun b _ hb => hb.elim)
    refine enter (args := [v]) (As := [Dv (slE intE) (GB W Go.Mono.G0) l]) Tryz.func38 rfl Tryz.ntmps38 (Nat.le_of_ble_eq_true rfl) ?_ (fun a hf => ?_) (Nat.le_of_ble_eq_true rfl)
    rotate_left
    dsimp only [params, Nat.reduceAdd] at hf
    rotate_right
    · exact arg1 hb0
    have e := Ext.rfl' W
    repeat refine seq ?_
    refine regn0 ?_
    refine tl_as hf rfl (by decide) fun a hf => ?_
    refine tl_nil ?_
    repeat refine seq ?_
    refine regn 3 hf (by decide +kernel) ?_
    refine st (mv rfl) ?_
    refine st (lenD Tryz.underlying30 (isR rfl)) ?_
    refine st ((eql rfl rfl).eq (congrArg Value.bool ((by rw [hl]; rfl : ((((l.length : Nat) : Int) == 0) = true))))) ?_
    refine en fun a w e' hf => ?_
    replace e := Ext.tr e e'
    clear e'
    refine tl_nil ?_
    repeat refine seq ?_
    refine ifc hf rfl (fun _ => ?_) (fun h => by cases h)
    have hKw : ∀ b, K b → b < w.heap.size := fun b hb => Nat.lt_of_lt_of_le (hK b hb) e.size
    repeat refine seq ?_
    refine regn 1 hf (by decide +kernel) ?_
    refine st (bsl1 (e := slE intE) (G := K) Tryz.underlying85 I30 rfl (by decide) rfl hKw (isE rfl Dv.nil)) ?_
    refine en fun a w e' hf => ?_
    replace e := Ext.tr e e'
    clear e'
    refine tl_as hf rfl (by decide) fun a hf => ?_
    refine tl_nil ?_
    refine wret ?_
    try simp only [Exit.then, Exit.inBlock]
    refine ret1 rfl hf rfl ?_
    intro v hv
    exact ⟨_, rfl, e, hv⟩
  | succ f ih =>
    intro l G v W hl hf9 h K hK
    have hb0 := Dv.toB (Dv.weak (G' := Go.Mono.G0) h fun b _ hb => hb.elim)
    refine enter (args := [v]) (As := [Dv (slE intE) (GB W Go.Mono.G0) l]) Tryz.func38 rfl Tryz.ntmps38 (Nat.le_of_ble_eq_true rfl) ?_ (fun a hf => ?_) (Nat.le_of_ble_eq_true rfl)
    rotate_left
    dsimp only [params, Nat.reduceAdd] at hf
    rotate_right
    · exact arg1 hb0
    have e := Ext.rfl' W
    repeat refine seq ?_
    refine regn0 ?_
    refine tl_as hf rfl (by decide) fun a hf => ?_
    refine tl_nil ?_
    repeat refine seq ?_
    refine regn 3 hf (by decide +kernel) ?_
    refine st (mv rfl) ?_
    refine st (lenD Tryz.underlying30 (isR rfl)) ?_
    refine st ((eql rfl rfl).eq (congrArg Value.bool ((by rw [hl]; exact beq_false_of_ne (by omega) : ((((l.length : Nat) : Int) == 0) = false))))) ?_
    refine en fun a w e' hf => ?_
    replace e := Ext.tr e e'
    clear e'
    refine tl_nil ?_
    repeat refine seq ?_
    refine ifc hf rfl (fun h => by cases h) (fun _ => ?_)
    refine wskip ?_
    try simp only [Exit.then, Exit.inBlock, ↓reduceIte]
    repeat refine seq ?_
    refine regn0 ?_
    refine tl_as hf rfl (by decide) fun a hf => ?_
    refine tl_nil ?_
    repeat refine seq ?_
    refine regn0 ?_
    refine tl_as hf rfl (by decide) fun a hf => ?_
    refine tl_nil ?_
    replace hf := hf.keep [0, 3, 4]
    dsimp only [keep, List.filterMap, look, Nat.beq, Option.map] at hf
    replace hf := hf.keep [0, 3, 4]
    dsimp only [keep, List.filterMap, look, Nat.beq, Option.map] at hf
    repeat refine seq ?_
    refine blk (loopN (fun r0 a w => ∃ (k : Nat) (uo : Value), r0 = l.length - k ∧ k ≤ l.length ∧ Fr 48 a w [(0, Dv (slE intE) (GB W Go.Mono.G0) l), (3, E uo), (4, E (I k))] ∧ Ext W w ∧ OwR (slE intE) 30 W.heap.size K w (ordTo f l k) uo) l.length ⟨0, .slice none 0 0, rfl, by omega, hf, e, OwR.nil (slE intE) _ e.size hK⟩ ?_)
    clear hf e; try clear Ho
    rintro r0 a w ⟨k, uo, rfl, hk, hf, e, Ho⟩
    repeat refine seq ?_
    refine regn 4 hf (by decide +kernel) ?_
    refine st (mv rfl) ?_
    refine st (mv rfl) ?_
    refine st (lenD Tryz.underlying30 (isR rfl)) ?_
    refine st (lss rfl rfl) ?_
    refine en fun a w e' hf => ?_
    replace e := Ext.tr e e'
    replace Ho := Ho.ext e'
    clear e'
    refine tl_nil ?_
    repeat refine seq ?_
    refine ifc hf rfl (fun hc => wskip ?_) (fun hc => wexit ?_)
    rotate_left
    rotate_left
    · have hlt : k < l.length := by have := of_decide_eq_true hc; (try dsimp only at this); omega
      clear hc
      replace hf := hf.keep [0, 3, 4]
      dsimp only [keep, List.filterMap, look, Nat.beq, Option.map] at hf
      repeat refine seq ?_
      refine blk ?_
      have hxk : l[k]? = some (gi l k) := gi_get hlt
      obtain ⟨N1, hN1⟩ : ∃ N1, N1 = w.heap.size := ⟨_, rfl⟩
      have hN1s : N1 ≤ w.heap.size := Nat.le_of_eq hN1
      have hWN : W.heap.size ≤ N1 := by rw [hN1]; exact e.size
      have hcl := cut_len hl hlt
      obtain ⟨rs, hrs⟩ : ∃ rs, rs = ordF f (l.take k ++ l.drop (k + 1)) := ⟨_, rfl⟩
      have hrl : rs.length = facN f := by rw [hrs]; exact ordF_len f _ hcl
      have hfl := facN_le (f := f) (n := f) (Nat.le_refl _) (by omega)
      have hsucc := ordTo_succ f l k
      rw [← hrs] at hsucc
      have hkl : (ordTo f l k).length ≤ 9 * 362880 := by
        have : ∀ k, k ≤ l.length → (ordTo f l k).length = k * facN f := by
          intro k
          induction k with
          | zero => intro _; simp [ordTo]
          | succ k ih => intro hk; rw [ordTo_succ, List.length_append, ih (by omega), List.length_map, ordF_len f _ (cut_len hl (by omega)), Nat.succ_mul]
        rw [this k (by omega)]
        exact Nat.mul_le_mul (by omega) hfl
      haveI i1 : InS (GB W Go.Mono.G0) (fun b => N1 ≤ b) := ⟨fun b hb => .inr (Nat.le_trans hWN hb)⟩
      have hown0 : ∀ b, uo.ownBlock = some b → b < N1 := fun b hb => by rw [hN1]; exact (Ho.lt hb).2
      repeat refine seq ?_
      refine regQ 11 [0, 0, 0, 0, 0, 0, 0, 0, 0] (fun b => N1 ≤ b) (fun w => True) (fun w w1 k h => trivial) Mix.mix hf (by decide +kernel) (by decide +kernel) ?_
      refine qa (bslF0 Tryz.underlying30 S3 hN1s) ?_
      refine qa (mv rfl) ?_
      refine qa (mv rfl) ?_
      refine qa (slcD Tryz.underlying30 S3 (isR rfl) rfl (by omega)) ?_
      refine qa (appF Tryz.underlying30 I3 rfl rfl (isR rfl) hN1s (by rw [List.length_nil, List.length_take]; simp only [maxLen]; omega) (by rw [List.length_nil, List.length_take]; omega)) ?_
      refine qa (mv rfl) ?_
      refine qa (mv rfl) ?_
      refine qa ((add rfl rfl (by omega)).eq (congrArg I (show ((k : Nat) : Int) + 1 = ((k + 1 : Nat) : Int) from rfl))) ?_
      refine qa (slcT Tryz.underlying30 S3 (isR rfl) rfl (by omega)) ?_
      refine qx (xappF Tryz.underlying30 I3 rfl rfl rfl (isR rfl) (by simp only [List.length_append, List.length_nil, List.length_take, List.length_drop]; omega) (by simp only [List.length_append, List.length_nil, List.length_take, List.length_drop, maxLen]; omega) (fun _ _ _ _ => trivial) (fun _ _ => trivial)) ?_
      refine qp (fun w1 h1 HF1 => call1 (A := Dv (slE (slE intE)) (fun b => b < N1) rs) En38 rfl (fun v w he k => by rw [hrs]; exact ih _ (fun _ => False) v w (by rw [List.nil_append]; exact hcl) (by omega) k.sl (fun b => b < N1) fun b hb => by have := h1.size; have := he.size; omega)) ?_
      refine qe ?_
      refine fun a w hc HF hf => ?_
      try dsimp only [push] at hf
      have e' : Ext _ w := ⟨hc.os, hc.tape, hc.output, hc.size, fun b hb => hc.block b hb (by omega)⟩
      replace e := Ext.tr e e'
      replace Ho := Ho.ext e'
      have hN12 : N1 ≤ w.heap.size := Nat.le_trans hN1s e'.size
      clear hc HF e' hN1 hN1s
      refine tl_as hf rfl (by decide) fun a hf => ?_
      refine tl_nil ?_
      obtain ⟨rv, HR0, hf⟩ := hf.opn 5 rfl
      obtain ⟨N2, hN2⟩ : ∃ N2, N2 = w.heap.size := ⟨_, rfl⟩
      have hN2s : N2 ≤ w.heap.size := Nat.le_of_eq hN2
      have HR : (Dv (slE (slE intE)) (fun b => b < N1 ∨ N2 ≤ b) rs).p rv w := Dv.weak HR0 fun b hb hh => hh.elim id fun h => by omega
      have hN12' : N1 ≤ N2 := by rw [hN2]; exact Nat.le_trans hN12 (by omega)
      clear HR0 hN2 hN12
      have hown : ∀ b, uo.ownBlock = some b → b < N1 ∨ N2 ≤ b := fun b hb => .inl (hown0 b hb)
      clear hown0
      replace hf := hf.keep [0, 3, 4, 5]
      dsimp only [keep, List.filterMap, look, Nat.beq, Option.map] at hf
      repeat refine seq ?_
      refine regn0 ?_
      refine tl_as hf rfl (by decide) fun a hf => ?_
      refine tl_nil ?_
      replace hf := hf.keep [0, 3, 4, 5, 6]
      dsimp only [keep, List.filterMap, look, Nat.beq, Option.map] at hf
      repeat refine seq ?_
      refine blk (loopN (fun r0 a w => ∃ (j : Nat) (uo : Value), r0 = rs.length - j ∧ j ≤ rs.length ∧ Fr 48 a w [(0, Dv (slE intE) (GB W Go.Mono.G0) l), (3, E uo), (4, E (I k)), (5, E rv), (6, E (I j))] ∧ Ext W w ∧ OwR (slE intE) 30 W.heap.size K w (ordTo f l k ++ (rs.take j).map fun r => gi l k :: r) uo ∧ (Dv (slE (slE intE)) (fun b => b < N1 ∨ N2 ≤ b) rs).p rv w ∧ N2 ≤ w.heap.size ∧ (∀ b, uo.ownBlock = some b → b < N1 ∨ N2 ≤ b)) rs.length ⟨0, uo, rfl, by omega, hf, e, ⟨by rw [List.take_zero, List.map_nil, List.append_nil]; exact Ho, HR, hN2s, hown⟩⟩ ?_)
      clear hf e; try clear Ho; try clear HR; try clear hN2s; try clear hown
      rintro r0 a w ⟨j, uo, rfl, hj, hf, e, Ho, HR, hN2s, hown⟩
      repeat refine seq ?_
      refine regn 4 hf (by decide +kernel) ?_
      refine st (mv rfl) ?_
      refine st (mv rfl) ?_
      refine st (lenD Tryz.underlying85 (isE rfl HR)) ?_
      refine st (lss rfl rfl) ?_
      refine en fun a w e' hf => ?_
      replace HR := VA.st _ _ _ _ e' HR
      replace hN2s := Nat.le_trans hN2s e'.size
      replace e := Ext.tr e e'
      replace Ho := Ho.ext e'
      clear e'
      refine tl_nil ?_
      repeat refine seq ?_
      refine ifc hf rfl (fun hc => wskip ?_) (fun hc => wexit ?_)
      rotate_left
      rotate_left
      · have hltj : j < rs.length := by have := of_decide_eq_true hc; (try dsimp only at this); omega
        clear hc
        replace hf := hf.keep [0, 3, 4, 5, 6]
        dsimp only [keep, List.filterMap, look, Nat.beq, Option.map] at hf
        repeat refine seq ?_
        refine blk ?_
        have hxj := List.getElem?_eq_getElem hltj
        generalize rs[j] = r at hxj
        have hrlen : r.length = f := ordF_each f _ hcl r (by rw [← hrs]; exact List.mem_of_getElem? hxj)
        have hjm : ((rs.take j).map fun r => gi l k :: r).length = j := by rw [List.length_map, List.length_take]; omega
        have hsj : (rs.take (j + 1)).map (fun r => gi l k :: r) = (rs.take j).map (fun r => gi l k :: r) ++ [gi l k :: r] := by rw [take_succ_get hxj, List.map_append]; rfl
        obtain ⟨N3, hN3⟩ : ∃ N3, N3 = w.heap.size := ⟨_, rfl⟩
        have hN3s : N3 ≤ w.heap.size := Nat.le_of_eq hN3
        have hWN3 : W.heap.size ≤ N3 := by rw [hN3]; exact e.size
        have hrow : ∀ b, uo.ownBlock = some b → b < N3 := fun b hb => by rw [hN3]; exact (Ho.lt hb).2
        haveI r1 : AvR uo.ownBlock (FuA 3 N3 [gi l k]) := avR_fu hrow
        haveI r2 : AvR uo.ownBlock (OwA intE 3 N3 (fun _ => False) ([gi l k] ++ r)) := avR_ow hrow
        haveI r3 : InR (GO K uo) uo.ownBlock := ⟨fun b hb => .inr hb⟩
        haveI r4 : InR (fun b => b < N1 ∨ N2 ≤ b) uo.ownBlock := ⟨hown⟩
        haveI r5 : InR (GB W Go.Mono.G0) uo.ownBlock := ⟨fun b hb => .inr (Ho.lt hb).1⟩
        have hbase := fun (b : Nat) (hb : uo.ownBlock = some b) => (Ho.lt hb).1
        repeat refine seq ?_
        refine regX 13 12 uo.ownBlock (by decide) Mix.mix hf (by decide +kernel) ?_
        refine xm (fun w1 h1 => mv rfl) ?_
        refine xm (fun w1 h1 => mv rfl) ?_
        refine xm (fun w1 h1 => mv rfl) ?_
        refine xm (fun w1 h1 => idxD Tryz.underlying30 S3 (isR rfl) rfl (by omega) (hxk)) ?_
        refine xm (fun w1 h1 => ldI T3 (isR rfl)) ?_
        refine xm (fun w1 h1 => bslF1 Tryz.underlying30 I3 rfl rfl (Nat.le_trans hN3s h1.size)) ?_
        refine xm (fun w1 h1 => mv rfl) ?_
        refine xm (fun w1 h1 => mv rfl) ?_
        refine xm (fun w1 h1 => idxD Tryz.underlying85 S30 (isE rfl (Dv.grN HR h1 hown)) rfl (by omega) (hxj)) ?_
        refine xm (fun w1 h1 => ldD T30 (isR rfl)) ?_
        refine xm (fun w1 h1 => appF Tryz.underlying30 I3 rfl rfl (isR rfl) (Nat.le_trans hN3s h1.size) (by simp only [List.length_singleton, maxLen]; omega) (by simp only [List.length_singleton]; omega)) ?_
        refine xm (fun w1 h1 => (bsl1 (e := slE intE) (G := fun b => b < N3) Tryz.underlying85 I30 rfl (by decide) rfl (fun b hb => Nat.lt_of_lt_of_le hb (Nat.le_trans hN3s h1.size)) (is_ow rfl)).conv (B := Dv (slE (slE intE)) (GO K uo) [[gi l k] ++ r]) (fun v w h => Dv.weak h fun b _ hh => hh.elim (fun h => Nat.lt_of_lt_of_le (hK b h) hWN3) (hrow b))) ?_
        refine xx (xapp Tryz.underlying85 I30 rfl rfl rfl Ho rfl (by rw [List.length_append, hjm, List.length_singleton]; omega) (by rw [List.length_append, hjm, List.length_singleton]; simp only [maxLen]; omega)) ?_
        refine xe fun a w hg hf => ?_
        obtain ⟨v', ⟨Hn, hat⟩, hf⟩ := hf.fix 46 rfl
        have hN2o := hN2s
        replace HR := Dv.grN HR hg hown
        replace hN2s := Nat.le_trans hN2s hg.size
        replace e := e.gro hg hbase
        have hown' : ∀ b, v'.ownBlock = some b → b < N1 ∨ N2 ≤ b := fun b hb => by
          rcases hat with h | ⟨c, h, hc⟩
          · rw [h] at hb; exact hown b hb
          · rw [h] at hb; cases hb; right; omega
        clear Ho hg hat r1 r2 r3 r4 r5 hbase hrow hown
        rw [List.append_assoc, show [[gi l k] ++ r] = [gi l k :: r] from rfl, ← hsj] at Hn
        replace hf := hf.keep [0, 4, 5, 6, 46]
        dsimp only [keep, List.filterMap, look, Nat.beq, Option.map] at hf
        refine tl_as hf rfl (by decide) fun a hf => ?_
        refine tl_nil ?_
        try simp only [Exit.then, Exit.inBlock, ↓reduceIte]
        repeat refine seq ?_
        refine regn 2 hf (by decide +kernel) ?_
        refine st (mv rfl) ?_
        refine st ((add rfl rfl (by omega)).eq (congrArg (Value.int .i64) (show (j : Int) + 1 = ((j + 1 : Nat) : Int) from rfl))) ?_
        refine en fun a w e' hf => ?_
        replace HR := VA.st _ _ _ _ e' HR
        replace hN2s := Nat.le_trans hN2s e'.size
        replace e := Ext.tr e e'
        replace Hn := Hn.ext e'
        clear e'
        refine tl_as hf rfl (by decide) fun a hf => ?_
        refine tl_nil ?_
        replace hf := hf.keep [0, 3, 4, 5, 6]
        dsimp only [keep, List.filterMap, look, Nat.beq, Option.map] at hf
        refine ⟨_, ?_, j + 1, _, rfl, by omega, hf, e, ?_⟩
        · omega
        exact ⟨Hn, HR, hN2s, hown'⟩
      · obtain rfl : rs.length = j := by have := of_decide_eq_false hc; (try dsimp only at this); omega
        clear hc
        simp only [Exit.then, Exit.inBlock, ↓reduceIte]
        rw [List.take_length, ← hsucc] at Ho
        replace hf := hf.keep [0, 3, 4]
        dsimp only [keep, List.filterMap, look, Nat.beq, Option.map] at hf
        try simp only [Exit.then, Exit.inBlock, ↓reduceIte]
        repeat refine seq ?_
        refine regn 2 hf (by decide +kernel) ?_
        refine st (mv rfl) ?_
        refine st ((add rfl rfl (by omega)).eq (congrArg (Value.int .i64) (show (k : Int) + 1 = ((k + 1 : Nat) : Int) from rfl))) ?_
        refine en fun a w e' hf => ?_
        replace e := Ext.tr e e'
        replace Ho := Ho.ext e'
        clear e'
        refine tl_as hf rfl (by decide) fun a hf => ?_
        refine tl_nil ?_
        replace hf := hf.keep [0, 3, 4]
        dsimp only [keep, List.filterMap, look, Nat.beq, Option.map] at hf
        refine ⟨_, ?_, k + 1, _, rfl, by omega, hf, e, ?_⟩
        · omega
        exact Ho
    · obtain rfl : l.length = k := by have := of_decide_eq_false hc; (try dsimp only at this); omega
      clear hc
      simp only [Exit.then, Exit.inBlock, ↓reduceIte]
      repeat refine seq ?_
      refine regn 1 hf (by decide +kernel) ?_
      refine st (mv rfl) ?_
      refine en fun a w e' hf => ?_
      replace e := Ext.tr e e'
      replace Ho := Ho.ext e'
      clear e'
      refine tl_as hf rfl (by decide) fun a hf => ?_
      refine tl_nil ?_
      refine wret (ret1 rfl hf rfl ?_)
      rintro _ rfl
      exact ⟨_, rfl, e, Ho.sl⟩
end Go.Mono

namespace Go.Mono
open Go Go.Proofs Go.RowKit Go.Gr

/-- the first of least cost -/
def lsF (c : List Int → Int) (s : Int × List Int) (o : List Int) : Int × List Int := if c o < s.1 then (c o, o) else s
def lsG (c : List Int → Int) (xs : List (List Int)) : Int × List Int := (xs.drop 1).foldl (lsF c) (c (xs.headD []), xs.headD [])
theorem ordF_perm : ∀ (f : Nat) (l : List Int), l.length = f → ∀ o ∈ ordF f l, o.Perm l
  | 0, l, h, o, ho => by
    rw [show ordF 0 l = [[]] from rfl, List.mem_singleton] at ho
    rw [ho, List.eq_nil_of_length_eq_zero h]
  | f + 1, l, h, o, ho => by
    rw [ordF, List.mem_flatMap] at ho
    obtain ⟨i, hi, ho⟩ := ho
    obtain ⟨r, hr, rfl⟩ := List.mem_map.1 ho
    have hi' := List.mem_range.1 hi
    have h1 := ordF_perm f _ (cut_len h hi') r hr
    have h2 : l[i]? = some (gi l i) := gi_get hi'
    refine (h1.cons _).trans ?_
    conv => rhs; rw [← List.take_append_drop i l, List.drop_eq_getElem_cons hi']
    have h3 : l[i] = gi l i := by rw [List.getElem?_eq_getElem hi'] at h2; exact Option.some.inj h2
    rw [h3]
    exact List.perm_middle.symm
theorem ordF_ne : ∀ (f : Nat) (l : List Int), l.length = f → ∃ o os, ordF f l = o :: os := fun f l h => by
  have h1 := ordF_len f l h
  have h2 : 0 < facN f := by
    clear h h1
    induction f with
    | zero => decide
    | succ f ih => rw [facN]; exact Nat.mul_pos (Nat.succ_pos _) ih
  match ho : ordF f l with
  | [] => rw [ho] at h1; simp at h1; omega
  | o :: os => exact ⟨o, os, rfl⟩
theorem least_spec {G G' : Nat → Prop} (g : GT) (l : List Int) (v u : Value) (W : World) (h : (Dv gtE G g).p v W) (h' : (Dv (slE intE) G' l).p u W) (hl : g.1.length ≤ 1000) (hl2 : g.2.length ≤ 1000) (hl9 : l.length ≤ 9) (hin : ∀ x ∈ l, 0 ≤ fndF g.1 x ∧ fndF g.1 x < (g.1.length : Nat)) :
    Calls Tryz.prog 12 #[v, u] W (Post (Tup [E (I (lsG (costG g) (ordF l.length l)).1), Dv (slE intE) Go.Mono.G0 (lsG (costG g) (ordF l.length l)).2]) W) := by
  obtain ⟨u1, u2, rfl, h1, h2⟩ := Dv.gt.1 (Dv.weak (G' := Go.Mono.G0) h fun b _ hb => hb.elim)
  have hg0 : (Dv gtE Go.Mono.G0 g).p (.agg #[u1, u2]) W := Dv.gt.2 ⟨_, _, rfl, h1, h2⟩
  have hord : (Dv (slE intE) Go.Mono.G0 l).p u W := Dv.weak h' fun b _ hb => hb.elim
  clear h h'
  have hperm := ordF_perm l.length l rfl
  have hlen := ordF_len l.length l rfl
  have hfac := facN_le (Nat.le_refl l.length) hl9
  obtain ⟨o0, os, ho0⟩ := ordF_ne l.length l rfl
  obtain ⟨xs, hxs⟩ : ∃ xs, xs = ordF l.length l := ⟨_, rfl⟩
  rw [← hxs] at hperm hlen ho0 ⊢
  have hcost : ∀ o ∈ xs, ∀ (u : Value) (G : Nat → Prop) (w : World), Ext W w → (Dv (slE intE) G o).p u w → Calls Tryz.prog 17 #[.agg #[u1, u2], u] w (Post (E (I (costG g o))) w) := fun o ho u G w e hu =>
    cost_spec g o _ u w (VA.st _ _ _ _ e hg0) hu hl hl2 (by rw [(hperm o ho).length_eq]; omega) fun x hx => hin x ((hperm o ho).mem_iff.1 hx)
  refine enter (args := [.agg #[u1, u2], u]) (As := [E (.agg #[u1, u2]), E u]) Tryz.func12 rfl Tryz.ntmps12 (Nat.le_of_ble_eq_true rfl) ?_ (fun a hf => ?_) (Nat.le_of_ble_eq_true rfl)
  rotate_left
  dsimp only [params, Nat.reduceAdd] at hf
  rotate_right
  · exact arg2 rfl rfl
  have e := Ext.rfl' W
  repeat refine seq ?_
  refine regn0 ?_
  refine tl_box hf rfl (by decide) fun a b2 w v2 hv2 e' hb2 hs2 B2 hf => ?_
  have hle2 := Nat.le_trans e.size (Nat.le_of_eq hb2.symm)
  replace e := Ext.tr e e'
  clear e'
  refine tl_as hf rfl (by decide) fun a hf => ?_
  refine tl_as hf rfl (by decide) fun a hf => ?_
  refine tl_nil ?_
  cases hv2
  replace B2 : Blk w b2 #[u1, u2] 25 := B2
  replace hf := hf.keep [1, 2, 4, 5]
  dsimp only [keep, List.filterMap, look, Nat.beq, Option.map] at hf
  have e1 := e
  repeat refine seq ?_
  refine regn 2 hf (by decide +kernel) ?_
  refine st (mv rfl) ?_
  refine st (call1 (A := Dv (slE (slE intE)) Go.Mono.G0 xs) En38 rfl (fun v w he k => by cases k; rw [hxs]; exact orders_spec l.length l Go.Mono.G0 _ w rfl hl9 (VA.st _ _ _ _ (Ext.tr e1 he) hord) Go.Mono.G0 fun b hb => hb.elim)) ?_
  refine en fun a w e' hf => ?_
  replace e := Ext.tr e e'
  replace B2 := B2.ext e'
  clear e'
  refine tl_as hf rfl (by decide) fun a hf => ?_
  refine tl_nil ?_
  replace hf := hf.keep [2, 6]
  dsimp only [keep, List.filterMap, look, Nat.beq, Option.map] at hf
  have hx0 : xs[0]? = some o0 := by rw [ho0]; rfl
  have ho0m : o0 ∈ xs := by rw [ho0]; simp
  have e2 := e
  repeat refine seq ?_
  refine reg 10 Mix.mix hf (by decide +kernel) ?_
  refine st ((ldW T25 rfl B2 rfl).eq ((rfl : _ = Value.agg #[u1, u2]))) ?_
  refine st (mv rfl) ?_
  refine st (idxD (j := 0) Tryz.underlying85 S30 (isR rfl) rfl rfl hx0) ?_
  refine st (ldD T30 (isR rfl)) ?_
  refine st (call2 (A := E (I (costG g o0))) En17 rfl rfl (fun v u w he k1 k2 => by cases k1; exact hcost o0 ho0m u _ w (Ext.tr e2 he) k2)) ?_
  refine st (mv rfl) ?_
  refine st (idxD (j := 0) Tryz.underlying85 S30 (isR rfl) rfl rfl hx0) ?_
  refine st (ldD T30 (isR rfl)) ?_
  refine st (asg rfl) ?_
  refine st (asg rfl) ?_
  refine en fun a w e' hf => ?_
  replace e := Ext.tr e e'
  replace B2 := B2.ext e'
  clear e'
  refine tl_nil ?_
  replace hf := hf.keep [2, 6, 7, 8]
  dsimp only [keep, List.filterMap, look, Nat.beq, Option.map] at hf
  repeat refine seq ?_
  refine regn0 ?_
  refine tl_as hf rfl (by decide) fun a hf => ?_
  refine tl_nil ?_
  replace hf := hf.keep [2, 6, 7, 8, 9]
  dsimp only [keep, List.filterMap, look, Nat.beq, Option.map] at hf
  repeat refine seq ?_
  refine blk (loopN (fun r0 a w => ∃ (k : Nat) (zs : Int × List Int), r0 = (xs.length - 1) - k ∧ k ≤ (xs.length - 1) ∧ Fr 43 a w [(2, E (ptr b2)), (6, Dv (slE (slE intE)) Go.Mono.G0 xs), (7, E (I zs.1)), (8, Dv (slE intE) Go.Mono.G0 zs.2), (9, E (I ((k + 1 : Nat) : Int)))] ∧ Ext W w ∧ Blk w b2 #[u1, u2] 25 ∧ ((xs.drop 1).take k).foldl (lsF (costG g)) (costG g o0, o0) = zs) (xs.length - 1) ⟨0, (costG g o0,  o0), rfl, by omega, hf, e, ⟨B2, rfl⟩⟩ ?_)
  clear hf e; try clear B2; try clear hzs
  rintro r0 a w ⟨k, zs, rfl, hk, hf, e, B2, hzs⟩
  repeat refine seq ?_
  refine regn 4 hf (by decide +kernel) ?_
  refine st (mv rfl) ?_
  refine st (mv rfl) ?_
  refine st (lenD Tryz.underlying85 (isR rfl)) ?_
  refine st (lss rfl rfl) ?_
  refine en fun a w e' hf => ?_
  replace e := Ext.tr e e'
  replace B2 := B2.ext e'
  clear e'
  refine tl_nil ?_
  repeat refine seq ?_
  refine ifc hf rfl (fun hc => wskip ?_) (fun hc => wexit ?_)
  rotate_left
  rotate_left
  · have hlt : k < (xs.length - 1) := by have := of_decide_eq_true hc; (try dsimp only at this); omega
    clear hc
    replace hf := hf.keep [2, 6, 7, 8, 9]
    dsimp only [keep, List.filterMap, look, Nat.beq, Option.map] at hf
    repeat refine seq ?_
    refine blk ?_
    have hx : xs[k + 1]? = some (xs[k + 1]'(by omega)) := List.getElem?_eq_getElem (by omega)
    generalize xs[k + 1]'(by omega) = o at hx
    have hom := List.mem_of_getElem? hx
    have hx' : (xs.drop 1)[k]? = some o := by rw [List.getElem?_drop, Nat.add_comm]; exact hx
    have hstep : ((xs.drop 1).take (k + 1)).foldl (lsF (costG g)) (costG g o0, o0) = lsF (costG g) zs o := by rw [take_succ_get hx', List.foldl_append, hzs]; rfl
    clear hzs
    have e3 := e
    repeat refine seq ?_
    refine reg 6 Mix.mix hf (by decide +kernel) ?_
    refine st ((ldW T25 rfl B2 rfl).eq ((rfl : _ = Value.agg #[u1, u2]))) ?_
    refine st (mv rfl) ?_
    refine st (mv rfl) ?_
    refine st (idxD Tryz.underlying85 S30 (isR rfl) rfl (by omega) hx) ?_
    refine st (ldD T30 (isR rfl)) ?_
    refine st (call2 (A := E (I (costG g o))) En17 rfl rfl (fun v u w he k1 k2 => by cases k1; exact hcost o hom u _ w (Ext.tr e3 he) k2)) ?_
    refine en fun a w e' hf => ?_
    replace e := Ext.tr e e'
    replace B2 := B2.ext e'
    clear e'
    refine tl_as hf rfl (by decide) fun a hf => ?_
    refine tl_nil ?_
    replace hf := hf.keep [2, 6, 7, 8, 9, 10]
    dsimp only [keep, List.filterMap, look, Nat.beq, Option.map] at hf
    repeat refine seq ?_
    refine regn 3 hf (by decide +kernel) ?_
    refine st (mv rfl) ?_
    refine st (mv rfl) ?_
    refine st (lss rfl rfl) ?_
    refine en fun a w e' hf => ?_
    replace e := Ext.tr e e'
    replace B2 := B2.ext e'
    clear e'
    refine tl_nil ?_
    repeat refine seq ?_
    refine ifc hf rfl (fun hb => ?_) (fun hb => ?_)
    · have hb' : costG g o < zs.1 := of_decide_eq_true hb
      rw [lsF, if_pos hb'] at hstep
      replace hf := hf.keep [2, 6, 7, 8, 9, 10]
      dsimp only [keep, List.filterMap, look, Nat.beq, Option.map] at hf
      repeat refine seq ?_
      refine reg 7 Mix.mix hf (by decide +kernel) ?_
      refine st (mv rfl) ?_
      refine st (mv rfl) ?_
      refine st (mv rfl) ?_
      refine st (idxD Tryz.underlying85 S30 (isR rfl) rfl (by omega) hx) ?_
      refine st (ldD T30 (isR rfl)) ?_
      refine st (asg rfl) ?_
      refine st (asg rfl) ?_
      refine en fun a w e' hf => ?_
      replace e := Ext.tr e e'
      replace B2 := B2.ext e'
      clear e'
      refine tl_nil ?_
      replace hf := hf.keep [2, 6, 7, 8, 9]
      dsimp only [keep, List.filterMap, look, Nat.beq, Option.map] at hf
      try simp only [Exit.then, Exit.inBlock, ↓reduceIte]
      repeat refine seq ?_
      refine regn 2 hf (by decide +kernel) ?_
      refine st (mv rfl) ?_
      refine st ((add rfl rfl (by omega)).eq (congrArg I (show ((k + 1 : Nat) : Int) + 1 = ((k + 1 + 1 : Nat) : Int) from rfl))) ?_
      refine en fun a w e' hf => ?_
      replace e := Ext.tr e e'
      replace B2 := B2.ext e'
      clear e'
      refine tl_as hf rfl (by decide) fun a hf => ?_
      refine tl_nil ?_
      replace hf := hf.keep [2, 6, 7, 8, 9]
      dsimp only [keep, List.filterMap, look, Nat.beq, Option.map] at hf
      exact ⟨_, by omega, k + 1, (costG g o, o), rfl, by omega, hf, e, B2, hstep⟩
    · have hb' : ¬ costG g o < zs.1 := of_decide_eq_false hb
      rw [lsF, if_neg hb'] at hstep
      refine wskip ?_
      try simp only [Exit.then, Exit.inBlock, ↓reduceIte]
      try simp only [Exit.then, Exit.inBlock, ↓reduceIte]
      repeat refine seq ?_
      refine regn 2 hf (by decide +kernel) ?_
      refine st (mv rfl) ?_
      refine st ((add rfl rfl (by omega)).eq (congrArg I (show ((k + 1 : Nat) : Int) + 1 = ((k + 1 + 1 : Nat) : Int) from rfl))) ?_
      refine en fun a w e' hf => ?_
      replace e := Ext.tr e e'
      replace B2 := B2.ext e'
      clear e'
      refine tl_as hf rfl (by decide) fun a hf => ?_
      refine tl_nil ?_
      replace hf := hf.keep [2, 6, 7, 8, 9]
      dsimp only [keep, List.filterMap, look, Nat.beq, Option.map] at hf
      exact ⟨_, by omega, k + 1, zs, rfl, by omega, hf, e, B2, hstep⟩
  · obtain rfl : k = (xs.length - 1) := by have := of_decide_eq_false hc; (try dsimp only at this); omega
    clear hc
    simp only [Exit.then, Exit.inBlock, ↓reduceIte]
    have hd : ((xs.drop 1).take (xs.length - 1)) = xs.drop 1 := List.take_of_length_le (by rw [List.length_drop]; omega)
    have hfin : lsG (costG g) xs = zs := by rw [lsG, ← hzs, hd, ho0]; rfl
    clear hzs
    replace hf := hf.keep [7, 8]
    dsimp only [keep, List.filterMap, look, Nat.beq, Option.map] at hf
    repeat refine seq ?_
    refine regn 2 hf (by decide +kernel) ?_
    refine st (mv rfl) ?_
    refine st (mv rfl) ?_
    refine en fun a w e' hf => ?_
    replace e := Ext.tr e e'
    clear e'
    refine tl_as hf rfl (by decide) fun a hf => ?_
    refine tl_as hf rfl (by decide) fun a hf => ?_
    refine tl_nil ?_
    refine wret (ret2 rfl hf rfl rfl ?_)
    rintro _ v rfl hv
    exact ⟨_, rfl, e, Tup.two (by rw [hfin]; rfl) (by rw [hfin]; exact hv)⟩
end Go.Mono

namespace Go.Mono
open Go Go.RowKit
theorem run_equalIn_pp {P : Program} (w : World) (d : Nat) (t : TypeId) (p q : Option Addr) (h : P.underlying t = some (.pointer (P.pointee t))) (hpq : p = none ∨ q = none) : (Op.equalIn (d + 1) t (.pointer p) (.pointer q)).run P w = .ok (p.isNone && q.isNone) w := by
  rcases hpq with rfl | rfl
  · cases q <;> simp [Op.equalIn, run_underlying h]
  · cases p <;> simp [Op.equalIn, run_underlying h]
theorem run_equal_pp {P : Program} (w : World) (t : TypeId) (p q : Option Addr) (h : P.underlying t = some (.pointer (P.pointee t))) (hpq : p = none ∨ q = none) : (Op.equal t (.pointer p) (.pointer q)).run P w = .ok (p.isNone && q.isNone) w := run_equalIn_pp w 9999 t p q h hpq
theorem eqlPP {P : Program} {w0 : World} {L : Env} {dst : Option Tmp} {ty : TypeId} {pos : String} {aft : Array Edge} {g : Option (Nat × Bool)} {x y : Operand} {t yt pe : TypeId} {p q : Option Addr} (ht0 : P.underlying t = some (.pointer pe)) (hx : opd L x = some (E (.pointer p))) (hy : opd L y = some (E (.pointer q))) (hpq : p = none ∨ q = none) :
    OpC P w0 L ⟨dst, .binOp .eql t x y yt, ty, pos, aft, g⟩ (E (.bool (p.isNone && q.isNone))) :=
  opc_eql hx hy (fun w => rfl) rfl fun w _ => run_equal_pp w t p q (ptee ht0) hpq
end Go.Mono

namespace Go.Mono
open Go Go.Proofs Go.RowKit Go.Gr
theorem diff_zero (V : BS) (i : Nat) : (V &&& ~~~(0 : BS)).getLsbD i = true ↔ V.getLsbD i = true := by
  rw [bit_diff]
  exact ⟨fun h => h.1, fun h => ⟨h, bit_zero i⟩⟩
theorem diff_zero' (V : BS) : V &&& ~~~(0 : BS) = V := set_ext' (diff_zero V)
section
variable {g : GT}
theorem natL_in (G : Gr.Ok g) {l : List Nat} (hm : ∀ i ∈ l, (vset g.1).getLsbD i = true) : ∀ x ∈ natL l, 0 ≤ fndF g.1 x ∧ fndF g.1 x < (g.1.length : Nat) := fun x hx => by
  obtain ⟨v, hv, rfl⟩ := List.mem_map.1 hx
  obtain ⟨p, h1, h2, _⟩ := fnd_at G (hm v hv)
  rw [h1]; omega
end
end Go.Mono

namespace Go.Mono
open Go Go.Proofs Go.RowKit Go.Gr

theorem lsF_stay {c : List Int → Int} {W : Int} {o : List Int} : ∀ (xs : List (List Int)), (∀ x ∈ xs, W ≤ c x) → xs.foldl (lsF c) (W, o) = (W, o)
  | [], _ => rfl
  | x :: xs, h => by
    have h1 := h x (by simp)
    rw [List.foldl_cons, lsF, if_neg (by dsimp only; omega)]
    exact lsF_stay xs fun y hy => h y (by simp [hy])
theorem lsF_first {c : List Int → Int} {W : Int} {o : List Int} : ∀ (xs : List (List Int)) (s : Int × List Int), (∀ x ∈ xs, W ≤ c x) → W < s.1 → xs.find? (fun x => decide (c x ≤ W)) = some o → xs.foldl (lsF c) s = (W, o)
  | [], s, _, _, hf => by cases hf
  | x :: xs, s, h, hs, hf => by
    have h1 := h x (by simp)
    rw [List.foldl_cons]
    by_cases hx : c x ≤ W
    · rw [List.find?_cons_of_pos (by simpa using hx)] at hf
      obtain rfl := Option.some.inj hf
      have he : c x = W := by omega
      rw [lsF, if_pos (by omega), he]
      exact lsF_stay xs fun y hy => h y (by simp [hy])
    · rw [List.find?_cons_of_neg (by simpa using hx)] at hf
      refine lsF_first xs _ (fun y hy => h y (by simp [hy])) ?_ hf
      unfold lsF
      split
      · show W < c x; omega
      · exact hs
theorem lsG_first {c : List Int → Int} {W : Int} {o : List Int} {xs : List (List Int)} (h : ∀ x ∈ xs, W ≤ c x) (hf : xs.find? (fun x => decide (c x ≤ W)) = some o) : lsG c xs = (W, o) := by
  match xs, h, hf with
  | x :: xs, h, hf =>
    have h1 := h x (by simp)
    show xs.foldl (lsF c) (c x, x) = (W, o)
    by_cases hx : c x ≤ W
    · rw [List.find?_cons_of_pos (by simpa using hx)] at hf
      obtain rfl := Option.some.inj hf
      have he : c x = W := by omega
      rw [he]
      exact lsF_stay xs fun y hy => h y (by simp [hy])
    · rw [List.find?_cons_of_neg (by simpa using hx)] at hf
      exact lsF_first xs _ (fun y hy => h y (by simp [hy])) (by show W < c x; omega) hf
/-- all orders, of numbers -/
def ordN : Nat → List Nat → List (List Nat)
  | 0, _ => [[]]
  | f + 1, l => (List.range l.length).flatMap fun i => (ordN f (l.take i ++ l.drop (i + 1))).map fun r => l.getD i 0 :: r
theorem flatMap_cong {α β : Type} {f h : α → List β} : ∀ {l : List α}, (∀ a ∈ l, f a = h a) → l.flatMap f = l.flatMap h
  | [], _ => rfl
  | a :: l, hh => by rw [List.flatMap_cons, List.flatMap_cons, hh a (by simp), flatMap_cong fun b hb => hh b (by simp [hb])]
theorem ordF_nat : ∀ (f : Nat) (l : List Nat), ordF f (natL l) = (ordN f l).map natL
  | 0, l => rfl
  | f + 1, l => by
    rw [ordF, ordN, List.map_flatMap, show (natL l).length = l.length by simp [natL]]
    refine flatMap_cong fun i hi => ?_
    have hi' := List.mem_range.1 hi
    have h1 : (natL l).take i ++ (natL l).drop (i + 1) = natL (l.take i ++ l.drop (i + 1)) := by simp [natL, List.map_take, List.map_drop]
    have h2 : gi (natL l) i = (l.getD i 0 : Nat) := by
      have h3 : (natL l)[i]? = some (gi (natL l) i) := gi_get (by simp [natL]; exact hi')
      rw [natL, List.getElem?_map, List.getElem?_eq_getElem hi'] at h3
      rw [List.getD_eq_getElem?_getD, List.getElem?_eq_getElem hi']
      exact (Option.some.inj h3).symm
    rw [h1, ordF_nat f, List.map_map, List.map_map, h2]
    rfl
theorem ordN_perm : ∀ (f : Nat) (l : List Nat), l.length = f → ∀ o ∈ ordN f l, o.Perm l
  | 0, l, h, o, ho => by
    rw [show ordN 0 l = [[]] from rfl, List.mem_singleton] at ho
    rw [ho, List.eq_nil_of_length_eq_zero h]
  | f + 1, l, h, o, ho => by
    rw [ordN, List.mem_flatMap] at ho
    obtain ⟨i, hi, ho⟩ := ho
    obtain ⟨r, hr, rfl⟩ := List.mem_map.1 ho
    have hi' := List.mem_range.1 hi
    have h1 := ordN_perm f _ (by rw [List.length_append, List.length_take, List.length_drop]; omega) r hr
    refine (h1.cons _).trans ?_
    conv => rhs; rw [← List.take_append_drop i l, List.drop_eq_getElem_cons hi']
    rw [List.getD_eq_getElem?_getD, List.getElem?_eq_getElem hi']
    exact List.perm_middle.symm
theorem findSome_range {α β : Type} (h : α → Option β) (d : α) : ∀ (l : List α), (List.range l.length).findSome? (fun i => h (l.getD i d)) = l.findSome? h
  | [] => rfl
  | a :: l => by
    rw [List.length_cons, List.range_succ_eq_map, List.findSome?_cons, List.findSome?_cons]
    show (match h a with | some b => some b | none => _) = _
    cases h a with
    | some b => rfl
    | none =>
      rw [List.findSome?_map]
      exact findSome_range h d l
theorem findSome_ite {α β : Type} (p : α → Bool) (k : α → β) : ∀ l : List α, l.findSome? (fun a => if p a = true then some (k a) else none) = (l.find? p).map k
  | [] => rfl
  | a :: l => by
    rw [List.findSome?_cons, List.find?_cons]
    cases hp : p a with
    | true => rfl
    | false => exact findSome_ite p k l
/-- the elements without one -/
theorem elems_cut {T : BS} {i : Nat} (hi : i < (elems T).length) : (elems T).take i ++ (elems T).drop (i + 1) = elems (del T ((elems T).getD i 0 : Nat)) := by
  obtain ⟨v, hv⟩ : ∃ v, v = (elems T).getD i 0 := ⟨_, rfl⟩
  have hvi : (elems T)[i]? = some v := by rw [hv, List.getD_eq_getElem?_getD, List.getElem?_eq_getElem hi]; rfl
  have hvm := mem_elems.1 (List.mem_of_getElem? hvi)
  have hnd : (elems T).Nodup := List.Nodup.sublist List.filter_sublist List.nodup_range
  rw [← hv]
  have h1 : elems (del T (v : Int)) = (elems T).filter fun j => decide (j ≠ v) := by
    rw [elems, elems, List.filter_filter]
    refine List.filter_congr fun j hj => ?_
    rw [Bool.eq_iff_iff, bit_del T hvm.1, Bool.and_eq_true, decide_eq_true_eq]
    exact And.comm
  rw [h1]
  have h2 : elems T = (elems T).take i ++ v :: (elems T).drop (i + 1) := by
    have := List.drop_eq_getElem_cons hi
    conv => lhs; rw [← List.take_append_drop i (elems T), this]
    rw [List.getElem?_eq_getElem hi] at hvi
    rw [Option.some.inj hvi]
  have hn2 := hnd
  rw [h2] at hn2
  obtain ⟨n1, n2, n3⟩ := List.nodup_append.1 hn2
  obtain ⟨n4, _⟩ := List.nodup_cons.1 n2
  conv => rhs; rw [h2]
  rw [List.filter_append, List.filter_cons, if_neg (by simp)]
  rw [List.filter_eq_self.2 fun j hj => decide_eq_true (show j ≠ v from fun hh => n3 j hj v (by simp) hh), List.filter_eq_self.2 fun j hj => decide_eq_true (show j ≠ v from fun hh => n4 (by rw [← hh]; exact hj))]
section
variable {nb : Int → BS} {all : BS} {W : Int}
/-- THE FIRST ORDER WITHIN W -/
theorem ord_first (hW0 : -1 ≤ W) : ∀ (f : Nat) (S : BS), card (all &&& ~~~S) = f → rsR nb all S ≤ W → Sml nb all → (ordN f (elems (all &&& ~~~S))).find? (fun o => decide (widL nb S o ≤ W)) = some (grF nb all W f S) := by
  intro f
  induction f with
  | zero =>
    intro S hc hW hs
    rw [show ordN 0 (elems (all &&& ~~~S)) = [[]] from rfl, List.find?_cons_of_pos (p := fun o => decide (widL nb S o ≤ W)) (decide_eq_true (show widL nb S [] ≤ W from hW0)), grF]
  | succ f ih =>
    intro S hc hW hs
    rw [ordN, List.find?_flatMap]
    obtain ⟨L, hL⟩ : ∃ L, L = elems (all &&& ~~~S) := ⟨_, rfl⟩
    have hblk : ∀ i, i < L.length → ((ordN f (L.take i ++ L.drop (i + 1))).map fun r => L.getD i 0 :: r).find? (fun o => decide (widL nb S o ≤ W)) =
        (fun v => if decide (max (rn nb S v) (rsR nb all (ins S (v : Int))) ≤ W) = true then some (v :: grF nb all W f (ins S (v : Int))) else none) (L.getD i 0) := by
      intro i hi
      obtain ⟨v, hv⟩ : ∃ v, v = L.getD i 0 := ⟨_, rfl⟩
      have hvi : L[i]? = some v := by rw [hv, List.getD_eq_getElem?_getD, List.getElem?_eq_getElem hi]; rfl
      have hvD : (all &&& ~~~S).getLsbD v = true := by rw [hL] at hvi; exact (mem_elems.1 (List.mem_of_getElem? hvi)).2
      have hv' := bit_lt hvD
      have hcut : L.take i ++ L.drop (i + 1) = elems (all &&& ~~~(ins S (v : Int))) := by
        have h1 : del (all &&& ~~~S) (v : Int) = all &&& ~~~(ins S (v : Int)) := set_ext' fun j => by rw [bit_del _ hv', diff_ins hv']
        rw [hL] at hi hv ⊢
        rw [elems_cut hi, ← hv, h1]
      have hcd := card_diff hvD
      rw [List.find?_map, hcut, ← hv]
      have hwid : ∀ o, widL nb S (v :: o) = max (rn nb S v) (widL nb (ins S (v : Int)) o) := fun o => rfl
      by_cases hok : max (rn nb S v) (rsR nb all (ins S (v : Int))) ≤ W
      · simp only [decide_eq_true hok, if_true]
        have h2 := ih (ins S (v : Int)) (by omega) (by omega) hs
        have h3 : (fun o => decide (widL nb S o ≤ W)) ∘ (fun r => v :: r) = fun o => decide (widL nb (ins S (v : Int)) o ≤ W) := by
          funext o
          simp only [Function.comp, hwid]
          exact decide_eq_decide.2 ⟨fun h => by omega, fun h => by omega⟩
        rw [h3, h2]; rfl
      · simp only [decide_eq_false hok, Bool.false_eq_true, if_false]
        have h3 : (ordN f (elems (all &&& ~~~(ins S (v : Int))))).find? ((fun o => decide (widL nb S o ≤ W)) ∘ (fun r => v :: r)) = none := by
          rw [List.find?_eq_none]
          intro o ho
          simp only [Function.comp, hwid, decide_eq_true_eq]
          have hp := ordN_perm f _ (by rw [card_elems]; omega) o ho
          have hnd : (elems (all &&& ~~~(ins S (v : Int)))).Nodup := List.Nodup.sublist List.filter_sublist List.nodup_range
          have h4 := rsR_low (nb := nb) (all := all) o (ins S (v : Int)) (hp.nodup_iff.2 hnd) fun j => by rw [hp.mem_iff, mem_elems]; exact ⟨fun h => h.2, fun h => ⟨bit_lt h, h⟩⟩
          omega
        rw [h3]; rfl
    rw [← hL]
    have h5 : (List.range L.length).findSome? (fun i => ((ordN f (L.take i ++ L.drop (i + 1))).map fun r => L.getD i 0 :: r).find? fun o => decide (widL nb S o ≤ W)) =
        (List.range L.length).findSome? (fun i => (fun v => if decide (max (rn nb S v) (rsR nb all (ins S (v : Int))) ≤ W) = true then some (v :: grF nb all W f (ins S (v : Int))) else none) (L.getD i 0)) := by
      have : ∀ (m : List Nat), (∀ i ∈ m, i < L.length) → m.findSome? (fun i => ((ordN f (L.take i ++ L.drop (i + 1))).map fun r => L.getD i 0 :: r).find? fun o => decide (widL nb S o ≤ W)) =
          m.findSome? (fun i => (fun v => if decide (max (rn nb S v) (rsR nb all (ins S (v : Int))) ≤ W) = true then some (v :: grF nb all W f (ins S (v : Int))) else none) (L.getD i 0)) := by
        intro m
        induction m with
        | nil => intro _; rfl
        | cons a m ihm =>
          intro hm
          rw [List.findSome?_cons, List.findSome?_cons, hblk a (hm a (by simp)), ihm fun i hi => hm i (by simp [hi])]
      exact this _ fun i hi => List.mem_range.1 hi
    rw [h5]
    refine (findSome_range (fun v => if decide (max (rn nb S v) (rsR nb all (ins S (v : Int))) ≤ W) = true then some (v :: grF nb all W f (ins S (v : Int))) else none) 0 L).trans ?_
    rw [findSome_ite]
    have hex : ∃ v, (all &&& ~~~S).getLsbD v = true := Classical.byContradiction fun hn => by
      have h0 : (all &&& ~~~S) = 0 := set_ext' fun k => ⟨fun hk => absurd ⟨k, hk⟩ hn, fun hk => absurd hk (bit_zero k)⟩
      rw [h0, card_zero] at hc; cases hc
    obtain ⟨u, hu⟩ := hex
    obtain ⟨x, hx⟩ := nxt_is hs hW hu
    have hx2 : L.find? (fun v => decide (max (rn nb S v) (rsR nb all (ins S (v : Int))) ≤ W)) = some x := by rw [hL]; exact hx
    rw [hx2, grF_some hx]; rfl
end
/-- the reference's least order of some vertices is the greedy one -/
theorem least_is {g : GT} (G : Gr.Ok g) (hl : g.1.length ≤ 12) {all : BS} (ha : ∀ i, all.getLsbD i = true → (vset g.1).getLsbD i = true) :
    lsG (costG g) (ordF (natL (elems all)).length (natL (elems all))) = (rsR (nbA g) all 0, natL (grF (nbA g) all (rsR (nbA g) all 0) (card all) 0)) := by
  have hs := sml_ok G hl ha
  have hb := rsR_bd (nb := nbA g) (all := all) 0
  have hz := diff_zero' all
  have hln : (natL (elems all)).length = card all := by rw [natL, List.length_map, card_elems]
  have hf := ord_first (nb := nbA g) (all := all) (W := rsR (nbA g) all 0) hb.1 (card all) 0 (by rw [hz]) (Int.le_refl _) hs
  rw [hz] at hf
  rw [hln, ordF_nat]
  have hnd : (elems all).Nodup := List.Nodup.sublist List.filter_sublist List.nodup_range
  have hcost : ∀ o ∈ ordN (card all) (elems all), costG g (natL o) = widL (nbA g) 0 o := fun o ho => by
    have hp := ordN_perm (card all) _ (card_elems all) o ho
    exact cost_widL G (hp.nodup_iff.2 hnd) fun v hv => ha v (mem_elems.1 (hp.mem_iff.1 hv)).2
  refine lsG_first (fun x hx => ?_) ?_
  · obtain ⟨o, ho, rfl⟩ := List.mem_map.1 hx
    have hp := ordN_perm (card all) _ (card_elems all) o ho
    rw [hcost o ho]
    exact rsR_low o 0 (hp.nodup_iff.2 hnd) fun j => by rw [hp.mem_iff, mem_elems, hz]; exact ⟨fun h => h.2, fun h => ⟨bit_lt h, h⟩⟩
  · rw [List.find?_map]
    have h6 : ∀ (m : List (List Nat)), (∀ o ∈ m, costG g (natL o) = widL (nbA g) 0 o) → m.find? ((fun x => decide (costG g x ≤ rsR (nbA g) all 0)) ∘ natL) = m.find? fun o => decide (widL (nbA g) 0 o ≤ rsR (nbA g) all 0) := by
      intro m
      induction m with
      | nil => intro _; rw [List.find?_nil, List.find?_nil]
      | cons a m ihm =>
        intro hm
        rw [List.find?_cons, List.find?_cons, ihm fun o ho => hm o (by simp [ho])]
        simp only [Function.comp, hm a (by simp)]
    rw [h6 _ hcost, hf]; rfl
end Go.Mono

namespace Go.Mono
open Go Go.Proofs Go.RowKit

def natE (l : List Nat) : List Int := l.map fun i : Nat => (i : Int)
structure AqJ (W : World) (N b2 B : Nat) (s : List Nat) (w : World) : Prop where
  e : Ext W w
  t : Tab w
  p : ∃ u, Blk w b2 #[u] 30 ∧ OwR intE 3 N Go.Mono.G0 w (natE s) u ∧ ∀ g, u.ownBlock = some g → ¬Hole B g
theorem AqJ.kp {W : World} {N b2 B : Nat} {s : List Nat} {w w' : World} (h : AqJ W N b2 B s w) (k : Kp B w w') (hW : W.heap.size ≤ B) (h0 : 0 < B) (l2 : b2 < B) : AqJ W N b2 B s w' := by
  obtain ⟨u, q1, q2, q3⟩ := h.p
  exact ⟨h.e.kp k hW, h.t.kp k h0, ⟨u, q1.kp k (fun hh => by have := hh.1; omega), q2.chE k.chg q3, q3⟩⟩
theorem appendSeq_spec (S : BS) (b : Nat) (W : World) (hT : Tab W) (hb : Blk W b (setC S) 41) :
    Calls Tryz.prog 63 #[.slice none 0 0, seqV b] W (Post (OwA intE 3 W.heap.size Go.Mono.G0 (natE (elems S))) W) := by
  have hT0 := hT.lt
  refine enterM (args := [.slice none 0 0, seqV b]) (As := [E (.slice none 0 0), E (seqV b)]) Tryz.func63 rfl Tryz.ntmps63 (Nat.le_of_ble_eq_true rfl) ?_ (fun a hf => ?_) (Nat.le_of_ble_eq_true rfl)
  · exact arg2 rfl rfl
  dsimp only [params, Nat.reduceAdd] at hf
  have e := Ext.rfl' W
  repeat refine seq ?_
  refine regn0 ?_
  refine tl_box hf rfl (by decide) fun a b2 w v2 hv2 e' hb2 hs2 B2 hf => ?_
  have hle2 := Nat.le_trans e.size (Nat.le_of_eq hb2.symm)
  replace hT := hT.ext e'
  replace e := Ext.tr e e'
  replace hb := hb.ext e'
  clear e'
  refine tl_as hf rfl (by decide) fun a hf => ?_
  refine tl_nil ?_
  cases hv2
  replace B2 : Blk w b2 #[.slice none 0 0] 30 := B2
  replace hf := hf.keep [1, 2]
  dsimp only [keep, List.filterMap, look, Nat.beq, Option.map] at hf
  repeat refine seq ?_
  refine regn 1 hf (by decide +kernel) ?_
  refine st (mv rfl) ?_
  refine en fun a w e' hf => ?_
  replace hT := hT.ext e'
  replace e := Ext.tr e e'
  replace hb := hb.ext e'
  replace B2 := B2.ext e'
  clear e'
  refine tl_nil ?_
  replace hf := hf.keep [2, 6]
  dsimp only [keep, List.filterMap, look, Nat.beq, Option.map] at hf
  have n2 : W.heap.size ≤ b2 := hle2
  have hBW : W.heap.size ≤ w.heap.size := e.size
  have h0w : 0 < w.heap.size := hT.lt
  have l2 := B2.lt
  have hel := elems_len S
  obtain ⟨N, hN⟩ : ∃ N, N = w.heap.size := ⟨_, rfl⟩
  have hNs : N ≤ w.heap.size := Nat.le_of_eq hN
  have l2N : b2 < N := by omega
  have hWN : W.heap.size ≤ N := by omega
  clear hN
  repeat refine seq ?_
  refine blk ?_
  refine range_all3 (S := S) hf rfl hb (by decide) (fun s w1 => AqJ W N b2 w.heap.size s w1) (fun _ _ => False) (fun s w1 h => h.t)
    ⟨e, hT, ⟨_, B2, OwR.nil intE _ hNs (fun b hb => hb.elim), fun g hg => by cases hg⟩⟩ (fun s w1 w2 h hs k => h.kp k hBW h0w l2) (fun _ _ _ h => h.elim) ?_ ?_ (fun _ _ _ _ _ _ h => h.elim)
  · intro lp s x rest a1 w1 hs hJ hlw hf
    have hsl : s.length ≤ 1024 := by rw [hs] at hel; simp at hel; omega
    generalize hBz : w.heap.size = Bz at *
    refine regn0 ?_
    refine tl_as hf rfl (by decide) fun a hf => ?_
    refine tl_nil ?_
    simp only [Exit.then]
    refine ⟨Kh.rfl' _ _, fun w3 k3 hsz3 => ?_⟩
    have hJ3 := hJ.kp k3 hBW h0w l2
    have hw3 : Bz + 3 ≤ w3.heap.size := by omega
    clear e hT B2 hb
    replace hf := hf.pure w3
    obtain ⟨e, hT, ⟨u, B2, Ho, lH⟩⟩ := hJ3
    have kh := Kh.rfl' Bz w3
    replace hf := hf.keep [2, 5]
    dsimp only [keep, List.filterMap, look, Nat.beq, Option.map] at hf
    repeat refine seq ?_
    refine blk ?_
    have hln : (natE s).length = s.length := by simp [natE]
    repeat refine seq ?_
    refine regn 3 hf (by decide +kernel) ?_
    refine st (ld1 (v := u) T30 rfl B2 rfl) ?_
    refine st (mv rfl) ?_
    refine st (bsl1 Tryz.underlying30 I3 rfl (by decide) rfl Ho.avs (isI rfl)) ?_
    refine en fun a w e' hf => ?_
    replace hT := hT.ext e'
    replace kh := kh.tr (Kh.ext e')
    replace hw3 := Nat.le_trans hw3 e'.size
    replace e := Ext.tr e e'
    replace B2 := B2.ext e'
    replace Ho := Ho.ext e'
    clear e'
    have hrow : ∀ b, u.ownBlock = some b → N ≤ b := fun b hb => (Ho.lt hb).1
    refine tl_app Tryz.underlying30 I3 rfl rfl hf (by decide) rfl Ho (isR rfl) (by rw [hln, List.length_singleton]; omega) (by rw [hln, List.length_singleton]; simp only [maxLen]; omega) fun a u' w hg hat Hn hf => ?_
    replace B2 := B2.gro hg (Ho.neB B2 (by decide))
    replace e := e.gro hg (fun b hb => by have := hrow b hb; omega)
    replace hT := hT.gro hg (fun b hb => by have := hrow b hb; omega)
    replace kh := kh.tr (Kh.gro hg lH)
    have lH' := own_hole hat lH hw3
    have z2 : u'.ownBlock ≠ some b2 := Hn.neB B2 (by decide)
    have hone := Hn.one
    clear Ho hg hat lH hrow
    replace hf := hf.keep [2, 5, 11]
    dsimp only [keep, List.filterMap, look, Nat.beq, Option.map] at hf
    refine tl_st1 T30 hf rfl rfl hone B2 Nat.zero_lt_one fun w hg hsz B2 hf => ?_
    replace B2 : Blk w b2 #[u'] 30 := B2
    replace e := e.gr hg (by omega)
    replace hT := hT.gr hg (by omega)
    replace kh := kh.tr (Kh.gr hg (fun hh => by have := hh.1; omega))
    replace Hn := Hn.grE hg z2
    clear hg
    refine tl_nil ?_
    simp only [Exit.inBlock]
    exact ⟨⟨e, hT, ⟨u', B2, by rw [natE, List.map_append]; exact Hn, lH'⟩⟩, kh⟩
  · intro a' w' hf' hJ hsz hDn
    simp only [Exit.inBlock, ↓reduceIte, Exit.then]
    have hD : Ds [w.heap.size] w' := (Ds.nil w').cons hDn (by simp)
    have hf : FrD 13 (marks [w.heap.size]) a' w' [(2, E (ptr b2))] := hf'.keep [2]
    have hDW : ∀ d ∈ [w.heap.size], W.heap.size ≤ d := fun d hd => by rw [List.mem_singleton] at hd; omega
    clear hf' e hT B2 hb hDn
    obtain ⟨e, hT, ⟨u, B2, Ho, _⟩⟩ := hJ
    generalize [w.heap.size] = D2 at *
    generalize w' = w at *
    repeat refine seq ?_
    refine regn 1 hf (by decide +kernel) ?_
    refine st (ld1 (v := u) T30 rfl B2 rfl) ?_
    refine en fun a w e' hf => ?_
    replace e := Ext.tr e e'
    replace B2 := B2.ext e'
    replace hD := hD.ext e'
    replace Ho := Ho.ext e'
    clear e'
    refine tl_as hf rfl (by decide) fun a hf => ?_
    refine tl_nil ?_
    refine wret ?_
    try simp only [Exit.then, Exit.inBlock]
    refine ret1M rfl hf rfl hD ⟨_, rfl, e.shut hDW, ?_⟩
    exact (Ho.chE (chg_shut D2 w) fun b hb hm => Ho.neDs hD hm hb).low hWN fun b hb => hb.elim
theorem collect_spec (S : BS) (b : Nat) (W : World) (hT : Tab W) (hb : Blk W b (setC S) 41) :
    Calls Tryz.prog 47 #[seqV b] W (Post (Dv (slE intE) Go.Mono.G0 (natE (elems S))) W) := by
  refine enter (args := [seqV b]) (As := [E (seqV b)]) Tryz.func47 rfl Tryz.ntmps47 (Nat.le_of_ble_eq_true rfl) ?_ (fun a hf => ?_) (Nat.le_of_ble_eq_true rfl)
  rotate_left
  dsimp only [params, Nat.reduceAdd] at hf
  rotate_right
  · exact arg1 rfl
  have e := Ext.rfl' W
  repeat refine seq ?_
  refine regn0 ?_
  refine tl_as hf rfl (by decide) fun a hf => ?_
  refine tl_nil ?_
  repeat refine seq ?_
  refine regn 2 hf (by decide +kernel) ?_
  refine st (mv rfl) ?_
  refine st (call2 (A := Dv (slE intE) Go.Mono.G0 (natE (elems S))) En63 rfl rfl (fun v u w he k1 k2 => by cases k1; cases k2; exact (appendSeq_spec S b w (hT.ext he) (hb.ext he)).mono fun en w' ⟨u, k1, k2, k3⟩ => ⟨u, k1, k2, OwR.sl k3⟩)) ?_
  refine en fun a w e' hf => ?_
  replace hT := hT.ext e'
  replace e := Ext.tr e e'
  replace hb := hb.ext e'
  clear e'
  refine tl_as hf rfl (by decide) fun a hf => ?_
  refine tl_nil ?_
  refine wret ?_
  try simp only [Exit.then, Exit.inBlock]
  refine ret1 rfl hf rfl ?_
  intro v hv
  exact ⟨_, rfl, e, hv⟩
theorem elements_spec (S : BS) (W : World) (hT : Tab W) : Calls Tryz.prog 26 #[setV S] W (Post (Dv (slE intE) Go.Mono.G0 (natE (elems S))) W) := by
  have hT0 := hT.lt
  refine enter (args := [setV S]) (As := [E (setV S)]) Tryz.func26 rfl Tryz.ntmps26 (Nat.le_of_ble_eq_true rfl) ?_ (fun a hf => ?_) (Nat.le_of_ble_eq_true rfl)
  rotate_left
  dsimp only [params, Nat.reduceAdd] at hf
  rotate_right
  · exact arg1 rfl
  have e := Ext.rfl' W
  repeat refine seq ?_
  refine regn0 ?_
  refine tl_box hf rfl (by decide) fun a b1 w v1 hv1 e' hb1 hs1 B1 hf => ?_
  have hle1 := Nat.le_trans e.size (Nat.le_of_eq hb1.symm)
  replace hT := hT.ext e'
  replace e := Ext.tr e e'
  clear e'
  refine tl_as hf rfl (by decide) fun a hf => ?_
  refine tl_nil ?_
  cases hv1
  replace B1 : Blk w b1 (setC S) 41 := B1
  repeat refine seq ?_
  refine regn 3 hf (by decide +kernel) ?_
  refine st ((ldW T41 rfl B1 rfl).eq ((rfl : _ = setV S))) ?_
  refine st (call1 (A := SeqA 0 S) En36 rfl (fun v w' he h => by cases h; exact Calls.mono (all_spec _ w') (fun en w2 ⟨u, h1, h2, b', h3, h4, h5⟩ => ⟨u, h1, h2, b', Nat.zero_le _, h4, h5⟩))) ?_
  refine st (call1 (A := Dv (slE intE) Go.Mono.G0 (natE (elems S))) En47 rfl (fun v w he ⟨b, _, hv, hb⟩ => by rw [hv]; exact collect_spec S b w (hT.ext he) hb)) ?_
  refine en fun a w e' hf => ?_
  replace hT := hT.ext e'
  replace e := Ext.tr e e'
  replace B1 := B1.ext e'
  clear e'
  refine tl_as hf rfl (by decide) fun a hf => ?_
  refine tl_nil ?_
  refine wret ?_
  try simp only [Exit.then, Exit.inBlock]
  refine ret1 rfl hf rfl ?_
  intro v hv
  exact ⟨_, rfl, e, hv⟩
end Go.Mono
