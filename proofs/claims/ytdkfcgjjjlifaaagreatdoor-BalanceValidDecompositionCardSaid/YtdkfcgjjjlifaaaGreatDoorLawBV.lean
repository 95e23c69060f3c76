/-
  XLawBV.
  No condition.
-/
import Derived.Test.YtdkfcgjjjlifaaaGreatDoorVE
import Derived.Test.YtdkfcgjjjlifaaaGreatDoorVF
import Derived.Test.YtdkfcgjjjlifaaaGreatDoorVG
set_option linter.unusedVariables false
set_option linter.unusedSimpArgs false
namespace Go.Mono
open Go Go.Proofs Go.RowKit Go.Gr

theorem allB_bitV {k : Nat} : ∀ {t : List (Int × BS)} (S : BS), (t.foldl (fun S b => S ||| b.2) S).getLsbD k = true ↔ S.getLsbD k = true ∨ ∃ b ∈ t, b.2.getLsbD k = true
  | [], S => by simp
  | b :: t, S => by rw [List.foldl_cons, allB_bitV, BitVec.getLsbD_or, Bool.or_eq_true, or_assoc]; simp
theorem held_iffV {t : List (Int × BS)} {e : ET} : heldE t e = true ↔ ∃ i, i < t.length ∧ (has (bg t i).2 e.1.1 && has (bg t i).2 e.1.2) = true := by
  constructor
  · intro h
    apply Classical.byContradiction
    intro hno
    have := (fstB_neg (p := fun b => has b.2 e.1.1 && has b.2 e.1.2) (t := t)).2 fun i hi => by
      cases hx : (has (bg t i).2 e.1.1 && has (bg t i).2 e.1.2) with
      | false => rfl
      | true => exact absurd ⟨i, hi, hx⟩ hno
    rw [heldE, this] at h; cases h
  · rintro ⟨i, hi, h⟩
    cases hc : heldE t e with
    | true => rfl
    | false =>
      have := fstB_neg.1 hc i hi
      rw [h] at this; cases this
theorem has_sub {S U : BS} (h : ∀ k, S.getLsbD k = true → U.getLsbD k = true) {n : Int} (hn : has S n = true) : has U n = true := by
  rw [has, Bool.and_eq_true] at hn ⊢
  exact ⟨hn.1, h _ hn.2⟩
theorem cg_sup {t s : List (Int × BS)} {g : GT} (hm : ∀ c, c < t.length → ∃ i, i < s.length ∧ ∀ k, (bg t c).2.getLsbD k = true → (bg s i).2.getLsbD k = true) (hs : chkT s s.length = 0) (h : cgR t t.length g = 0) : cgR s s.length g = 0 := by
  unfold cgR at h ⊢
  split at h
  · rename_i h1; rw [h] at h1; cases h1
  split at h
  · cases h
  rename_i h2
  split at h
  rotate_left
  · cases h
  rename_i h3
  have h2' : vset g.1 &&& ~~~allB t = 0 := by simpa using h2
  have k2 : vset g.1 &&& ~~~allB s = 0 := by
    rw [and_zero] at h2' ⊢
    intro k hk ⟨a1, a2⟩
    refine h2' k hk ⟨a1, ?_⟩
    rw [BitVec.getLsbD_not] at a2 ⊢
    cases hs : (allB t).getLsbD k with
    | false => simp [hk]
    | true =>
      obtain h0 | ⟨x, hx, hb⟩ := (allB_bitV 0).1 hs
      · have hz : (0 : BS).getLsbD k = false := BitVec.getLsbD_zero
        rw [hz] at h0; cases h0
      obtain ⟨c, hc⟩ := List.mem_iff_getElem?.1 hx
      have hcl := (List.getElem?_eq_some_iff.1 hc).1
      rw [bg_get hcl] at hc
      cases hc
      obtain ⟨i, hi, hsub⟩ := hm c hcl
      have : (allB s).getLsbD k = true := (allB_bitV 0).2 (.inr ⟨bg s i, List.mem_of_getElem? (bg_get hi), hsub k hb⟩)
      rw [this] at a2; simp only [Bool.not_true, Bool.and_false] at a2; cases a2
  have k3 : g.2.all (heldE s) = true := by
    rw [List.all_eq_true] at h3 ⊢
    intro e he
    obtain ⟨c, hc, hce⟩ := held_iffV.1 (h3 e he)
    obtain ⟨i, hi, hsub⟩ := hm c hc
    rw [Bool.and_eq_true] at hce
    exact held_iffV.2 ⟨i, hi, by rw [Bool.and_eq_true]; exact ⟨has_sub hsub hce.1, has_sub hsub hce.2⟩⟩
  rw [if_neg (by rw [hs]; decide), if_neg (by rw [k2]; simp), if_pos k3]
/-- From hands back a valid graph -/
theorem from05_pst {G : Nat → Prop} (g : GT) (hg : Gr.Ok g) (v : Value) (W : World) (h : (Dv gtE G g).p v W) (hl1 : g.1.length ≤ 1000) (hl2 : g.2.length ≤ 1000) :
    Calls Tryz.prog 9 #[v] W (Post (Dv (ptE (grE 2000)) Go.Mono.G0 (some g)) W) :=
  Calls.mono (from05_spec g v W h (by omega) (by omega) (okD_V hg) (okD_E hg)) fun en w' ⟨e, hq⟩ => by
    obtain ⟨g', k1, k2, k3⟩ := bld_ok hg
    rcases hq with ⟨g2, b1, b2, b3, q1, rfl, q3, q4, q5, q6⟩ | ⟨q1, _⟩
    · rw [k1] at q1; cases q1
      exact ⟨_, rfl, e, (q6.perm k2 k3).dv (by omega) (fun h => h.elim) (fun h => h.elim) (fun h => h.elim)⟩
    · rw [k1] at q1; cases q1
theorem law_valid {G : Nat → Prop} (t0 : List (Int × BS)) (l : List DT) (v z : Value) (W : World) (hT : Tab W) (h : (Dv treeE G t0).p v W) (h' : (Dv (slE dtE) G l).p z W) (hlab : ∀ d ∈ l, 0 ≤ d.2.2.2.1 ∧ d.2.2.2.1 < 256) : Calls Tryz.prog 5 #[v, z] W (Post (E (B true)) W) := by
  have hT0 := hT.lt
  obtain ⟨t, ht⟩ : ∃ t, t0.take 40 = t := ⟨_, rfl⟩
  have hl : t.length ≤ 40 := by rw [← ht, List.length_take]; omega
  have hF := foT (t := t) (by omega)
  have hg0 : ∀ {w : World}, ∀ b, Go.Mono.G0 b → b < w.heap.size := fun b hb => hb.elim
  have hgO : Gr.Ok (madeR l) := ok_made hlab 60
  have hgl := madeTo_len l 60
  obtain ⟨gg, hgg⟩ : ∃ gg, gg = madeR l := ⟨_, rfl⟩
  have hg1 : gg.1.length ≤ 60 := by rw [hgg]; exact hgl.1
  have hg2 : gg.2.length ≤ 60 := by rw [hgg]; exact hgl.2
  rw [← hgg] at hgO
  clear hgl
  have hdp : ∀ s : List (Int × BS), s.length ≤ 4096 → Rng s → (rootN s).length = 1 → Dp s s.length := fun s hs hr h1 => Dp.mk' hs hr h1
  refine enter (args := [v, z]) (As := [Dv treeE Go.Mono.G0 t0, Dv (slE dtE) Go.Mono.G0 l]) Tryz.func5 rfl Tryz.ntmps5 (Nat.le_of_ble_eq_true rfl) ?_ (fun a hf => ?_) (Nat.le_of_ble_eq_true rfl)
  rotate_left
  dsimp only [params, Nat.reduceAdd] at hf
  rotate_right
  · exact arg2 (Dv.weak h fun b _ hb => hb.elim) (Dv.weak h' fun b _ hb => hb.elim)
  have e := Ext.rfl' W
  repeat refine seq ?_
  refine regn0 ?_
  refine tl_as hf rfl (by decide) fun a hf => ?_
  refine tl_nil ?_
  repeat refine seq ?_
  refine regn 2 hf (by decide +kernel) ?_
  refine st (mv rfl) ?_
  refine st (call1 (A := Dv treeE Go.Mono.G0 t) En22 rfl (fun v w he h => by rw [← ht]; exact cut_spec t0 v w h)) ?_
  refine en fun a w e' hf => ?_
  replace hT := hT.ext e'
  replace e := Ext.tr e e'
  clear e'
  refine tl_as hf rfl (by decide) fun a hf => ?_
  refine tl_nil ?_
  replace hf := hf.keep [0, 1]
  dsimp only [keep, List.filterMap, look, Nat.beq, Option.map] at hf
  repeat refine seq ?_
  refine regn 3 hf (by decide +kernel) ?_
  refine st (mv rfl) ?_
  refine st (call1 (A := Dv gtE Go.Mono.G0 gg) En8 rfl (fun v w he h => by rw [hgg]; exact made_spec l v w h hg0)) ?_
  refine st (call1 (A := Dv (ptE (grE 2000)) Go.Mono.G0 (some gg)) En9 rfl (fun v w he h => from05_pst gg hgO v w h (by omega) (by omega))) ?_
  refine en fun a w e' hf => ?_
  replace hT := hT.ext e'
  replace e := Ext.tr e e'
  clear e'
  refine tl_as hf rfl (by decide) fun a hf => ?_
  refine tl_nil ?_
  replace hf := hf.keep [0, 5]
  dsimp only [keep, List.filterMap, look, Nat.beq, Option.map] at hf
  repeat refine seq ?_
  refine regn 2 hf (by decide +kernel) ?_
  refine st (mv rfl) ?_
  refine st (eqlP Tryz.underlying38 (isR rfl)) ?_
  refine en fun a w e' hf => ?_
  replace hT := hT.ext e'
  replace e := Ext.tr e e'
  clear e'
  refine tl_nil ?_
  repeat refine seq ?_
  refine ifc hf rfl (fun h => by cases h) (fun _ => ?_)
  refine wskip ?_
  try simp only [Exit.then, Exit.inBlock, ↓reduceIte]
  repeat refine seq ?_
  refine regn 6 hf (by decide +kernel) ?_
  refine st (mv rfl) ?_
  refine st (call1 En23 rfl (fun v w he h => balance_spec t v w (hT.ext he) h (by omega) hF)) ?_
  refine st (mv rfl) ?_
  refine st (ext_ rfl rfl) ?_
  refine st (ext_ rfl rfl) ?_
  refine st (ext_ rfl rfl) ?_
  refine en fun a w e' hf => ?_
  replace hT := hT.ext e'
  replace e := Ext.tr e e'
  clear e'
  refine tl_as hf rfl (by decide) fun a hf => ?_
  refine tl_as hf rfl (by decide) fun a hf => ?_
  refine tl_as hf rfl (by decide) fun a hf => ?_
  refine tl_nil ?_
  replace hf := hf.keep [0, 5, 6, 8]
  dsimp only [keep, List.filterMap, look, Nat.beq, Option.map] at hf
  have hct : chkT t t.length = chkR (toT t) := chkT_eq
  repeat refine seq ?_
  refine regn 2 hf (by decide +kernel) ?_
  refine st (mv rfl) ?_
  refine st (neq rfl rfl) ?_
  refine en fun a w e' hf => ?_
  replace hT := hT.ext e'
  replace e := Ext.tr e e'
  clear e'
  refine tl_nil ?_
  repeat refine seq ?_
  refine ifc hf rfl (fun hb => ?_) (fun hb => ?_)
  · repeat refine seq ?_
    refine regn 7 hf (by decide +kernel) ?_
    refine st (call0 En24 (fun w he => known_spec w (hT.ext he))) ?_
    refine st (mv rfl) ?_
    refine sy rfl rfl (mv rfl) ?_
    refine sy rfl rfl ((call1 En25 rfl (fun v w he h => chkT_spec t t.length v w h (by omega) (hdp t (by omega)))).eq (congrArg (Value.int .i64) hct)) ?_
    refine sy rfl rfl (mv rfl) ?_
    refine sy rfl rfl ((eql rfl rfl).eq (congrArg Value.bool (beq_self_eq_true _))) ?_
    refine st (pkT rfl rfl) ?_
    refine en fun a w e' hf => ?_
    replace hT := hT.ext e'
    replace e := Ext.tr e e'
    clear e'
    refine tl_as hf rfl (by decide) fun a hf => ?_
    refine tl_nil ?_
    refine wret ?_
    try simp only [Exit.then, Exit.inBlock]
    refine ret1 rfl hf rfl ?_
    rintro _ rfl
    exact ⟨_, rfl, e, rfl⟩
  have h0 : chkR (toT t) = 0 := by simpa using hb
  clear hb
  refine wskip ?_
  try simp only [Exit.then, Exit.inBlock, ↓reduceIte]
  obtain ⟨T, F⟩ := hF h0
  have hbl := balT_len F h0
  have hbv := bal_valid (t := t) (by omega) h0
  have hbs : ∀ c, c < t.length → ∃ i, i < (balT t).length ∧ ∀ k, (bg t c).2.getLsbD k = true → (bg (balT t) i).2.getLsbD k = true := fun c hc => bal_sub (by omega) h0 hc
  generalize balT t = o at *
  have hco : chkT o o.length = 0 := by rw [chkT_eq]; exact hbv
  by_cases hfit : cgR t t.length gg = 0
  · have hfit2 : cgR o o.length gg = 0 := cg_sup hbs hco hfit
    repeat refine seq ?_
    refine regn 18 hf (by decide +kernel) ?_
    refine st (call0 En24 (fun w he => known_spec w (hT.ext he))) ?_
    refine st (mv rfl) ?_
    refine sy rfl rfl (mv rfl) ?_
    refine sy rfl rfl ((call1 En25 rfl (fun v w he h => chkT_spec o o.length v w h (by omega) (hdp o (by omega)))).eq (congrArg (Value.int .i64) hco)) ?_
    refine sy rfl rfl ((eql rfl rfl).eq (congrArg Value.bool (show ((0 : Int) == 0) = true from rfl))) ?_
    refine st (pkT rfl rfl) ?_
    refine st (mv rfl) ?_
    refine sy rfl rfl (mv rfl) ?_
    refine sy rfl rfl (mv rfl) ?_
    refine sy rfl rfl ((call2 (A := E (I (cgR t t.length gg))) En26 rfl rfl (fun v u w he h h' => checkGraph_spec t t.length gg v u w h h' (by omega) (hdp t (by omega)) hgO.sv hgO.se (by omega) (by omega) (by decide))).eq (congrArg (Value.int .i64) hfit)) ?_
    refine sy rfl rfl ((neq rfl rfl).eq (congrArg Value.bool (show ((0 : Int) != 0) = false from rfl))) ?_
    refine sy rfl rfl (mv rfl) ?_
    refine sy rfl rfl (mv rfl) ?_
    refine sy rfl rfl (mv rfl) ?_
    refine sy rfl rfl ((call2 (A := E (I (cgR o o.length gg))) En26 rfl rfl (fun v u w he h h' => checkGraph_spec o o.length gg v u w h h' (by omega) (hdp o (by omega)) hgO.sv hgO.se (by omega) (by omega) (by decide))).eq (congrArg (Value.int .i64) hfit2)) ?_
    refine sy rfl rfl ((eql rfl rfl).eq (congrArg Value.bool (show ((0 : Int) == 0) = true from rfl))) ?_
    refine sy rfl rfl (pkF rfl rfl) ?_
    refine st (pkT rfl rfl) ?_
    refine en fun a w e' hf => ?_
    replace hT := hT.ext e'
    replace e := Ext.tr e e'
    clear e'
    refine tl_as hf rfl (by decide) fun a hf => ?_
    refine tl_nil ?_
    refine wret ?_
    try simp only [Exit.then, Exit.inBlock]
    refine ret1 rfl hf rfl ?_
    rintro _ rfl
    exact ⟨_, rfl, e, rfl⟩
  · have hnf : (cgR t t.length gg != 0) = true := by simpa using hfit
    repeat refine seq ?_
    refine regn 18 hf (by decide +kernel) ?_
    refine st (call0 En24 (fun w he => known_spec w (hT.ext he))) ?_
    refine st (mv rfl) ?_
    refine sy rfl rfl (mv rfl) ?_
    refine sy rfl rfl ((call1 En25 rfl (fun v w he h => chkT_spec o o.length v w h (by omega) (hdp o (by omega)))).eq (congrArg (Value.int .i64) hco)) ?_
    refine sy rfl rfl ((eql rfl rfl).eq (congrArg Value.bool (show ((0 : Int) == 0) = true from rfl))) ?_
    refine st (pkT rfl rfl) ?_
    refine st (mv rfl) ?_
    refine sy rfl rfl (mv rfl) ?_
    refine sy rfl rfl (mv rfl) ?_
    refine sy rfl rfl (call2 (A := E (I (cgR t t.length gg))) En26 rfl rfl (fun v u w he h h' => checkGraph_spec t t.length gg v u w h h' (by omega) (hdp t (by omega)) hgO.sv hgO.se (by omega) (by omega) (by decide))) ?_
    refine sy rfl rfl ((neq rfl rfl).eq (congrArg Value.bool (hnf))) ?_
    refine sy rfl rfl (mv rfl) ?_
    refine sn rfl rfl rfl ?_
    refine sn rfl rfl rfl ?_
    refine sn rfl rfl rfl ?_
    refine sn rfl rfl rfl ?_
    refine sy rfl rfl (pkT rfl rfl) ?_
    refine st (pkT rfl rfl) ?_
    refine en fun a w e' hf => ?_
    replace hT := hT.ext e'
    replace e := Ext.tr e e'
    clear e'
    refine tl_as hf rfl (by decide) fun a hf => ?_
    refine tl_nil ?_
    refine wret ?_
    try simp only [Exit.then, Exit.inBlock]
    refine ret1 rfl hf rfl ?_
    rintro _ rfl
    exact ⟨_, rfl, e, rfl⟩
end Go.Mono
