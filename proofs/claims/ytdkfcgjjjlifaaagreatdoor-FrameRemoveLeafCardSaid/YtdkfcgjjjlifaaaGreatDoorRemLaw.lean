/-
  XRemLaw.
  No condition.
-/
import Derived.Test.YtdkfcgjjjlifaaaGreatDoorWE
import Derived.Test.YtdkfcgjjjlifaaaGreatDoorWG
import Derived.Test.YtdkfcgjjjlifaaaGreatDoorWD
set_option linter.unusedVariables false
set_option linter.unusedSimpArgs false
namespace Go.Mono
open Go Go.Proofs Go.RowKit Go.Gr

/-! ### plain: a tree that fits a graph without a leaf fits it with the leaf -/
theorem allB_bit {k : Nat} : ∀ {t : List (Int × BS)} (S : BS), (t.foldl (fun S b => S ||| b.2) S).getLsbD k = true ↔ S.getLsbD k = true ∨ ∃ b ∈ t, b.2.getLsbD k = true
  | [], S => by simp
  | b :: t, S => by rw [List.foldl_cons, allB_bit, BitVec.getLsbD_or, Bool.or_eq_true, or_assoc]; simp
theorem det_mem {t : List (Int × BS)} {b : Nat} (hb : b < t.length) {x : Int × BS} (h : x ∈ detM t b) : ∃ y ∈ t, y.2 = x.2 := by
  obtain ⟨i, hi⟩ := List.mem_iff_getElem?.1 h
  have hlt : i < t.length - 1 := by have := (List.getElem?_eq_some_iff.1 hi).1; rw [detM_len] at this; exact this
  rw [bg_get (by rw [detM_len]; exact hlt), detM_bg hlt] at hi
  cases hi
  exact ⟨_, List.mem_of_getElem? (bg_get (phN_lt hb hlt).1), rfl⟩
theorem held_iff {t : List (Int × BS)} {e : ET} : heldE t e = true ↔ ∃ x ∈ t, (has x.2 e.1.1 && has x.2 e.1.2) = true := by
  constructor
  · intro h
    apply Classical.byContradiction
    intro hno
    have := (fstB_neg (p := fun b => has b.2 e.1.1 && has b.2 e.1.2) (t := t)).2 fun i hi => by
      cases hx : (has (bg t i).2 e.1.1 && has (bg t i).2 e.1.2) with
      | false => rfl
      | true => exact absurd ⟨bg t i, List.mem_of_getElem? (bg_get hi), hx⟩ hno
    rw [heldE, this] at h; cases h
  · rintro ⟨x, hx, h⟩
    cases hc : heldE t e with
    | true => rfl
    | false =>
      obtain ⟨i, hi⟩ := List.mem_iff_getElem?.1 hx
      have hlt := (List.getElem?_eq_some_iff.1 hi).1
      have := fstB_neg.1 hc i hlt
      rw [bg_get hlt] at hi
      cases hi
      rw [h] at this; cases this
theorem cg_mono {t s : List (Int × BS)} {g : GT} (hm : ∀ x ∈ s, ∃ y ∈ t, y.2 = x.2) (ht : chkT t t.length = 0) (h : cgR s s.length g = 0) : cgR t t.length g = 0 := by
  unfold cgR at h ⊢
  split at h
  · rename_i h1; rw [h] at h1; cases h1
  split at h
  · cases h
  rename_i h2
  split at h
  rotate_left
  · cases h
  rename_i h3
  have h2' : vset g.1 &&& ~~~allB s = 0 := by simpa using h2
  have k2 : vset g.1 &&& ~~~allB t = 0 := by
    rw [and_zero] at h2' ⊢
    intro k hk ⟨a1, a2⟩
    refine h2' k hk ⟨a1, ?_⟩
    rw [BitVec.getLsbD_not] at a2 ⊢
    cases hs : (allB s).getLsbD k with
    | false => simp [hk]
    | true =>
      obtain h0 | ⟨x, hx, hb⟩ := (allB_bit 0).1 hs
      · have hz : (0 : BS).getLsbD k = false := BitVec.getLsbD_zero
        rw [hz] at h0; cases h0
      obtain ⟨y, hy, hyx⟩ := hm x hx
      have : (allB t).getLsbD k = true := (allB_bit 0).2 (.inr ⟨y, hy, by rw [hyx]; exact hb⟩)
      rw [this] at a2; simp only [Bool.not_true, Bool.and_false] at a2; cases a2
  have k3 : g.2.all (heldE t) = true := by
    rw [List.all_eq_true] at h3 ⊢
    intro e he
    obtain ⟨x, hx, hxe⟩ := held_iff.1 (h3 e he)
    obtain ⟨y, hy, hyx⟩ := hm x hx
    exact held_iff.2 ⟨y, hy, by rw [hyx]; exact hxe⟩
  rw [if_neg (by rw [ht]; decide), if_neg (by rw [k2]; simp), if_pos k3]
/-- RemoveLeaf and Detach refuse alike -/
theorem rm_dt {t : List (Int × BS)} (p : Int) : rmC (frM t) p = dtC (toT t) p := by
  have h1 : inT (frM t).1 p = isR45 (toT t) p := by
    show inT t p = _
    rw [inT, isR45, toT_len, Bool.decide_and]
  rw [rmC, dtC, h1]
  by_cases hi : isR45 (toT t) p = false
  · rw [if_pos hi, if_pos hi]
  rw [if_neg hi, if_neg hi]
  have hi' : isR45 (toT t) p = true := by simpa using hi
  rw [isR45, toT_len] at hi'
  have hp := of_decide_eq_true hi'
  obtain ⟨b, rfl⟩ : ∃ b : Nat, p = (b : Int) := ⟨p.toNat, by omega⟩
  have hb : b < t.length := by omega
  rw [fm_nd hb, Int.toNat_natCast, show (frM t).1 = t from rfl, ← toT_up hb, Bool.or_comm]
  rfl
/-- From hands back a valid graph -/
theorem from05_post {G : Nat → Prop} (g : GT) (hg : Gr.Ok g) (v : Value) (W : World) (h : (Dv gtE G g).p v W) (hl1 : g.1.length ≤ 1000) (hl2 : g.2.length ≤ 1000) :
    Calls Tryz.prog 9 #[v] W (Post (Dv (ptE (grE 2000)) Go.Mono.G0 (some g)) W) :=
  Calls.mono (from05_spec g v W h (by omega) (by omega) (okD_V hg) (okD_E hg)) fun en w' ⟨e, hq⟩ => by
    obtain ⟨g', k1, k2, k3⟩ := bld_ok hg
    rcases hq with ⟨g2, b1, b2, b3, q1, rfl, q3, q4, q5, q6⟩ | ⟨q1, _⟩
    · rw [k1] at q1; cases q1
      exact ⟨_, rfl, e, (q6.perm k2 k3).dv (by omega) (fun h => h.elim) (fun h => h.elim) (fun h => h.elim)⟩
    · rw [k1] at q1; cases q1

theorem frameRem_spec {G : Nat → Prop} (t : List (Int × BS)) (p : Int) (l : List DT) (x z : Value) (W : World) (hT : Tab W) (h : (Dv treeE G t).p x W) (h' : (Dv (slE dtE) G l).p z W) (hlab : ∀ d ∈ l, 0 ≤ d.2.2.2.1 ∧ d.2.2.2.1 < 256) :
    Calls Tryz.prog 4 #[x, I p, z] W (Post (E (B true)) W) := by
  refine enter (args := [x, I p, z]) (As := [Dv treeE Go.Mono.G0 t, E (I p), Dv (slE dtE) Go.Mono.G0 l]) Tryz.func4 rfl Tryz.ntmps4 (Nat.le_of_ble_eq_true rfl) ?_ (fun a hf => ?_) (Nat.le_of_ble_eq_true rfl)
  rotate_left
  dsimp only [params, Nat.reduceAdd] at hf
  rotate_right
  · exact arg3 (Dv.weak h fun b _ hb => hb.elim) rfl (Dv.weak h' fun b _ hb => hb.elim)
  have e := Ext.rfl' W
  have hT0 := hT.lt
  have hl := cutT_len t
  have htl := toT_len (cutT t)
  have hg0 : ∀ {w : World}, ∀ b, Go.Mono.G0 b → b < w.heap.size := fun b hb => hb.elim
  have hgO : Gr.Ok (madeR l) := ok_made hlab 60
  have hgl := madeTo_len l 60
  obtain ⟨gg, hgg⟩ : ∃ gg, gg = madeR l := ⟨_, rfl⟩
  have hg1 : gg.1.length ≤ 60 := by rw [hgg]; exact hgl.1
  have hg2 : gg.2.length ≤ 60 := by rw [hgg]; exact hgl.2
  rw [← hgg] at hgO
  clear hgl
  repeat refine seq ?_
  refine regn0 ?_
  refine tl_as hf rfl (by decide) fun a hf => ?_
  refine tl_nil ?_
  replace hf := hf.keep [0, 1, 2]
  dsimp only [keep, List.filterMap, look, Nat.beq, Option.map] at hf
  repeat refine seq ?_
  refine regn 6 hf (by decide +kernel) ?_
  refine st (mv rfl) ?_
  refine st (call1 En6 rfl (fun v w he h => framed_spec t v w (hT.ext he) h)) ?_
  refine st (mv rfl) ?_
  refine st (ext_ rfl rfl) ?_
  refine st (ext_ rfl rfl) ?_
  refine st (ext_ rfl rfl) ?_
  refine en fun a w e' hf => ?_
  replace hT := hT.ext e'
  replace e := Ext.tr e e'
  clear e'
  refine tl_as hf rfl (by decide) fun a hf => ?_
  refine tl_as hf rfl (by decide) fun a hf => ?_
  refine tl_as hf rfl (by decide) fun a hf => ?_
  refine tl_nil ?_
  replace hf := hf.keep [1, 2, 7, 8, 9]
  dsimp only [keep, List.filterMap, look, Nat.beq, Option.map] at hf
  by_cases hn : newR (toT (cutT t)) = 0
  rotate_left
  · rw [decide_eq_false hn] at hf
    repeat refine seq ?_
    refine regn 2 hf (by decide +kernel) ?_
    refine st (mv rfl) ?_
    refine st (notp rfl) ?_
    refine en fun a w e' hf => ?_
    replace hT := hT.ext e'
    replace e := Ext.tr e e'
    clear e'
    refine tl_nil ?_
    repeat refine seq ?_
    refine ifc hf rfl (fun _ => ?_) (fun h => by cases h)
    repeat refine seq ?_
    refine regn 1 hf (by decide +kernel) ?_
    refine st (call0 En7 (fun w he => known_spec w (hT.ext he))) ?_
    refine en fun a w e' hf => ?_
    replace hT := hT.ext e'
    replace e := Ext.tr e e'
    clear e'
    refine tl_as hf rfl (by decide) fun a hf => ?_
    refine tl_nil ?_
    refine wret ?_
    try simp only [Exit.then, Exit.inBlock]
    refine ret1 rfl hf rfl ?_
    rintro _ rfl
    exact ⟨_, rfl, e, rfl⟩
  have V := new_vals hn
  have h4 := new_hs hn
  rw [decide_eq_true hn] at hf
  replace hf := hf.upd 7 rfl (B := Dv (ptE frE) Go.Mono.G0 (some (frM (cutT t)))) (fun v h => h.elim (·.2) (fun h => absurd hn h.1))
  replace hf := hf.keep [1, 2, 7, 8, 9]
  dsimp only [keep, List.filterMap, look, Nat.beq, Option.map] at hf
  repeat refine seq ?_
  refine regn 2 hf (by decide +kernel) ?_
  refine st (mv rfl) ?_
  refine st (notp rfl) ?_
  refine en fun a w e' hf => ?_
  replace hT := hT.ext e'
  replace e := Ext.tr e e'
  clear e'
  refine tl_nil ?_
  repeat refine seq ?_
  refine ifc hf rfl (fun h => by cases h) (fun _ => ?_)
  refine wskip ?_
  try simp only [Exit.then, Exit.inBlock, ↓reduceIte]
  replace hf := hf.keep [1, 2, 7, 8]
  dsimp only [keep, List.filterMap, look, Nat.beq, Option.map] at hf
  repeat refine seq ?_
  refine regn 3 hf (by decide +kernel) ?_
  refine st (mv rfl) ?_
  refine st (call1 (A := Dv gtE Go.Mono.G0 gg) En8 rfl (fun v w he h => by rw [hgg]; exact made_spec l v w h hg0)) ?_
  refine st (call1 (A := Dv (ptE (grE 2000)) Go.Mono.G0 (some gg)) En9 rfl (fun v w he h => from05_post gg hgO v w h (by omega) (by omega))) ?_
  refine en fun a w e' hf => ?_
  replace hT := hT.ext e'
  replace e := Ext.tr e e'
  clear e'
  refine tl_as hf rfl (by decide) fun a hf => ?_
  refine tl_nil ?_
  replace hf := hf.keep [1, 7, 8, 10]
  dsimp only [keep, List.filterMap, look, Nat.beq, Option.map] at hf
  repeat refine seq ?_
  refine regn 6 hf (by decide +kernel) ?_
  refine st (mv rfl) ?_
  refine st (eqlP Tryz.underlying27 (isR rfl)) ?_
  refine st (mv rfl) ?_
  refine sy rfl rfl (mv rfl) ?_
  refine sy rfl rfl (eqlP Tryz.underlying38 (isR rfl)) ?_
  refine st (pkF rfl rfl) ?_
  refine en fun a w e' hf => ?_
  replace hT := hT.ext e'
  replace e := Ext.tr e e'
  clear e'
  refine tl_nil ?_
  repeat refine seq ?_
  refine ifc hf rfl (fun h => by cases h) (fun _ => ?_)
  refine wskip ?_
  try simp only [Exit.then, Exit.inBlock, ↓reduceIte]
  obtain ⟨tt, htt⟩ : ∃ tt, tt = cutT t := ⟨_, rfl⟩
  rw [← htt] at V hf htl h4 hl hn
  have hfl : (frM tt).1.length ≤ 4096 := by show tt.length ≤ 4096; omega
  have hf1 : (frM tt).1 = tt := rfl
  have hsl : ∀ b ∈ toT tt, b.2.length ≤ 4096 := fun b hb => by
    obtain ⟨i, hi⟩ := List.mem_iff_getElem?.1 hb
    have hlt := (List.getElem?_eq_some_iff.1 hi).1
    rw [up_get hlt] at hi
    cases hi
    have := h4 i hlt
    show (hs (toT tt) i).length ≤ 4096
    omega
  have hrd := rm_dt (t := tt) p
  have hkl : ∀ b : Nat, b < tt.length → (ofF (frM tt) (b : Int)).1 = kids (toT tt) (b : Int) := fun b hb => by rw [fm_nd hb]; rfl
  replace hf := hf.keep [1, 7, 8, 10]
  dsimp only [keep, List.filterMap, look, Nat.beq, Option.map] at hf
  by_cases hc : dtC (toT tt) p = 0
  rotate_left
  · have hnb : (dtC (toT tt) p == 0) = false := by simpa using hc
    have hko : (ofF (frM tt) p).1.length ≤ 4096 := by
      by_cases hi : 0 ≤ p ∧ p < tt.length
      · obtain ⟨b, rfl⟩ : ∃ b : Nat, p = (b : Int) := ⟨p.toNat, by omega⟩
        rw [hkl b (by omega)]
        have := kids_len (toT tt) (b : Int)
        omega
      · have hin : ¬ inT (frM tt).1 p = true := by rw [hf1, inT, Bool.and_eq_true, decide_eq_true_eq, decide_eq_true_eq]; exact hi
        rw [ofF, if_neg hin]; simp
    repeat refine seq ?_
    refine regn 6 hf (by decide +kernel) ?_
    refine st (mv rfl) ?_
    refine st (mv rfl) ?_
    refine st (call2 (A := Tup [E (.pointer none), E (I (dtC (toT tt) p))]) En16 rfl rfl (fun v u w he h h' => by cases h'; rw [← hrd]; exact fremove_no (frM tt) p v w h (by rw [hf1]; omega) (frM_len tt) hko (by rw [hrd]; exact hc))) ?_
    refine st (mv rfl) ?_
    refine st (ext_ rfl rfl) ?_
    refine st (ext_ rfl rfl) ?_
    refine en fun a w e' hf => ?_
    replace hT := hT.ext e'
    replace e := Ext.tr e e'
    clear e'
    refine tl_as hf rfl (by decide) fun a hf => ?_
    refine tl_as hf rfl (by decide) fun a hf => ?_
    refine tl_nil ?_
    replace hf := hf.keep [1, 7, 8, 10, 11, 12]
    dsimp only [keep, List.filterMap, look, Nat.beq, Option.map] at hf
    repeat refine seq ?_
    refine regn 6 hf (by decide +kernel) ?_
    refine st (mv rfl) ?_
    refine st (mv rfl) ?_
    refine st (call2 En17 rfl rfl (fun v u w he h h' => by cases h'; exact detach_spec (toT tt) p v w h (by omega))) ?_
    refine st (mv rfl) ?_
    refine st (ext_ rfl rfl) ?_
    refine st (ext_ rfl rfl) ?_
    refine en fun a w e' hf => ?_
    replace hT := hT.ext e'
    replace e := Ext.tr e e'
    clear e'
    refine tl_as hf rfl (by decide) fun a hf => ?_
    refine tl_as hf rfl (by decide) fun a hf => ?_
    refine tl_nil ?_
    replace hf := hf.keep [7, 8, 11, 12, 13, 14]
    dsimp only [keep, List.filterMap, look, Nat.beq, Option.map] at hf
    repeat refine seq ?_
    refine regn 10 hf (by decide +kernel) ?_
    refine st (mv rfl) ?_
    refine st (mv rfl) ?_
    refine st ((neq rfl rfl).eq (congrArg Value.bool (bne_self_eq_false _))) ?_
    refine st (mv rfl) ?_
    refine sy rfl rfl (mv rfl) ?_
    refine sy rfl rfl (neqP0 Tryz.underlying27 (isR rfl)) ?_
    refine sy rfl rfl (mv rfl) ?_
    refine sy rfl rfl ((eql rfl rfl).eq (congrArg Value.bool (hnb))) ?_
    refine sy rfl rfl ((neqB Tryz.underlying4 rfl rfl).eq (congrArg Value.bool (show (false != false) = false from rfl))) ?_
    refine st (pkF rfl rfl) ?_
    refine en fun a w e' hf => ?_
    replace hT := hT.ext e'
    replace e := Ext.tr e e'
    clear e'
    refine tl_nil ?_
    repeat refine seq ?_
    refine ifc hf rfl (fun h => by cases h) (fun _ => ?_)
    refine wskip ?_
    try simp only [Exit.then, Exit.inBlock, ↓reduceIte]
    repeat refine seq ?_
    refine regn 2 hf (by decide +kernel) ?_
    refine st (mv rfl) ?_
    refine st ((neq rfl rfl).eq (congrArg Value.bool (show (dtC (toT tt) p != 0) = true from by rw [bne, hnb]; rfl))) ?_
    refine en fun a w e' hf => ?_
    replace hT := hT.ext e'
    replace e := Ext.tr e e'
    clear e'
    refine tl_nil ?_
    repeat refine seq ?_
    refine ifc hf rfl (fun _ => ?_) (fun h => by cases h)
    repeat refine seq ?_
    refine regn 1 hf (by decide +kernel) ?_
    refine st (call0 En7 (fun w he => known_spec w (hT.ext he))) ?_
    refine en fun a w e' hf => ?_
    replace hT := hT.ext e'
    replace e := Ext.tr e e'
    clear e'
    refine tl_as hf rfl (by decide) fun a hf => ?_
    refine tl_nil ?_
    refine wret ?_
    try simp only [Exit.then, Exit.inBlock]
    refine ret1 rfl hf rfl ?_
    rintro _ rfl
    exact ⟨_, rfl, e, rfl⟩
  obtain ⟨hi, hk, hu⟩ : isR45 (toT tt) p = true ∧ kids (toT tt) p = [] ∧ ¬ up (toT tt) p.toNat < 0 := by
    unfold dtC at hc
    split at hc
    · cases hc
    · rename_i h1
      split at hc
      · cases hc
      · rename_i h2
        rw [Bool.or_eq_true, not_or, decide_eq_true_eq, decide_eq_true_eq] at h2
        exact ⟨by simpa using h1, List.eq_nil_of_length_eq_zero (by omega), h2.2⟩
  have hp := of_decide_eq_true hi
  rw [htl] at hp
  obtain ⟨b, rfl⟩ : ∃ b : Nat, p = (b : Int) := ⟨p.toNat, by omega⟩
  have hb : b < tt.length := by omega
  rw [Int.toNat_natCast, toT_up hb] at hu
  have hu0 : 0 ≤ (bg tt b).1 := by omega
  have hdn := det_new hn hb hu0 hk
  have hdm : ∀ x ∈ detM tt b, ∃ y ∈ tt, y.2 = x.2 := fun x hx => det_mem hb hx
  have hdl := detM_len tt b
  have hdr := dtR_toT hb
  have hkid : (ofF (frM tt) (b : Int)).1 = [] := by rw [hkl b hb]; exact hk
  obtain ⟨t2, ht2⟩ : ∃ t2, t2 = detM tt b := ⟨_, rfl⟩
  rw [← ht2] at hdn hdm hdl hdr
  repeat refine seq ?_
  refine regn 6 hf (by decide +kernel) ?_
  refine st (mv rfl) ?_
  refine st (mv rfl) ?_
  refine st (call2 (A := Tup [NewA (detM tt b) Go.Mono.G0, E (I (newR (toT (detM tt b))))]) En16 rfl rfl (fun v u w he h h' => by cases h'; exact fremove_ok (frM tt) b v w (hT.ext he) h (by rw [hf1]; omega) (frM_len tt) hb hu0 hkid)) ?_
  refine st (mv rfl) ?_
  refine st (ext_ rfl rfl) ?_
  refine st (ext_ rfl rfl) ?_
  refine en fun a w e' hf => ?_
  replace hT := hT.ext e'
  replace e := Ext.tr e e'
  clear e'
  refine tl_as hf rfl (by decide) fun a hf => ?_
  refine tl_as hf rfl (by decide) fun a hf => ?_
  refine tl_nil ?_
  rw [← ht2, hdn] at hf
  replace hf := hf.upd 11 rfl (B := Dv (ptE frE) Go.Mono.G0 (some (frM t2))) (fun v h => h.elim (·.2) (fun h => absurd hdn h.1))
  replace hf := hf.keep [1, 7, 8, 10, 11, 12]
  dsimp only [keep, List.filterMap, look, Nat.beq, Option.map] at hf
  repeat refine seq ?_
  refine regn 6 hf (by decide +kernel) ?_
  refine st (mv rfl) ?_
  refine st (mv rfl) ?_
  refine st (call2 En17 rfl rfl (fun v u w he h h' => by cases h'; exact detach_spec (toT tt) (b : Int) v w h (by omega))) ?_
  refine st (mv rfl) ?_
  refine st (ext_ rfl rfl) ?_
  refine st (ext_ rfl rfl) ?_
  refine en fun a w e' hf => ?_
  replace hT := hT.ext e'
  replace e := Ext.tr e e'
  clear e'
  refine tl_as hf rfl (by decide) fun a hf => ?_
  refine tl_as hf rfl (by decide) fun a hf => ?_
  refine tl_nil ?_
  rw [hc] at hf
  replace hf := hf.upd 13 rfl (B := Dv rtE Go.Mono.G0 (toT t2)) (fun v h => by
    have h1 := h.1 hc
    rw [Int.toNat_natCast, hdr] at h1
    exact h1)
  replace hf := hf.keep [7, 8, 10, 11, 12, 13, 14]
  dsimp only [keep, List.filterMap, look, Nat.beq, Option.map] at hf
  repeat refine seq ?_
  refine regn 10 hf (by decide +kernel) ?_
  refine st (mv rfl) ?_
  refine st (mv rfl) ?_
  refine st ((neq rfl rfl).eq (congrArg Value.bool (show ((0 : Int) != 0) = false from rfl))) ?_
  refine st (mv rfl) ?_
  refine sy rfl rfl (mv rfl) ?_
  refine sy rfl rfl (neqP Tryz.underlying27 (isR rfl)) ?_
  refine sy rfl rfl (mv rfl) ?_
  refine sy rfl rfl ((eql rfl rfl).eq (congrArg Value.bool (show ((0 : Int) == 0) = true from rfl))) ?_
  refine sy rfl rfl ((neqB Tryz.underlying4 rfl rfl).eq (congrArg Value.bool (show (true != true) = false from rfl))) ?_
  refine st (pkF rfl rfl) ?_
  refine en fun a w e' hf => ?_
  replace hT := hT.ext e'
  replace e := Ext.tr e e'
  clear e'
  refine tl_nil ?_
  repeat refine seq ?_
  refine ifc hf rfl (fun h => by cases h) (fun _ => ?_)
  refine wskip ?_
  try simp only [Exit.then, Exit.inBlock, ↓reduceIte]
  repeat refine seq ?_
  refine regn 2 hf (by decide +kernel) ?_
  refine st (mv rfl) ?_
  refine st ((neq rfl rfl).eq (congrArg Value.bool (show ((0 : Int) != 0) = false from rfl))) ?_
  refine en fun a w e' hf => ?_
  replace hT := hT.ext e'
  replace e := Ext.tr e e'
  clear e'
  refine tl_nil ?_
  repeat refine seq ?_
  refine ifc hf rfl (fun h => by cases h) (fun _ => ?_)
  refine wskip ?_
  try simp only [Exit.then, Exit.inBlock, ↓reduceIte]
  replace hf := hf.keep [7, 8, 10, 11, 13]
  dsimp only [keep, List.filterMap, look, Nat.beq, Option.map] at hf
  have hxl2 : (toT t2).length = t2.length := toT_len t2
  have h42 := new_hs hdn
  have hsl2 : ∀ b ∈ toT t2, b.2.length ≤ 4096 := fun b hb => by
    obtain ⟨i, hi⟩ := List.mem_iff_getElem?.1 hb
    have hlt := (List.getElem?_eq_some_iff.1 hi).1
    rw [up_get hlt] at hi
    cases hi
    have := h42 i hlt
    show (hs (toT t2) i).length ≤ 4096
    omega
  have hfl2 : (frM t2).1.length ≤ 4096 := by show t2.length ≤ 4096; omega
  have hdp : ∀ s : List (Int × BS), s.length ≤ 4096 → Rng s → (rootN s).length = 1 → Dp s s.length := fun s hs hr h1 => Dp.mk' hs hr h1
  have hck : chkT tt tt.length = 0 := by
    rw [chkT_eq]
    exact chkR_ok.2 ⟨(new_iff.1 hn).1, V⟩
  by_cases hfit : cgR t2 t2.length gg = 0
  · have hfit2 : cgR tt tt.length gg = 0 := cg_mono hdm hck hfit
    repeat refine seq ?_
    refine regn 32 hf (by decide +kernel) ?_
    refine st (call0 En7 (fun w he => known_spec w (hT.ext he))) ?_
    refine st (mv rfl) ?_
    refine sy rfl rfl (mv rfl) ?_
    refine sy rfl rfl (call1 (A := Dv treeE Go.Mono.G0 t2) En20 rfl (fun v w he h => postG (G := Go.Mono.G0) (fbags_spec (frM t2) v w h hfl2) hg0)) ?_
    refine sy rfl rfl (call1 (A := Dv rtE Go.Mono.G0 (toT t2)) En19 rfl (fun v w he h => toT_spec t2 v w h hg0 (by omega))) ?_
    refine sy rfl rfl (mv rfl) ?_
    refine sy rfl rfl ((call2 En18 rfl rfl (fun v u w he h h' => sameT_spec (toT t2) (toT t2) v u w h h' (by omega) (by omega) hsl2 hsl2)).eq (congrArg Value.bool (decide_eq_true ⟨rfl, fun i _ => ⟨rfl, cmpL_self _⟩⟩))) ?_
    refine st (pkT rfl rfl) ?_
    refine st (mv rfl) ?_
    refine sy rfl rfl (mv rfl) ?_
    refine sy rfl rfl ((call1 En21 rfl (fun v w he h => newR_spec (toT t2) v w h (by omega) (fun i _ => Nat.le_trans (hs_le t2 i) (by decide)))).eq (congrArg (Value.int .i64) hdn)) ?_
    refine sy rfl rfl ((eql rfl rfl).eq (congrArg Value.bool (show ((0 : Int) == 0) = true from rfl))) ?_
    refine st (pkT rfl rfl) ?_
    refine st (mv rfl) ?_
    refine sy rfl rfl (mv rfl) ?_
    refine sy rfl rfl (mv rfl) ?_
    refine sy rfl rfl ((call2 (A := E (I (cgR t2 t2.length gg))) En10 rfl rfl (fun v u w he h h' => ffits_spec (frM t2) t2.length gg v u w h h' hfl2 (hdp t2 hfl2) hgO.sv hgO.se (by omega) (by omega) (by decide))).eq (congrArg (Value.int .i64) hfit)) ?_
    refine sy rfl rfl ((neq rfl rfl).eq (congrArg Value.bool (show ((0 : Int) != 0) = false from rfl))) ?_
    refine sy rfl rfl (mv rfl) ?_
    refine sy rfl rfl (mv rfl) ?_
    refine sy rfl rfl (mv rfl) ?_
    refine sy rfl rfl ((call2 (A := E (I (cgR tt tt.length gg))) En10 rfl rfl (fun v u w he h h' => ffits_spec (frM tt) tt.length gg v u w h h' hfl (hdp tt hfl) hgO.sv hgO.se (by omega) (by omega) (by decide))).eq (congrArg (Value.int .i64) hfit2)) ?_
    refine sy rfl rfl ((eql rfl rfl).eq (congrArg Value.bool (show ((0 : Int) == 0) = true from rfl))) ?_
    refine sy rfl rfl (pkF rfl rfl) ?_
    refine st (pkT rfl rfl) ?_
    refine st (mv rfl) ?_
    refine sy rfl rfl (mv rfl) ?_
    refine sy rfl rfl (call1 (A := Dv treeE Go.Mono.G0 tt) En20 rfl (fun v w he h => postG (G := Go.Mono.G0) (fbags_spec (frM tt) v w h hfl) hg0)) ?_
    refine sy rfl rfl (call1 (A := Dv rtE Go.Mono.G0 (toT tt)) En19 rfl (fun v w he h => toT_spec tt v w h hg0 (by omega))) ?_
    refine sy rfl rfl (mv rfl) ?_
    refine sy rfl rfl ((call2 En18 rfl rfl (fun v u w he h h' => sameT_spec (toT tt) (toT tt) v u w h h' (by omega) (by omega) hsl hsl)).eq (congrArg Value.bool (decide_eq_true ⟨rfl, fun i _ => ⟨rfl, cmpL_self _⟩⟩))) ?_
    refine st (pkT rfl rfl) ?_
    refine en fun a w e' hf => ?_
    replace hT := hT.ext e'
    replace e := Ext.tr e e'
    clear e'
    refine tl_as hf rfl (by decide) fun a hf => ?_
    refine tl_nil ?_
    refine wret ?_
    try simp only [Exit.then, Exit.inBlock]
    refine ret1 rfl hf rfl ?_
    rintro _ rfl
    exact ⟨_, rfl, e, rfl⟩
  · have hnf : (cgR t2 t2.length gg != 0) = true := by simpa using hfit
    repeat refine seq ?_
    refine regn 32 hf (by decide +kernel) ?_
    refine st (call0 En7 (fun w he => known_spec w (hT.ext he))) ?_
    refine st (mv rfl) ?_
    refine sy rfl rfl (mv rfl) ?_
    refine sy rfl rfl (call1 (A := Dv treeE Go.Mono.G0 t2) En20 rfl (fun v w he h => postG (G := Go.Mono.G0) (fbags_spec (frM t2) v w h hfl2) hg0)) ?_
    refine sy rfl rfl (call1 (A := Dv rtE Go.Mono.G0 (toT t2)) En19 rfl (fun v w he h => toT_spec t2 v w h hg0 (by omega))) ?_
    refine sy rfl rfl (mv rfl) ?_
    refine sy rfl rfl ((call2 En18 rfl rfl (fun v u w he h h' => sameT_spec (toT t2) (toT t2) v u w h h' (by omega) (by omega) hsl2 hsl2)).eq (congrArg Value.bool (decide_eq_true ⟨rfl, fun i _ => ⟨rfl, cmpL_self _⟩⟩))) ?_
    refine st (pkT rfl rfl) ?_
    refine st (mv rfl) ?_
    refine sy rfl rfl (mv rfl) ?_
    refine sy rfl rfl ((call1 En21 rfl (fun v w he h => newR_spec (toT t2) v w h (by omega) (fun i _ => Nat.le_trans (hs_le t2 i) (by decide)))).eq (congrArg (Value.int .i64) hdn)) ?_
    refine sy rfl rfl ((eql rfl rfl).eq (congrArg Value.bool (show ((0 : Int) == 0) = true from rfl))) ?_
    refine st (pkT rfl rfl) ?_
    refine st (mv rfl) ?_
    refine sy rfl rfl (mv rfl) ?_
    refine sy rfl rfl (mv rfl) ?_
    refine sy rfl rfl (call2 (A := E (I (cgR t2 t2.length gg))) En10 rfl rfl (fun v u w he h h' => ffits_spec (frM t2) t2.length gg v u w h h' hfl2 (hdp t2 hfl2) hgO.sv hgO.se (by omega) (by omega) (by decide))) ?_
    refine sy rfl rfl ((neq rfl rfl).eq (congrArg Value.bool (hnf))) ?_
    refine sy rfl rfl (mv rfl) ?_
    refine sn rfl rfl rfl ?_
    refine sn rfl rfl rfl ?_
    refine sn rfl rfl rfl ?_
    refine sn rfl rfl rfl ?_
    refine sy rfl rfl (pkT rfl rfl) ?_
    refine st (pkT rfl rfl) ?_
    refine st (mv rfl) ?_
    refine sy rfl rfl (mv rfl) ?_
    refine sy rfl rfl (call1 (A := Dv treeE Go.Mono.G0 tt) En20 rfl (fun v w he h => postG (G := Go.Mono.G0) (fbags_spec (frM tt) v w h hfl) hg0)) ?_
    refine sy rfl rfl (call1 (A := Dv rtE Go.Mono.G0 (toT tt)) En19 rfl (fun v w he h => toT_spec tt v w h hg0 (by omega))) ?_
    refine sy rfl rfl (mv rfl) ?_
    refine sy rfl rfl ((call2 En18 rfl rfl (fun v u w he h h' => sameT_spec (toT tt) (toT tt) v u w h h' (by omega) (by omega) hsl hsl)).eq (congrArg Value.bool (decide_eq_true ⟨rfl, fun i _ => ⟨rfl, cmpL_self _⟩⟩))) ?_
    refine st (pkT rfl rfl) ?_
    refine en fun a w e' hf => ?_
    replace hT := hT.ext e'
    replace e := Ext.tr e e'
    clear e'
    refine tl_as hf rfl (by decide) fun a hf => ?_
    refine tl_nil ?_
    refine wret ?_
    try simp only [Exit.then, Exit.inBlock]
    refine ret1 rfl hf rfl ?_
    rintro _ rfl
    exact ⟨_, rfl, e, rfl⟩
end Go.Mono
