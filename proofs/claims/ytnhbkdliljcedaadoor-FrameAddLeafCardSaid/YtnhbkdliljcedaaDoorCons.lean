/-
  FrameConstruction, walked: it answers true.
  No condition.
-/
import Derived.Test.YtnhbkdliljcedaaDoorWE
set_option linter.unusedVariables false
set_option linter.unusedSimpArgs false
set_option linter.unusedVariables false
set_option linter.unusedSimpArgs false
namespace Go.Mono
open Go Go.Proofs Go.RowKit

theorem neqS {P : Program} {w0 : World} {L : Env} {dst : Option Tmp} {ty : TypeId} {pos : String} {aft : Array Edge} {g : Option (Nat × Bool)} {x y : Operand} {t yt e : TypeId} {S T : BS} (ht : P.underlying t = some (.array 16 e)) (he : P.underlying e = some (.int .u64)) (hs : TI P e false 1) (hm : P.eqGuardType P.depth t = false) (hx : opd L x = some (E (setV S))) (hy : opd L y = some (E (setV T))) :
    OpC P w0 L ⟨dst, .binOp .neq t x y yt, ty, pos, aft, g⟩ (E (.bool (!(S == T)))) :=
  opc_neq hx hy (fun w => eqGuard_agg _ _ _ _ _ _ hm w) rfl fun w _ => by
    rw [← all_setC]
    exact run_equalIn_words ht he hs 9998 (word S) (word T) w
theorem cmpN_self (a : List Int) : ∀ i, cmpN a a i i = 0
  | 0 => rfl
  | i + 1 => by rw [cmpN, if_neg (Int.lt_irrefl _), if_neg (Int.lt_irrefl _)]; exact cmpN_self a i
theorem cmpL_self (a : List Int) : cmpL a a = 0 := cmpN_self a _
theorem ins_bit (S : BS) (n : Int) (k : Nat) (hk : k < 1024) : (ins S n).getLsbD k = (S.getLsbD k || decide (n = (k : Int))) := by
  unfold ins
  by_cases hf : fitsB n = true
  · have h := fitsB_iff.1 hf
    rw [if_pos hf, BitVec.getLsbD_or, sgl_bit _ _ (by omega)]
    congr 1
    rw [decide_eq_decide]; omega
  · rw [if_neg hf]
    have : ¬ n = (k : Int) := fun h => hf (fitsB_iff.2 (by omega))
    simp [this]
theorem foldl_ins_bit (k : Nat) (hk : k < 1024) : ∀ (l : List Int) (S : BS), (l.foldl ins S).getLsbD k = (S.getLsbD k || decide ((k : Int) ∈ l))
  | [], S => by simp
  | x :: l, S => by
    rw [List.foldl_cons, foldl_ins_bit k hk l, ins_bit _ _ _ hk, Bool.or_assoc]
    congr 1
    by_cases h1 : x = (k : Int)
    · simp [h1]
    · have : ¬ (k : Int) = x := Ne.symm h1
      simp [h1, this]
theorem set_ext {S T : BS} (h : ∀ k, k < 1024 → (S.getLsbD k = true ↔ T.getLsbD k = true)) : S = T :=
  BitVec.eq_of_getLsbD_eq fun k hk => Bool.eq_iff_iff.2 (h k hk)
theorem mem_insAt {x n : Int} : ∀ {r : List Int}, x ∈ insAt r n ↔ x ∈ r ∨ x = n
  | [] => by simp [insAt]
  | y :: r => by
    unfold insAt
    split
    · simp [or_comm]
    · rw [List.mem_cons, List.mem_cons, mem_insAt, or_assoc]
theorem mem_withL {x n : Int} {r : List Int} (hn : 0 ≤ n ∧ n ≤ 1023) : x ∈ withL r n ↔ x ∈ r ∨ x = n := by
  unfold withL
  by_cases h : n < 0 ∨ 1023 < n ∨ hasL r n = true
  · rw [if_pos h]
    have hm : n ∈ r := by
      rcases h with h | h | h
      · omega
      · omega
      · exact of_decide_eq_true h
    exact ⟨.inl, fun h => h.elim id fun h => by rw [h]; exact hm⟩
  · rw [if_neg h]; exact mem_insAt
theorem mem_foldl_withL {x : Int} : ∀ {l r : List Int}, (∀ n ∈ l, 0 ≤ n ∧ n ≤ 1023) → (x ∈ l.foldl withL r ↔ x ∈ r ∨ x ∈ l)
  | [], r, _ => by simp
  | n :: l, r, h => by
    rw [List.foldl_cons, mem_foldl_withL fun m hm => h m (by simp [hm]), mem_withL (h n (by simp)), List.mem_cons, or_assoc]
theorem toL_mem {S : BS} {k : Nat} (hk : k < 1024) : ((k : Int) ∈ toL S) ↔ S.getLsbD k = true := by
  rw [toL, mem_selN]
  constructor
  · rintro ⟨i, h1, h2, h3⟩
    obtain rfl : k = i := by omega
    exact h2
  · intro h; exact ⟨k, hk, h, rfl⟩
theorem toL_fit {S : BS} : ∀ n ∈ toL S, 0 ≤ n ∧ n ≤ 1023 := by
  intro n hn
  obtain ⟨i, h1, _, rfl⟩ := mem_selN.1 hn
  omega
theorem mem_ids {x : Int} : ∀ {t : List (Int × BS)} {r : List Int}, x ∈ (toT t).foldl (fun out b => b.2.foldl withL out) r ↔ x ∈ r ∨ ∃ b ∈ t, x ∈ toL b.2
  | [], r => by simp [toT]
  | b :: t, r => by
    have e : (toT (b :: t)).foldl (fun out b => b.2.foldl withL out) r = (toT t).foldl (fun out b => b.2.foldl withL out) ((toL b.2).foldl withL r) := by
      simp only [toT, List.map_cons, List.foldl_cons, toB]
    rw [e, mem_ids, mem_foldl_withL toL_fit, or_assoc]
    simp
theorem unionTo_bit {t : List (Int × BS)} {k : Nat} : ∀ n, (unionTo t n).getLsbD k = true ↔ ∃ i, i < n ∧ (bg t i).2.getLsbD k = true
  | 0 => by simp [unionTo]
  | n + 1 => by
    rw [unionTo, BitVec.getLsbD_or, Bool.or_eq_true, unionTo_bit n]
    constructor
    · rintro (⟨i, h1, h2⟩ | h)
      · exact ⟨i, by omega, h2⟩
      · exact ⟨n, by omega, h⟩
    · rintro ⟨i, h1, h2⟩
      by_cases hi : i = n
      · subst hi; exact .inr h2
      · exact .inl ⟨i, by omega, h2⟩
theorem union_ids (t : List (Int × BS)) : unionTo t t.length = (idsR (toT t)).foldl ins 0 := by
  refine set_ext fun k hk => ?_
  have hz : (0 : BS).getLsbD k = false := BitVec.getLsbD_zero
  rw [unionTo_bit, foldl_ins_bit k hk, idsR, hz, Bool.false_or, decide_eq_true_eq, mem_ids]
  constructor
  · rintro ⟨i, h1, h2⟩
    exact .inr ⟨bg t i, List.mem_of_getElem? (bg_get h1), (toL_mem hk).2 h2⟩
  · rintro (h | ⟨b, hb, h⟩)
    · cases h
    · obtain ⟨i, hi⟩ := List.mem_iff_getElem?.1 hb
      have hlt := (List.getElem?_eq_some_iff.1 hi).1
      refine ⟨i, hlt, ?_⟩
      rw [bg_get hlt] at hi
      cases hi
      exact (toL_mem hk).1 h
theorem adh_shared {t : List (Int × BS)} (V : Vals (toT t)) {i : Nat} (hi : i < t.length) : bagF (frM t) (i : Int) &&& bagF (frM t) (parF (frM t) (i : Int)) = (sharedR (toT t) i).foldl ins 0 := by
  have hr := V.range i (by rw [toT_len]; exact hi)
  rw [toT_up hi, toT_len] at hr
  have hin : inT (frM t).1 (i : Int) = true := by show inT t _ = true; simp [inT, hi]
  have hb : bagF (frM t) (i : Int) = (bg t i).2 := by rw [bagF, hin, Int.toNat_natCast]; rfl
  have hp : parF (frM t) (i : Int) = (bg t i).1 := by rw [parF, hin, Int.toNat_natCast]; rfl
  rw [hb, hp, sharedR, toT_up hi]
  by_cases hu : (bg t i).1 < 0
  · have hin2 : inT (frM t).1 (bg t i).1 = false := by show inT t _ = false; simp [inT]; omega
    rw [if_pos hu, bagF, hin2]; simp
  · obtain ⟨p, hp⟩ : ∃ p : Nat, (bg t i).1 = (p : Int) := ⟨(bg t i).1.toNat, by omega⟩
    have hpl : p < t.length := by omega
    have hin2 : inT (frM t).1 (p : Int) = true := by show inT t _ = true; simp [inT, hpl]
    have hb2 : bagF (frM t) (p : Int) = (bg t p).2 := by rw [bagF, hin2, Int.toNat_natCast]; rfl
    rw [if_neg hu, hp, hb2, Int.toNat_natCast, toT_hs hi, toT_hs hpl]
    refine set_ext fun k hk => ?_
    have hz : (0 : BS).getLsbD k = false := BitVec.getLsbD_zero
    rw [BitVec.getLsbD_and, foldl_ins_bit k hk, hz, Bool.false_or, decide_eq_true_eq, Bool.and_eq_true, List.mem_filter]
    have h1 := toL_mem (S := (bg t i).2) hk
    have h2 : hasL (toL (bg t p).2) (k : Int) = true ↔ (bg t p).2.getLsbD k = true := by rw [hasL, decide_eq_true_eq]; exact toL_mem hk
    exact ⟨fun h => ⟨h1.2 h.1, h2.2 h.2⟩, fun h => ⟨h1.1 h.1, h2.1 h.2⟩⟩
theorem root_fm (t : List (Int × BS)) : fstB (fun b => decide (b.1 < 0)) t = rootR (toT t) := by
  rw [fstB, rootR, toT_len]
  exact fstN_congr fun i hi => by rw [toT_up hi]
theorem new_hs {t : List (Int × BS)} (h : newR (toT t) = 0) : ∀ i, i < (toT t).length → (hs (toT t) i).length ≤ 4 := by
  by_cases hc : chkR (toT t) = 0
  · rw [newR, if_neg (Classical.not_not.2 hc)] at h
    by_cases h4 : ∀ i, i < (toT t).length → (hs (toT t) i).length ≤ 4
    · exact h4
    · rw [if_neg h4] at h; cases h
  · rw [newR, if_pos hc] at h
    exact absurd h hc

theorem frameCons_spec {G : Nat → Prop} (t : List (Int × BS)) (x : Value) (W : World) (hT : Tab W) (h : (Dv treeE G t).p x W) :
    Calls Tryd.prog 5 #[x] W (Post (E (B true)) W) := by
  refine enter (args := [x]) (As := [Dv treeE Go.Mono.G0 t]) Tryd.func5 rfl Tryd.ntmps5 (Nat.le_of_ble_eq_true rfl) ?_ (fun a hf => ?_) (Nat.le_of_ble_eq_true rfl)
  rotate_left
  dsimp only [params, Nat.reduceAdd] at hf
  rotate_right
  · exact arg1 (Dv.weak h fun b _ hb => hb.elim)
  have e := Ext.rfl' W
  have hl := cutT_len t
  have htl := toT_len (cutT t)
  have hg0 : ∀ {w : World}, ∀ b, Go.Mono.G0 b → b < w.heap.size := fun b hb => hb.elim
  repeat refine seq ?_
  refine regn0 ?_
  refine tl_as hf rfl (by decide) fun a hf => ?_
  refine tl_nil ?_
  repeat refine seq ?_
  refine regn 2 hf (by decide +kernel) ?_
  refine st (mv rfl) ?_
  refine st (call1 En30 rfl (fun v w he h => cut45_spec t v w h)) ?_
  refine en fun a w e' hf => ?_
  replace hT := hT.ext e'
  replace e := Ext.tr e e'
  clear e'
  refine tl_as hf rfl (by decide) fun a hf => ?_
  refine tl_nil ?_
  replace hf := hf.keep [0]
  dsimp only [keep, List.filterMap, look, Nat.beq, Option.map] at hf
  repeat refine seq ?_
  refine regn 2 hf (by decide +kernel) ?_
  refine st (mv rfl) ?_
  refine st (call1 En31 rfl (fun v w he h => toT_spec (cutT t) v w h hg0 (by omega))) ?_
  refine en fun a w e' hf => ?_
  replace hT := hT.ext e'
  replace e := Ext.tr e e'
  clear e'
  refine tl_as hf rfl (by decide) fun a hf => ?_
  refine tl_nil ?_
  replace hf := hf.keep [0, 3]
  dsimp only [keep, List.filterMap, look, Nat.beq, Option.map] at hf
  repeat refine seq ?_
  refine regn 5 hf (by decide +kernel) ?_
  refine st (mv rfl) ?_
  refine st (call1 En32 rfl (fun v w he h => fnew0_spec (cutT t) v w (hT.ext he) h (by omega))) ?_
  refine st (mv rfl) ?_
  refine st (ext_ rfl rfl) ?_
  refine st (ext_ rfl rfl) ?_
  refine en fun a w e' hf => ?_
  replace hT := hT.ext e'
  replace e := Ext.tr e e'
  clear e'
  refine tl_as hf rfl (by decide) fun a hf => ?_
  refine tl_as hf rfl (by decide) fun a hf => ?_
  refine tl_nil ?_
  replace hf := hf.keep [3, 4, 5]
  dsimp only [keep, List.filterMap, look, Nat.beq, Option.map] at hf
  repeat refine seq ?_
  refine regn 2 hf (by decide +kernel) ?_
  refine st (mv rfl) ?_
  refine st (call1 En33 rfl (fun v w he h => newR_spec (toT (cutT t)) v w h (by omega) (fun i _ => Nat.le_trans (hs_le _ i) (by decide)))) ?_
  refine en fun a w e' hf => ?_
  replace hT := hT.ext e'
  replace e := Ext.tr e e'
  clear e'
  refine tl_as hf rfl (by decide) fun a hf => ?_
  refine tl_nil ?_
  replace hf := hf.keep [3, 4, 5, 6]
  dsimp only [keep, List.filterMap, look, Nat.beq, Option.map] at hf
  by_cases hn : newR (toT (cutT t)) = 0
  rotate_left
  · replace hf := hf.upd 4 rfl (B := E (.pointer none)) (fun v h => h.elim (fun h => absurd h.1 hn) (·.2))
    have hnb : (newR (toT (cutT t)) == 0) = false := by simpa using hn
    repeat refine seq ?_
    refine regn 10 hf (by decide +kernel) ?_
    refine st (mv rfl) ?_
    refine st (mv rfl) ?_
    refine st ((neq rfl rfl).eq (congrArg Value.bool (bne_self_eq_false _))) ?_
    refine st (mv rfl) ?_
    first | refine sn rfl rfl rfl ?_ | refine su rfl rfl ?_ | refine sy rfl rfl (mv rfl) ?_
    first | refine sn rfl rfl rfl ?_ | refine su rfl rfl ?_ | refine sy rfl rfl (neqP0 Tryd.underlying24 (isR rfl)) ?_
    first | refine sn rfl rfl rfl ?_ | refine su rfl rfl ?_ | refine sy rfl rfl (mv rfl) ?_
    first | refine sn rfl rfl rfl ?_ | refine su rfl rfl ?_ | refine sy rfl rfl ((eql rfl rfl).eq (congrArg Value.bool (hnb))) ?_
    first | refine sn rfl rfl rfl ?_ | refine su rfl rfl ?_ | refine sy rfl rfl ((neqB Tryd.underlying4 rfl rfl).eq (congrArg Value.bool (show (false != false) = false from rfl))) ?_
    first | refine st (pkT rfl rfl) ?_ | refine st (pkF rfl rfl) ?_ | refine st (pk rfl rfl rfl) ?_
    refine en fun a w e' hf => ?_
    replace hT := hT.ext e'
    replace e := Ext.tr e e'
    clear e'
    refine tl_nil ?_
    repeat refine seq ?_
    refine ifc hf rfl (fun h => by cases h) (fun _ => ?_)
    refine wskip ?_
    try simp only [Exit.then, Exit.inBlock, ↓reduceIte]
    replace hf := hf.keep [3, 4, 5, 6]
    dsimp only [keep, List.filterMap, look, Nat.beq, Option.map] at hf
    repeat refine seq ?_
    refine regn 2 hf (by decide +kernel) ?_
    refine st (mv rfl) ?_
    refine st ((neq rfl rfl).eq (congrArg Value.bool (show (newR (toT (cutT t)) != 0) = true from by rw [bne, hnb]; rfl))) ?_
    refine en fun a w e' hf => ?_
    replace hT := hT.ext e'
    replace e := Ext.tr e e'
    clear e'
    refine tl_nil ?_
    repeat refine seq ?_
    refine ifc hf rfl (fun _ => ?_) (fun h => by cases h)
    repeat refine seq ?_
    refine regn 1 hf (by decide +kernel) ?_
    refine st (call0 En17 (fun w he => known_spec w (hT.ext he))) ?_
    refine en fun a w e' hf => ?_
    replace hT := hT.ext e'
    replace e := Ext.tr e e'
    clear e'
    refine tl_as hf rfl (by decide) fun a hf => ?_
    refine tl_nil ?_
    refine wret ?_
    try simp only [Exit.then, Exit.inBlock]
    refine ret1 rfl hf rfl ?_
    rintro _ rfl
    exact ⟨_, rfl, e, rfl⟩
  have V := new_vals hn
  have hok := fm_ok V
  have h4 := new_hs hn
  have hnb : (newR (toT (cutT t)) == 0) = true := by rw [hn]; rfl
  replace hf := hf.upd 4 rfl (B := Dv (ptE frE) Go.Mono.G0 (some (frM (cutT t)))) (fun v h => h.elim (·.2) (fun h => absurd hn h.1))
  replace hf := hf.keep [3, 4, 5, 6]
  dsimp only [keep, List.filterMap, look, Nat.beq, Option.map] at hf
  repeat refine seq ?_
  refine regn 10 hf (by decide +kernel) ?_
  refine st (mv rfl) ?_
  refine st (mv rfl) ?_
  refine st ((neq rfl rfl).eq (congrArg Value.bool (bne_self_eq_false _))) ?_
  refine st (mv rfl) ?_
  first | refine sn rfl rfl rfl ?_ | refine su rfl rfl ?_ | refine sy rfl rfl (mv rfl) ?_
  first | refine sn rfl rfl rfl ?_ | refine su rfl rfl ?_ | refine sy rfl rfl (neqP Tryd.underlying24 (isR rfl)) ?_
  first | refine sn rfl rfl rfl ?_ | refine su rfl rfl ?_ | refine sy rfl rfl (mv rfl) ?_
  first | refine sn rfl rfl rfl ?_ | refine su rfl rfl ?_ | refine sy rfl rfl ((eql rfl rfl).eq (congrArg Value.bool (hnb))) ?_
  first | refine sn rfl rfl rfl ?_ | refine su rfl rfl ?_ | refine sy rfl rfl ((neqB Tryd.underlying4 rfl rfl).eq (congrArg Value.bool (show (true != true) = false from rfl))) ?_
  first | refine st (pkT rfl rfl) ?_ | refine st (pkF rfl rfl) ?_ | refine st (pk rfl rfl rfl) ?_
  refine en fun a w e' hf => ?_
  replace hT := hT.ext e'
  replace e := Ext.tr e e'
  clear e'
  refine tl_nil ?_
  repeat refine seq ?_
  refine ifc hf rfl (fun h => by cases h) (fun _ => ?_)
  refine wskip ?_
  try simp only [Exit.then, Exit.inBlock, ↓reduceIte]
  replace hf := hf.keep [3, 4, 5, 6]
  dsimp only [keep, List.filterMap, look, Nat.beq, Option.map] at hf
  repeat refine seq ?_
  refine regn 2 hf (by decide +kernel) ?_
  refine st (mv rfl) ?_
  refine st ((neq rfl rfl).eq (congrArg Value.bool (show (newR (toT (cutT t)) != 0) = false from by rw [bne, hnb]; rfl))) ?_
  refine en fun a w e' hf => ?_
  replace hT := hT.ext e'
  replace e := Ext.tr e e'
  clear e'
  refine tl_nil ?_
  repeat refine seq ?_
  refine ifc hf rfl (fun h => by cases h) (fun _ => ?_)
  refine wskip ?_
  try simp only [Exit.then, Exit.inBlock, ↓reduceIte]
  replace hf := hf.keep [3, 4]
  dsimp only [keep, List.filterMap, look, Nat.beq, Option.map] at hf
  obtain ⟨xs, hxs⟩ : ∃ xs, xs = toT (cutT t) := ⟨_, rfl⟩
  have hun := union_ids (cutT t)
  have hrt := root_fm (cutT t)
  have hadh : ∀ {i : Nat}, i < (cutT t).length → _ := fun {i} hi => adh_shared (i := i) V hi
  rw [← hxs] at V hok hf htl h4 hun hrt
  simp only [← hxs] at hadh
  have hfl : (frM (cutT t)).1.length ≤ 4096 := by show (cutT t).length ≤ 4096; omega
  have hfn := frM_len (cutT t)
  have hf1 : (frM (cutT t)).1 = cutT t := rfl
  have hsl : ∀ b ∈ xs, b.2.length ≤ 4096 := fun b hb => by
    obtain ⟨i, hi⟩ := List.mem_iff_getElem?.1 hb
    have hlt := (List.getElem?_eq_some_iff.1 hi).1
    rw [up_get hlt] at hi
    cases hi
    have := h4 i hlt
    show (hs xs i).length ≤ 4096
    omega
  have hil : (idsR xs).length ≤ 4096 := by
    have := idsTo_len h4 xs.length (Nat.le_refl _)
    rw [List.take_length] at this
    show (xs.foldl (fun out b => b.2.foldl withL out) []).length ≤ 4096
    omega
  repeat refine seq ?_
  refine regn 28 hf (by decide +kernel) ?_
  refine st (mv rfl) ?_
  refine st (call1 En25 rfl (fun v w he h => flen_spec _ v w h hfl)) ?_
  refine st (mv rfl) ?_
  refine st (lenD Tryd.underlying26 (isR rfl)) ?_
  refine st ((neq rfl rfl).eq (congrArg Value.bool (show (((((frM (cutT t)).1.length : Nat) : Int) != ((xs.length : Nat) : Int)) = false) from by rw [hf1, htl]; exact bne_self_eq_false _))) ?_
  refine st (mv rfl) ?_
  first | refine sn rfl rfl rfl ?_ | refine su rfl rfl ?_ | refine sy rfl rfl (mv rfl) ?_
  first | refine sn rfl rfl rfl ?_ | refine su rfl rfl ?_ | refine sy rfl rfl ((call1 En26 rfl (fun v w he h => froot_spec _ v w h hfl)).eq (congrArg (Value.int .i64) hrt)) ?_
  first | refine sn rfl rfl rfl ?_ | refine su rfl rfl ?_ | refine sy rfl rfl (mv rfl) ?_
  first | refine sn rfl rfl rfl ?_ | refine su rfl rfl ?_ | refine sy rfl rfl (call1 En34 rfl (fun v w he h => rootR_spec xs v w h (by omega))) ?_
  first | refine sn rfl rfl rfl ?_ | refine su rfl rfl ?_ | refine sy rfl rfl ((neq rfl rfl).eq (congrArg Value.bool (bne_self_eq_false _))) ?_
  first | refine st (pkT rfl rfl) ?_ | refine st (pkF rfl rfl) ?_ | refine st (pk rfl rfl rfl) ?_
  refine st (mv rfl) ?_
  first | refine sn rfl rfl rfl ?_ | refine su rfl rfl ?_ | refine sy rfl rfl (mv rfl) ?_
  first | refine sn rfl rfl rfl ?_ | refine su rfl rfl ?_ | refine sy rfl rfl (call1 (A := Dv treeE Go.Mono.G0 (cutT t)) En36 rfl (fun v w he h => postG (G := Go.Mono.G0) (fbags_spec (frM (cutT t)) v w h hfl) hg0)) ?_
  first | refine sn rfl rfl rfl ?_ | refine su rfl rfl ?_ | refine sy rfl rfl (call1 (A := Dv rtE Go.Mono.G0 xs) En31 rfl (fun v w he h => by rw [hxs]; exact toT_spec (cutT t) v w h hg0 (by omega))) ?_
  first | refine sn rfl rfl rfl ?_ | refine su rfl rfl ?_ | refine sy rfl rfl (mv rfl) ?_
  first | refine sn rfl rfl rfl ?_ | refine su rfl rfl ?_ | refine sy rfl rfl ((call2 En35 rfl rfl (fun v u w he h h' => sameT_spec xs xs v u w h h' (by omega) (by omega) hsl hsl)).eq (congrArg Value.bool (decide_eq_true ⟨rfl, fun i _ => ⟨rfl, cmpL_self _⟩⟩))) ?_
  first | refine sn rfl rfl rfl ?_ | refine su rfl rfl ?_ | refine sy rfl rfl (notp rfl) ?_
  first | refine st (pkT rfl rfl) ?_ | refine st (pkF rfl rfl) ?_ | refine st (pk rfl rfl rfl) ?_
  refine st (mv rfl) ?_
  first | refine sn rfl rfl rfl ?_ | refine su rfl rfl ?_ | refine sy rfl rfl (mv rfl) ?_
  first | refine sn rfl rfl rfl ?_ | refine su rfl rfl ?_ | refine sy rfl rfl ((call1 En37 rfl (fun v w he h => fverts_spec _ v w h hfl)).eq (congrArg setV hun)) ?_
  first | refine sn rfl rfl rfl ?_ | refine su rfl rfl ?_ | refine sy rfl rfl (mv rfl) ?_
  first | refine sn rfl rfl rfl ?_ | refine su rfl rfl ?_ | refine sy rfl rfl (call1 En39 rfl (fun v w he h => idsR_spec xs v w h hg0 (by omega) h4)) ?_
  first | refine sn rfl rfl rfl ?_ | refine su rfl rfl ?_ | refine sy rfl rfl (call1 En38 rfl (fun v w he h => from_spec _ v w h hil)) ?_
  first | refine sn rfl rfl rfl ?_ | refine su rfl rfl ?_ | refine sy rfl rfl ((neqS Tryd.underlying37 Tryd.underlying35 T35 (by kernel_rfl) rfl rfl).eq (congrArg Value.bool (show (!((idsR xs).foldl ins 0 == (idsR xs).foldl ins 0)) = false from by rw [beq_self_eq_true]; rfl))) ?_
  first | refine st (pkT rfl rfl) ?_ | refine st (pkF rfl rfl) ?_ | refine st (pk rfl rfl rfl) ?_
  refine en fun a w e' hf => ?_
  replace hT := hT.ext e'
  replace e := Ext.tr e e'
  clear e'
  refine tl_nil ?_
  repeat refine seq ?_
  refine ifc hf rfl (fun h => by cases h) (fun _ => ?_)
  refine wskip ?_
  try simp only [Exit.then, Exit.inBlock, ↓reduceIte]
  replace hf := hf.keep [3, 4]
  dsimp only [keep, List.filterMap, look, Nat.beq, Option.map] at hf
  repeat refine seq ?_
  refine regn0 ?_
  refine tl_as hf rfl (by decide) fun a hf => ?_
  refine tl_nil ?_
  replace hf := hf.keep [3, 4, 7]
  dsimp only [keep, List.filterMap, look, Nat.beq, Option.map] at hf
  repeat refine seq ?_
  refine blk (loopN (fun r0 a w => ∃ (k : Nat) , r0 = xs.length - k ∧ k ≤ xs.length ∧ Fr 118 a w [(3, Dv rtE Go.Mono.G0 xs), (4, Dv (ptE frE) Go.Mono.G0 (some (frM (cutT t)))), (7, E (I k))] ∧ Ext W w ∧ Tab w) xs.length ⟨0, rfl, by omega, hf, e, hT⟩ ?_)
  clear hf e; try clear hT
  rintro r0 a w ⟨k, rfl, hk, hf, e, hT⟩
  repeat refine seq ?_
  refine regn 4 hf (by decide +kernel) ?_
  refine st (mv rfl) ?_
  refine st (mv rfl) ?_
  refine st (lenD Tryd.underlying26 (isR rfl)) ?_
  refine st (lss rfl rfl) ?_
  refine en fun a w e' hf => ?_
  replace hT := hT.ext e'
  replace e := Ext.tr e e'
  clear e'
  refine tl_nil ?_
  repeat refine seq ?_
  refine ifc hf rfl (fun hc => wskip ?_) (fun hc => wexit ?_)
  rotate_left
  rotate_left
  · have hlt : k < xs.length := by have := of_decide_eq_true hc; (try dsimp only at this); omega
    clear hc
    replace hf := hf.keep [3, 4, 7]
    dsimp only [keep, List.filterMap, look, Nat.beq, Option.map] at hf
    repeat refine seq ?_
    refine blk ?_
    have hlc : k < (cutT t).length := by omega
    have hx := up_get hlt
    have hin : inT (frM (cutT t)).1 (k : Int) = true := by show inT (cutT t) _ = true; simp [inT, hlc]
    have hbg : bagF (frM (cutT t)) (k : Int) = (bg (cutT t) k).2 := by rw [bagF, hin, Int.toNat_natCast]; rfl
    have hpr : parF (frM (cutT t)) (k : Int) = up xs k := by rw [parF, hin, Int.toNat_natCast, hxs, toT_up hlc]; rfl
    have hnd := fm_nd hlc
    rw [← hxs] at hnd
    have hh : toL (bg (cutT t) k).2 = hs xs k := by rw [hxs, toT_hs hlc]
    have hkl := kids_len xs (k : Nat)
    have hc1 : (ofF (frM (cutT t)) (k : Int)).1.length ≤ 4096 := by rw [hnd]; show (kids xs (k : Nat)).length ≤ 4096; omega
    have hc2 : (kids xs (k : Nat)).length ≤ 4096 := by omega
    have hk4 := h4 k hlt
    have hshl : (sharedR xs k).length ≤ 4096 := by
      rw [sharedR]
      split
      · simp
      · have := List.length_filter_le (hasL (hs xs (up xs k).toNat)) (hs xs k); omega
    repeat refine seq ?_
    refine reg 51 Mix.mix hf (by decide +kernel) ?_
    refine st (mv rfl) ?_
    refine st (mv rfl) ?_
    refine st ((call2 En29 rfl rfl (fun v u w he h h' => by cases h'; exact fparent_spec _ _ _ w h)).eq (congrArg (Value.int .i64) hpr)) ?_
    refine st (mv rfl) ?_
    refine st (mv rfl) ?_
    refine st (idxD Tryd.underlying26 S60 (isR rfl) rfl (by omega) (hx)) ?_
    refine st (fldD Tryd.underlying60 rfl T3 (by decide) (Fld.fst Fld.refl) (isR rfl)) ?_
    refine st (ldI T3 (isR rfl)) ?_
    refine st ((neq rfl rfl).eq (congrArg Value.bool (bne_self_eq_false _))) ?_
    refine st (mv rfl) ?_
    first | refine sn rfl rfl rfl ?_ | refine su rfl rfl ?_ | refine sy rfl rfl (mv rfl) ?_
    first | refine sn rfl rfl rfl ?_ | refine su rfl rfl ?_ | refine sy rfl rfl (mv rfl) ?_
    first | refine sn rfl rfl rfl ?_ | refine su rfl rfl ?_ | refine sy rfl rfl ((call2 En22 rfl rfl (fun v u w he h h' => by cases h'; exact fbag_spec _ _ _ w h)).eq (congrArg setV hbg)) ?_
    first | refine sn rfl rfl rfl ?_ | refine su rfl rfl ?_ | refine sy rfl rfl ((call1 En41 rfl (fun v w he h => by cases h; exact toL_spec (G := Go.Mono.G0) _ w hg0)).dv (hh)) ?_
    first | refine sn rfl rfl rfl ?_ | refine su rfl rfl ?_ | refine sy rfl rfl (mv rfl) ?_
    first | refine sn rfl rfl rfl ?_ | refine su rfl rfl ?_ | refine sy rfl rfl (mv rfl) ?_
    first | refine sn rfl rfl rfl ?_ | refine su rfl rfl ?_ | refine sy rfl rfl (idxD Tryd.underlying26 S60 (isR rfl) rfl (by omega) (hx)) ?_
    first | refine sn rfl rfl rfl ?_ | refine su rfl rfl ?_ | refine sy rfl rfl (fldD Tryd.underlying60 rfl T57 (by decide) (Fld.snd Fld.refl rfl) (isR rfl)) ?_
    first | refine sn rfl rfl rfl ?_ | refine su rfl rfl ?_ | refine sy rfl rfl (ldD T57 (isR rfl)) ?_
    first | refine sn rfl rfl rfl ?_ | refine su rfl rfl ?_ | refine sy rfl rfl ((call2 En40 rfl rfl (fun v u w he h h' => sameL_spec _ _ _ _ w h h' (by omega) (by omega))).eq (congrArg Value.bool (show (cmpL (hs xs k) (hs xs k) == 0) = true from by rw [cmpL_self]; rfl))) ?_
    first | refine sn rfl rfl rfl ?_ | refine su rfl rfl ?_ | refine sy rfl rfl (notp rfl) ?_
    first | refine st (pkT rfl rfl) ?_ | refine st (pkF rfl rfl) ?_ | refine st (pk rfl rfl rfl) ?_
    refine st (mv rfl) ?_
    first | refine sn rfl rfl rfl ?_ | refine su rfl rfl ?_ | refine sy rfl rfl (mv rfl) ?_
    first | refine sn rfl rfl rfl ?_ | refine su rfl rfl ?_ | refine sy rfl rfl (mv rfl) ?_
    first | refine sn rfl rfl rfl ?_ | refine su rfl rfl ?_ | refine sy rfl rfl ((call2 En43 rfl rfl (fun v u w he h h' => by cases h'; exact postG (G := Go.Mono.G0) (fchildren_spec _ _ _ w h hfn hc1) hg0)).dv (show (ofF (frM (cutT t)) (k : Int)).1 = kids xs (k : Nat) from by rw [hnd]; rfl)) ?_
    first | refine sn rfl rfl rfl ?_ | refine su rfl rfl ?_ | refine sy rfl rfl (mv rfl) ?_
    first | refine sn rfl rfl rfl ?_ | refine su rfl rfl ?_ | refine sy rfl rfl (mv rfl) ?_
    first | refine sn rfl rfl rfl ?_ | refine su rfl rfl ?_ | refine sy rfl rfl (call2 En44 rfl rfl (fun v u w he h h' => by cases h'; exact kids_spec xs _ _ w h hg0 (by omega))) ?_
    first | refine sn rfl rfl rfl ?_ | refine su rfl rfl ?_ | refine sy rfl rfl ((call2 En42 rfl rfl (fun v u w he h h' => ints_spec _ _ _ _ w h h' hc2)).eq (congrArg Value.bool (decide_eq_true rfl))) ?_
    first | refine sn rfl rfl rfl ?_ | refine su rfl rfl ?_ | refine sy rfl rfl (notp rfl) ?_
    first | refine st (pkT rfl rfl) ?_ | refine st (pkF rfl rfl) ?_ | refine st (pk rfl rfl rfl) ?_
    refine st (mv rfl) ?_
    first | refine sn rfl rfl rfl ?_ | refine su rfl rfl ?_ | refine sy rfl rfl (mv rfl) ?_
    first | refine sn rfl rfl rfl ?_ | refine su rfl rfl ?_ | refine sy rfl rfl (mv rfl) ?_
    first | refine sn rfl rfl rfl ?_ | refine su rfl rfl ?_ | refine sy rfl rfl ((call2 En24 rfl rfl (fun v u w he h h' => by cases h'; exact fdepth_spec _ _ _ w h hfn)).eq (show I _ = I (depthR xs k : Nat) from by rw [hnd]; rfl)) ?_
    first | refine sn rfl rfl rfl ?_ | refine su rfl rfl ?_ | refine sy rfl rfl (mv rfl) ?_
    first | refine sn rfl rfl rfl ?_ | refine su rfl rfl ?_ | refine sy rfl rfl (mv rfl) ?_
    first | refine sn rfl rfl rfl ?_ | refine su rfl rfl ?_ | refine sy rfl rfl (call2 En45 rfl rfl (fun v u w he h h' => by cases h'; exact depthR_spec xs _ _ w h (by omega) hok.up hlt)) ?_
    first | refine sn rfl rfl rfl ?_ | refine su rfl rfl ?_ | refine sy rfl rfl ((neq rfl rfl).eq (congrArg Value.bool (bne_self_eq_false _))) ?_
    first | refine st (pkT rfl rfl) ?_ | refine st (pkF rfl rfl) ?_ | refine st (pk rfl rfl rfl) ?_
    refine st (mv rfl) ?_
    first | refine sn rfl rfl rfl ?_ | refine su rfl rfl ?_ | refine sy rfl rfl (mv rfl) ?_
    first | refine sn rfl rfl rfl ?_ | refine su rfl rfl ?_ | refine sy rfl rfl (mv rfl) ?_
    first | refine sn rfl rfl rfl ?_ | refine su rfl rfl ?_ | refine sy rfl rfl ((call2 En46 rfl rfl (fun v u w he h h' => by cases h'; exact fadh_spec _ _ _ w h)).eq (congrArg setV (hadh hlc))) ?_
    first | refine sn rfl rfl rfl ?_ | refine su rfl rfl ?_ | refine sy rfl rfl (mv rfl) ?_
    first | refine sn rfl rfl rfl ?_ | refine su rfl rfl ?_ | refine sy rfl rfl (mv rfl) ?_
    first | refine sn rfl rfl rfl ?_ | refine su rfl rfl ?_ | refine sy rfl rfl (call2 En47 rfl rfl (fun v u w he h h' => by cases h'; exact sharedR_spec xs _ _ w h hg0 hok hlt)) ?_
    first | refine sn rfl rfl rfl ?_ | refine su rfl rfl ?_ | refine sy rfl rfl (call1 En38 rfl (fun v w he h => from_spec _ v w h hshl)) ?_
    first | refine sn rfl rfl rfl ?_ | refine su rfl rfl ?_ | refine sy rfl rfl ((neqS Tryd.underlying37 Tryd.underlying35 T35 (by kernel_rfl) rfl rfl).eq (congrArg Value.bool (show (!((sharedR xs k).foldl ins 0 == (sharedR xs k).foldl ins 0)) = false from by rw [beq_self_eq_true]; rfl))) ?_
    first | refine st (pkT rfl rfl) ?_ | refine st (pkF rfl rfl) ?_ | refine st (pk rfl rfl rfl) ?_
    refine en fun a w e' hf => ?_
    replace hT := hT.ext e'
    replace e := Ext.tr e e'
    clear e'
    refine tl_nil ?_
    repeat refine seq ?_
    refine ifc hf rfl (fun h => by cases h) (fun _ => ?_)
    refine wskip ?_
    try simp only [Exit.then, Exit.inBlock, ↓reduceIte]
    try simp only [Exit.then, Exit.inBlock, ↓reduceIte]
    repeat refine seq ?_
    refine regn 2 hf (by decide +kernel) ?_
    refine st (mv rfl) ?_
    refine st ((add rfl rfl (by omega)).eq (congrArg (Value.int .i64) (show (k : Int) + 1 = ((k + 1 : Nat) : Int) from rfl))) ?_
    refine en fun a w e' hf => ?_
    replace hT := hT.ext e'
    replace e := Ext.tr e e'
    clear e'
    refine tl_as hf rfl (by decide) fun a hf => ?_
    refine tl_nil ?_
    replace hf := hf.keep [3, 4, 7]
    dsimp only [keep, List.filterMap, look, Nat.beq, Option.map] at hf
    refine ⟨_, ?_, k + 1, rfl, by omega, hf, e, ?_⟩
    · omega
    exact hT
  · obtain rfl : k = xs.length := by have := of_decide_eq_false hc; (try dsimp only at this); omega
    clear hc
    simp only [Exit.then, Exit.inBlock, ↓reduceIte]
    repeat refine seq ?_
    refine regn 1 hf (by decide +kernel) ?_
    refine st (call0 En17 (fun w he => known_spec w (hT.ext he))) ?_
    refine en fun a w e' hf => ?_
    replace hT := hT.ext e'
    replace e := Ext.tr e e'
    clear e'
    refine tl_as hf rfl (by decide) fun a hf => ?_
    refine tl_nil ?_
    refine wret ?_
    try simp only [Exit.then, Exit.inBlock]
    refine ret1 rfl hf rfl ?_
    rintro _ rfl
    exact ⟨_, rfl, e, rfl⟩
end Go.Mono
