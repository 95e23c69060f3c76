/-
  XLawEd.
  No condition.
-/
import Derived.Test.YtlfbebmhghpkaaaGreatDoorHE
import Derived.Test.YtlfbebmhghpkaaaGreatDoorHF
import Derived.Test.YtlfbebmhghpkaaaGreatDoorHG
set_option linter.unusedVariables false
set_option linter.unusedSimpArgs false
namespace Go.Mono
open Go Go.Proofs Go.RowKit Go.Gr
theorem cyDv {G : Nat → Prop} {o : Option (List Nat)} {v : Value} {w : World} (h : (CyA G o).p v w) : (Dv (slE intE) G (natE (o.getD []))).p v w := by
 cases o with
 | none => rw [show v = .slice none 0 0 from h]; exact Dv.nil
 | some out => exact h.2
theorem bEd3 (u v : Int) : Tryz.prog.built 46 [(0, .int .i64 2), (1, .int .i64 u), (2, .int .i64 v)] = some #[.int .i64 2, .int .i64 u, .int .i64 v, .int .u8 0, .int .i64 0] := by kernel_rfl
theorem apE_spec (g : GT) (u v : Int) (bg bv be n : Nat) (W : World) (hg : GrR W bg bv be n g) (hn : n < maxLen) (hu : (Lit.int .i64 u).wf = true) (hv : (Lit.int .i64 v).wf = true) :
  Calls Tryz.prog 13 #[.pointer (some ⟨bg, 0, none⟩), dtV (eD u v)] W fun en w' => en = .returned (I (wrongM g (eD u v))) ∧ Chg (fun b => b = bv ∨ b = be) W w' ∧ GrR w' bg bv be (n + 1) (apS g u v) :=
 (apply_spec g (eD u v) bg bv be n W hg hn (.inr (.inl rfl)) hu hv ⟨(by show (Lit.int .u8 0).wf = true; decide), (by show (Lit.int .i64 0).wf = true; decide)⟩).mono fun en w' ⟨k1, k2, k3⟩ => ⟨k1, k2, k3.perm (apP_perm g u v).1 (apP_perm g u v).2⟩
theorem lawEd_spec {G : Nat → Prop} (g : GT) (u v : Int) (gv0 : Value) (W : World) (hT : Tab W) (h : (Dv gtE G g).p gv0 W) (hV : ∀ x ∈ g.1, 0 ≤ x.2.1 ∧ x.2.1 < 256) (hE : ∀ x ∈ g.2, 0 ≤ x.2.1 ∧ x.2.1 < 256) (hu : (Lit.int .i64 u).wf = true) (hv : (Lit.int .i64 v).wf = true) :
  Calls Tryz.prog 4 #[gv0, I u, I v] W (Post (E (B true)) W) := by
 have hT0 := hT.lt
 obtain ⟨u1, u2, rfl, h1, h2⟩ := Dv.gt.1 (Dv.weak (G' := Go.Mono.G0) h fun b _ hb => hb.elim)
 have hg0 : (Dv gtE Go.Mono.G0 g).p (.agg #[u1, u2]) W := Dv.gt.2 ⟨_, _, rfl, h1, h2⟩
 refine enter (args := [.agg #[u1, u2], I u, I v]) (As := [E (.agg #[u1, u2]), E (I u), E (I v)]) Tryz.func4 rfl Tryz.ntmps4 (Nat.le_of_ble_eq_true rfl) ?_ (fun a hf => ?_) (Nat.le_of_ble_eq_true rfl)
 rotate_left
 dsimp only [params, Nat.reduceAdd] at hf
 rotate_right
 ·exact arg3 rfl rfl rfl
 have e := Ext.rfl' W
 repeat refine seq ?_
 refine regn0 ?_
 refine tl_box hf rfl (by decide) fun a b3 w v3 hv3 e' hb3 hs3 B3 hf => ?_
 have hle3 := Nat.le_trans e.size (Nat.le_of_eq hb3.symm)
 replace hT := hT.ext e'
 replace e := e.tr e'
 refine tl_as hf rfl (by decide) fun a hf => ?_
 refine tl_nil ?_
 cases hv3
 have e1 := e
 repeat refine seq ?_
 refine regn 5 hf (by decide +kernel) ?_
 refine st ((ldW T25 rfl B3 rfl).eq ((rfl : _ = Value.agg #[u1, u2]))) ?_
 refine st (call2 (A := Tup [FrA g 8, Dv gtE Go.Mono.G0 (frW g 8).1]) En5 rfl rfl (fun v u w he k1 k2 => by cases k1; cases k2; exact from23_spec g 8 _ w (VA.st _ _ _ _ (Ext.tr e1 he) hg0) (by omega) hV hE)) ?_
 refine st (mv rfl) ?_
 refine st (ext_ rfl rfl) ?_
 refine st (ext_ rfl rfl) ?_
 refine en fun a w e' hf => ?_
 replace hT := hT.ext e'
 replace e := e.tr e'
 replace B3 := B3.ext e'
 clear e'
 obtain ⟨z, hz, hf⟩ := hf.opn 25 rfl
 obtain ⟨z1, z2, rfl, hz1, hz2⟩ := Dv.gt.1 hz
 have hzo : (#[z1, z2] : Array Value).all (·.oneCell') = true := one2 (slOne hz1) (slOne hz2)
 obtain ⟨gv, hgv, hf⟩ := hf.opn 24 rfl
 obtain ⟨W1, hW1⟩ : ∃ W1, W1 = w := ⟨_, rfl⟩
 have e2 : Ext W1 w := by rw [hW1]; exact Ext.rfl' _
 replace hgv : (FrA g 8).p gv W1 := by rw [hW1]; exact hgv
 have hzz : (Dv gtE Go.Mono.G0 (frW g 8).1).p (.agg #[z1, z2]) W1 := by rw [hW1]; exact hz
 have hWW : W1.heap.size ≤ w.heap.size := e2.size
 have hW0 : W.heap.size ≤ W1.heap.size := by rw [hW1]; exact e.size
 clear hW1 hz hz1 hz2 B3 e1
 replace hf := hf.kp [1, 2, 24, 25]
 refine tl_alloc I25 hf (by decide) fun a b8 w e' hb8 hs8 B8 hf => ?_
 have hle8 := Nat.le_trans e.size (Nat.le_of_eq hb8.symm)
 replace hT := hT.ext e'
 replace e2 := Ext.tr e2 e'
 replace e := e.tr e'
 clear e'
 have n6 : W1.heap.size ≤ b8 := by omega
 refine tl_as hf rfl (by decide) fun a hf => ?_
 refine tl_stW T25 hf rfl rfl hzo B8 rfl rfl fun w hg hsz B8 hf => ?_
 replace e := e.gr hg (by omega); replace hT := hT.gr hg (by omega); replace e2 := e2.gr hg n6; clear hg
 refine tl_nil ?_
 replace hf := hf.kp [1, 2, 7, 8]
 cases hfr' : (frW g 8).2 with
 | false =>
  obtain rfl := hgv.2 hfr'
  repeat refine seq ?_
  refine regn 2 hf (by decide +kernel) ?_
  refine st (mv rfl) ?_
  refine st (eqlPP Tryz.underlying27 rfl rfl (.inl rfl)) ?_
  refine en fun a w e' hf => ?_
  replace hT := hT.ext e'
  replace e2 := Ext.tr e2 e'
  replace e := e.tr e'
  replace B8 := B8.ext e'
  refine tl_nil ?_
  repeat refine seq ?_
  refine ifc hf rfl (fun _ => ?_) (fun h => by cases h)
  repeat refine seq ?_
  refine regn 1 hf (by decide +kernel) ?_
  refine st (call0 (A := E (B true)) En6 (fun w he => known23_spec w (hT.ext he))) ?_
  refine en fun a w e' hf => ?_
  replace hT := hT.ext e'
  replace e2 := Ext.tr e2 e'
  replace e := e.tr e'
  replace B8 := B8.ext e'
  refine tl_as hf rfl (by decide) fun a hf => ?_
  refine tl_nil ?_
  refine wret ?_
  try simp only [Exit.then, Exit.inBlock]
  refine ret1 rfl hf rfl ?_
  rintro _ rfl
  exact ⟨_, rfl, e, rfl⟩
 | true =>
  obtain ⟨ok, l1, l2⟩ := twOk hfr' hV hE (by omega)
  have hgd := hgv.1 hfr'
  have gs1 := ok.sv
  have gs2 := ok.se
  have hl1 : (frW g 8).1.1.length ≤ 12 := by omega
  have hcv := Nat.le_trans (card_vset (frW g 8).1) hl1
  have few := frW_few hfr' (by omega)
  generalize (frW g 8).1 = gg at ok l1 l2 hgd gs1 gs2 hl1 hcv hzz few
  repeat refine seq ?_
  refine regn 2 hf (by decide +kernel) ?_
  refine st (mv rfl) ?_
  refine st (eqlP Tryz.underlying27 (isE rfl (VA.st _ _ _ _ e2 hgd))) ?_
  refine en fun a w e' hf => ?_
  replace hT := hT.ext e'
  replace e2 := Ext.tr e2 e'
  replace e := e.tr e'
  replace B8 := B8.ext e'
  refine tl_nil ?_
  repeat refine seq ?_
  refine ifc hf rfl (fun h => by cases h) (fun _ => ?_)
  refine wskip ?_
  try simp only [Exit.then, Exit.inBlock, ↓reduceIte]
  obtain ⟨z1', z2', hze, hzV, hzE⟩ := Dv.gt.1 hzz
  obtain ⟨rfl, rfl⟩ : z1 = z1' ∧ z2 = z2' := by cases hze; exact ⟨rfl, rfl⟩
  have l8 : gg.1.length ≤ 8 := by omega
  obtain ⟨n, hn⟩ : ∃ n, n = twG gg := ⟨_, rfl⟩
  obtain ⟨o, ho⟩ : ∃ o, o = shcF (nbA gg) (vset gg.1) (esN gg) := ⟨_, rfl⟩
  have hsh := tw_shc ok hl1
  have hnn := tw_none ok hl1
  have hlo : -1 ≤ n := by rw [hn]; exact tw_lo gg
  have hhi : n ≤ 8 := by rw [hn]; have := tw_most ok hl1; omega
  rw [← hn] at hnn
  rw [← hn, ← ho] at hsh
  have hb8 : (decide (n ≤ 1) != ((((natE (o.getD [])).length : Nat) : Int) == 0)) = false := by
   cases o with
   | none => simp [hsh.1 rfl, natE]
   | some out =>
    have h1 : ¬n ≤ 1 := fun h => by cases hsh.2 h
    have h2 : out ≠ [] := shc_len ho.symm
    have h3 : out.length ≠ 0 := fun h => h2 (List.eq_nil_of_length_eq_zero h)
    simp [h1, natE, h2]
  have hb17 : (decide (n ≤ 0) != (((gg.2.length : Nat) : Int) == 0)) = false := by
   by_cases h : n ≤ 0
   ·have := hnn.1 h
    simp [h, this]
   ·have h2 : gg.2 ≠ [] := fun hh => h (hnn.2 hh)
    simp [h, h2]
  replace hf := hf.kp [1, 2, 7, 8]
  have e4 := e2
  repeat refine seq ?_
  refine regn 6 hf (by decide +kernel) ?_
  refine st (mv rfl) ?_
  refine st (call1 (A := WidA gg) En7 rfl (fun v w he k => by cases k; exact wid_spec gg ok hl1 (by omega) (by omega) gv w (hT.ext he) (VA.st _ _ _ _ (Ext.tr e4 he) hgd))) ?_
  refine st (mv rfl) ?_
  refine st (ext_ rfl rfl) ?_
  refine st (ext_ rfl rfl) ?_
  refine st (ext_ rfl rfl) ?_
  refine en fun a w e' hf => ?_
  replace hT := hT.ext e'
  replace e2 := Ext.tr e2 e'
  replace e := e.tr e'
  replace B8 := B8.ext e'
  refine tl_as hf rfl (by decide) fun a hf => ?_
  refine tl_as hf rfl (by decide) fun a hf => ?_
  refine tl_as hf rfl (by decide) fun a hf => ?_
  refine tl_nil ?_
  replace hf := hf.upd 9 rfl (B := E (I n)) (fun v h => by rw [hn]; exact h)
  replace hf := hf.kp [1, 2, 7, 8, 9, 11]
  have e5 := e2
  repeat refine seq ?_
  refine regn 20 hf (by decide +kernel) ?_
  refine st (mv rfl) ?_
  refine st ((neq rfl rfl).eq (congrArg Value.bool (show ((0 : Int) != 0) = false from rfl))) ?_
  refine st (mv rfl) ?_
  refine sy rfl rfl (mv rfl) ?_
  refine sy rfl rfl (leq rfl rfl) ?_
  refine sy rfl rfl (mv rfl) ?_
  refine sy rfl rfl (call1 (A := CyA Go.Mono.G0 o) En11 rfl (fun v w he k => by cases k; rw [ho]; exact scyc_spec gg ok gv w (hT.ext he) (VA.st _ _ _ _ (Ext.tr e5 he) hgd) (by omega) (by omega) (by omega))) ?_
  refine sy rfl rfl (lenD Tryz.underlying26 ⟨_, rfl, fun v w _ h => cyDv h⟩) ?_
  refine sy rfl rfl (eql rfl rfl) ?_
  refine sy rfl rfl ((neqB Tryz.underlying4 rfl rfl).eq (congrArg Value.bool (hb8))) ?_
  refine st (pkF rfl rfl) ?_
  refine st (mv rfl) ?_
  refine sy rfl rfl (mv rfl) ?_
  refine sy rfl rfl (leq rfl rfl) ?_
  refine sy rfl rfl (fldA Tryz.underlying25 rfl T23 (by decide) rfl) ?_
  refine sy rfl rfl (ld1 (v := z2) T23 rfl B8 rfl) ?_
  refine sy rfl rfl (lenD Tryz.underlying23 (isE rfl (VA.st _ _ _ _ e2 hzE))) ?_
  refine sy rfl rfl (eql rfl rfl) ?_
  refine sy rfl rfl ((neqB Tryz.underlying4 rfl rfl).eq (congrArg Value.bool (hb17))) ?_
  refine st (pkF rfl rfl) ?_
  refine en fun a w e' hf => ?_
  replace hT := hT.ext e'
  replace e2 := Ext.tr e2 e'
  replace e := e.tr e'
  replace B8 := B8.ext e'
  refine tl_nil ?_
  repeat refine seq ?_
  refine ifc hf rfl (fun h => by cases h) (fun _ => ?_)
  refine wskip ?_
  try simp only [Exit.then, Exit.inBlock, ↓reduceIte]
  replace hf := hf.kp [1, 2, 7, 8, 9]
  clear hb8 hb17 hsh hnn ho e4 e5
  have hNc : W1.heap.size ≤ w.heap.size := e2.size
  repeat refine seq ?_
  refine regn 1 hf (by decide +kernel) ?_
  refine st (mv rfl) ?_
  refine en fun a w e' hf => ?_
  replace hT := hT.ext e'
  replace e2 := Ext.tr e2 e'
  replace e := e.tr e'
  replace B8 := B8.ext e'
  clear e'
  refine tl_callE (S := fun b => False) (F := fun z w' => ∃ bg bv be, z = ptr bg ∧ b8 ≠ bg ∧ b8 ≠ bv ∧ b8 ≠ be ∧ W1.heap.size ≤ bg ∧ W1.heap.size ≤ bv ∧ W1.heap.size ≤ be ∧ GrR w' bg bv be 2000 gg) hf (by decide) En12 ?_ fun a z w hc hF hf => ?_
  ·have e55 : a.eval (.tmp 55) = gv := hf.opd (.tmp 55) _ rfl
   simp only [List.map_toArray, List.map_cons, List.map_nil, e55]
   have l8' := B8.lt
   have hsz2 := e2.size
   exact (clone_spec gg gv _ (VA.st _ _ _ _ e2 hgd)).mono fun en w' ⟨bg, bv, be, k1, k2, k3, k4, k5, k6⟩ => ⟨_, k1, k2.chg _, bg, bv, be, rfl, by omega, by omega, by omega, by omega, by omega, by omega, k6⟩
  obtain ⟨bg, bv, be, rfl, d1, d2, d3, f1, f2, f3, GK⟩ := hF
  have hT1 : 0 < W1.heap.size := by omega
  replace e := e.ch hc (fun b hb => hb.elim); replace e2 := e2.ch hc (fun b hb => hb.elim); replace hT := hT.ch hc (fun hb => hb); replace B8 := B8.ch hc (fun hb => hb)
  clear hc hNc
  refine tl_as hf rfl (by decide) fun a hf => ?_
  refine tl_nil ?_
  replace hf := hf.kp [1, 2, 8, 9, 12]
  repeat refine seq ?_
  refine regn 4 hf (by decide +kernel) ?_
  refine st (mv rfl) ?_
  refine st (mv rfl) ?_
  refine st (mv rfl) ?_
  refine st (bldV [(0, _), (1, _), (2, _)] rfl (bEd3 u v)) ?_
  refine en fun a w e' hf => ?_
  replace hT := hT.ext e'
  replace e2 := Ext.tr e2 e'
  replace GK := GK.ext e'
  replace e := e.tr e'
  replace B8 := B8.ext e'
  clear e'
  refine tl_callE (S := fun b => b = bv ∨ b = be) (F := fun z w' => z = I (wrongM gg (eD u v)) ∧ GrR w' bg bv be 2001 (apS gg u v)) hf (by decide) En13 ?_ fun a z w hc hF hf => ?_
  ·have e57 : a.eval (.tmp 57) = ptr bg := hf.opd (.tmp 57) _ rfl
   have e60 : a.eval (.tmp 60) = dtV (eD u v) := hf.opd (.tmp 60) _ rfl
   simp only [List.map_toArray, List.map_cons, List.map_nil, e57, e60]
   exact (apE_spec gg u v bg bv be 2000 _ GK (by decide) hu hv).mono fun en w' ⟨k1, k2, k3⟩ => ⟨_, k1, k2, rfl, k3⟩
  obtain ⟨rfl, GK1⟩ := hF
  clear GK
  have GK := GK1
  clear GK1
  replace e := e.ch hc (fun b hb => by omega); replace e2 := e2.ch hc (fun b hb => by omega); replace hT := hT.ch hc (fun hb => by omega); replace B8 := B8.ch hc (fun hb => by omega)
  clear hc
  obtain ⟨h, hh⟩ : ∃ h, h = apS gg u v := ⟨_, rfl⟩
  have hok : Gr.Ok h := by rw [hh]; exact apS_ok ok u v
  have hV : h.1 = gg.1 := by rw [hh]; exact apS_V gg u v
  have hE : h.2.length ≤ 141 := by rw [hh]; have := apS_len gg u v; omega
  have htw : wrongM gg (eD u v) = 0 → n ≤ twG h ∧ twG h ≤ n + 1 := fun hw => by rw [hh, hn]; exact tw_apS ok hl1 hw
  rw [← hh] at GK
  clear hh
  replace hf := hf.kp [1, 2, 8, 9, 12, 61]
  refine tl_op hf (by decide) (eql rfl rfl) fun a w e' hf => ?_
  replace hT := hT.ext e'
  replace e2 := Ext.tr e2 e'
  replace GK := GK.ext e'
  replace e := e.tr e'
  replace B8 := B8.ext e'
  refine tl_nil ?_
  replace hf := hf.kp [1, 2, 8, 9, 12, 62]
  repeat refine seq ?_
  refine cut (J := fun a w => Fr 128 a w [(8, E (ptr b8)), (12, E (ptr bg))] ∧ Ext W w ∧ Tab w ∧ Ext W1 w ∧ Blk w b8 #[z1, z2] 25 ∧ GrR w bg bv be 2001 h) ?_ (fun a w hJ => ?_)
  ·repeat refine seq ?_
   refine ifc hf rfl (fun hb => ?_) (fun hb => ?_)
   ·have hw : wrongM gg (eD u v) = 0 := by simpa using hb
    obtain ⟨m1, m2⟩ := htw hw
    have hlh : h.1.length ≤ 12 := by rw [hV]; exact hl1
    obtain ⟨m, hm⟩ : ∃ m, m = twG h := ⟨_, rfl⟩
    rw [← hm] at m1 m2
    have GK9 := GK
    repeat refine seq ?_
    refine regn 6 hf (by decide +kernel) ?_
    refine st (mv rfl) ?_
    refine st (call1 (A := WidA h) (B := E (ptr bg)) En7 rfl (fun v w he k => by cases k; exact wid_spec h hok hlh (by omega) (show 2001 ≤ 1000000 by decide) _ w (hT.ext he) ((GK9.ext he).dv (Nat.le_refl _) (G := Go.Mono.G0) id id id))) ?_
    refine st (mv rfl) ?_
    refine st (ext_ rfl rfl) ?_
    refine st (ext_ rfl rfl) ?_
    refine st (ext_ rfl rfl) ?_
    refine en fun a w e' hf => ?_
    replace hT := hT.ext e'
    replace e2 := Ext.tr e2 e'
    replace GK := GK.ext e'
    replace e := e.tr e'
    replace B8 := B8.ext e'
    refine tl_as hf rfl (by decide) fun a hf => ?_
    refine tl_as hf rfl (by decide) fun a hf => ?_
    refine tl_as hf rfl (by decide) fun a hf => ?_
    refine tl_nil ?_
    replace hf := hf.upd 13 rfl (B := E (I m)) (fun v h => by rw [hm]; exact h)
    replace hf := hf.kp [8, 9, 12, 13, 15]
    repeat refine seq ?_
    refine regn 13 hf (by decide +kernel) ?_
    refine st (mv rfl) ?_
    refine st ((neq rfl rfl).eq (congrArg Value.bool (show ((0 : Int) != 0) = false from rfl))) ?_
    refine st (mv rfl) ?_
    refine sy rfl rfl (mv rfl) ?_
    refine sy rfl rfl (mv rfl) ?_
    refine sy rfl rfl ((lss rfl rfl).eq (congrArg Value.bool (decide_eq_false (show ¬m < n by omega)))) ?_
    refine st (pkF rfl rfl) ?_
    refine st (mv rfl) ?_
    refine sy rfl rfl (mv rfl) ?_
    refine sy rfl rfl (mv rfl) ?_
    refine sy rfl rfl (add rfl rfl (by omega)) ?_
    refine sy rfl rfl ((gtr rfl rfl).eq (congrArg Value.bool (decide_eq_false (show ¬n + 1 < m by omega)))) ?_
    refine st (pkF rfl rfl) ?_
    refine en fun a w e' hf => ?_
    replace hT := hT.ext e'
    replace e2 := Ext.tr e2 e'
    replace GK := GK.ext e'
    replace e := e.tr e'
    replace B8 := B8.ext e'
    refine tl_nil ?_
    repeat refine seq ?_
    refine ifc hf rfl (fun h => by cases h) (fun _ => ?_)
    refine wskip ?_
    try simp only [Exit.then, Exit.inBlock, ↓reduceIte]
    replace hf := hf.kp [8, 12]
    exact ⟨trivial, hf, e, hT, e2, B8, GK⟩
   ·refine wskip ?_
    try simp only [Exit.then, Exit.inBlock, ↓reduceIte]
    replace hf := hf.kp [8, 12]
    exact ⟨trivial, hf, e, hT, e2, B8, GK⟩
  clear hf e hT e2 B8 GK
  obtain ⟨hf, e, hT, e2, B8, GK⟩ := hJ
  try simp only [Exit.then]
  clear htw hn hlo hhi hu hv
  have hz0 : ∀ p q, q < p → p < 0 → Adj h (vn gg p) (vn gg q) := fun p q _ h => by omega
  repeat refine seq ?_
  refine regn0 ?_
  refine tl_as hf rfl (by decide) fun a hf => ?_
  refine tl_nil ?_
  replace hf := hf.kp [8, 12, 16]
  repeat refine seq ?_
  refine blk (loopN (fun r0 a w => ∃ (i : Nat) (gx : GT) (nx : Nat), r0 = gg.1.length - i ∧ i ≤ gg.1.length ∧ Fr 128 a w [(8, E (ptr b8)), (12, E (ptr bg)), (16, E (I i))] ∧ Ext W w ∧ Tab w ∧ Ext W1 w ∧ Blk w b8 #[z1, z2] 25 ∧ GrR w bg bv be nx gx ∧ Gr.Ok gx ∧ gx.1 = gg.1 ∧ gx.2.length ≤ 141 + 8 * i ∧ nx ≤ 2001 + 8 * i ∧ (∀ p q, q < p → p < i → Adj gx (vn gg p) (vn gg q))) gg.1.length ⟨0, h,  2001, rfl, by omega, hf, e, ⟨hT, e2, B8, GK, hok, hV, hE, Nat.le_refl _, hz0⟩⟩ ?_)
  clear hf e; try clear hT; try clear e2; try clear B8; try clear GK; try clear okx; try clear hVx; try clear hEx; try clear hnx; try clear hAx
  rintro r0 a w ⟨i, gx, nx, rfl, hi, hf, e, hT, e2, B8, GK, okx, hVx, hEx, hnx, hAx⟩
  repeat refine seq ?_
  refine regn 5 hf (by decide +kernel) ?_
  refine st (mv rfl) ?_
  refine st (fldA Tryz.underlying25 rfl T22 (by decide) rfl) ?_
  refine st (ld1 (v := z1) T22 rfl B8 rfl) ?_
  refine st (lenD Tryz.underlying22 (isE rfl (VA.st _ _ _ _ e2 hzV))) ?_
  refine st (lss rfl rfl) ?_
  refine en fun a w e' hf => ?_
  replace hT := hT.ext e'
  replace e2 := Ext.tr e2 e'
  replace GK := GK.ext e'
  replace e := e.tr e'
  replace B8 := B8.ext e'
  refine tl_nil ?_
  repeat refine seq ?_
  refine ifc hf rfl (fun hc => wskip ?_) (fun hc => wexit ?_)
  rotate_left
  rotate_left
  ·have hlti : i < gg.1.length := by have := of_decide_eq_true hc; (try dsimp only at this); omega
   clear hc
   replace hf := hf.kp [8, 12, 16]
   repeat refine seq ?_
   refine blk ?_
   obtain ⟨x, hx1, hx2, hx3⟩ := vn_get ok hlti
   have hz1' : ∀ q, q < 0 → Adj gx (vn gg i) (vn gg q) := fun q hq => by omega
   repeat refine seq ?_
   refine regn0 ?_
   refine tl_as hf rfl (by decide) fun a hf => ?_
   refine tl_nil ?_
   replace hf := hf.kp [8, 12, 16, 17]
   repeat refine seq ?_
   refine blk (loopN (fun r0 a w => ∃ (k : Nat) (gy : GT) (ny : Nat), r0 = i - k ∧ k ≤ i ∧ Fr 128 a w [(8, E (ptr b8)), (12, E (ptr bg)), (16, E (I i)), (17, E (I k))] ∧ Ext W w ∧ Tab w ∧ Ext W1 w ∧ Blk w b8 #[z1, z2] 25 ∧ GrR w bg bv be ny gy ∧ Gr.Ok gy ∧ gy.1 = gg.1 ∧ gy.2.length ≤ 141 + 8 * i + k ∧ ny ≤ 2001 + 8 * i + k ∧ (∀ p q, q < p → p < i → Adj gy (vn gg p) (vn gg q)) ∧ (∀ q, q < k → Adj gy (vn gg i) (vn gg q))) i ⟨0, gx,  nx, rfl, by omega, hf, e, ⟨hT, e2, B8, GK, okx, hVx, hEx, hnx, hAx, hz1'⟩⟩ ?_)
   clear hf e; try clear hT; try clear e2; try clear B8; try clear GK; try clear oky; try clear hVy; try clear hEy; try clear hny; try clear hAy; try clear hBy
   rintro r0 a w ⟨k, gy, ny, rfl, hk, hf, e, hT, e2, B8, GK, oky, hVy, hEy, hny, hAy, hBy⟩
   repeat refine seq ?_
   refine regn 3 hf (by decide +kernel) ?_
   refine st (mv rfl) ?_
   refine st (mv rfl) ?_
   refine st (lss rfl rfl) ?_
   refine en fun a w e' hf => ?_
   replace hT := hT.ext e'
   replace e2 := Ext.tr e2 e'
   replace GK := GK.ext e'
   replace e := e.tr e'
   replace B8 := B8.ext e'
   refine tl_nil ?_
   repeat refine seq ?_
   refine ifc hf rfl (fun hc => wskip ?_) (fun hc => wexit ?_)
   rotate_left
   rotate_left
   ·have hlt : k < i := by have := of_decide_eq_true hc; (try dsimp only at this); omega
    clear hc
    replace hf := hf.kp [8, 12, 16, 17]
    repeat refine seq ?_
    refine blk ?_
    have hkg : k < gg.1.length := by omega
    obtain ⟨y, hy1, hy2, hy3⟩ := vn_get ok hkg
    have hne := vn_ne ok hlti hlt
    have hxy : eD x.1 y.1 = eD ((vn gg i : Nat) : Int) ((vn gg k : Nat) : Int) := by rw [hx2, hy2]
    have hxw : (Lit.int .i64 x.1).wf = true := by rw [hx2]; have := bit_lt hx3; exact wf64 (by omega) (by omega)
    have hyw : (Lit.int .i64 y.1).wf = true := by rw [hy2]; have := bit_lt hy3; exact wf64 (by omega) (by omega)
    have hnm : ny < maxLen := by simp only [maxLen]; omega
    repeat refine seq ?_
    refine reg 14 Mix.mix hf (by decide +kernel) ?_
    refine st (mv rfl) ?_
    refine st (fldA Tryz.underlying25 rfl T22 (by decide) rfl) ?_
    refine st (ld1 (v := z1) T22 rfl B8 rfl) ?_
    refine st (mv rfl) ?_
    refine st (idxD Tryz.underlying22 S48 (isE rfl (VA.st _ _ _ _ e2 hzV)) rfl (by omega) (hx1)) ?_
    refine st (fldD Tryz.underlying48 rfl T3 (by decide) (Fld.fst Fld.refl) (isR rfl)) ?_
    refine st (ldI T3 (isR rfl)) ?_
    refine st (fldA Tryz.underlying25 rfl T22 (by decide) rfl) ?_
    refine st (ld1 (v := z1) T22 rfl B8 rfl) ?_
    refine st (mv rfl) ?_
    refine st (idxD Tryz.underlying22 S48 (isE rfl (VA.st _ _ _ _ e2 hzV)) rfl (by omega) (hy1)) ?_
    refine st (fldD Tryz.underlying48 rfl T3 (by decide) (Fld.fst Fld.refl) (isR rfl)) ?_
    refine st (ldI T3 (isR rfl)) ?_
    refine st (bldV [(0, _), (1, _), (2, _)] rfl (bEd3 x.1 y.1)) ?_
    refine en fun a w e' hf => ?_
    replace hT := hT.ext e'
    replace e2 := Ext.tr e2 e'
    replace GK := GK.ext e'
    replace e := e.tr e'
    replace B8 := B8.ext e'
    clear e'
    replace hf := hf.kp [8, 12, 16, 17, 94, 107]
    refine tl_callE (S := fun b => b = bv ∨ b = be) (F := fun z w' => GrR w' bg bv be (ny + 1) (apS gy x.1 y.1)) hf (by decide) En13 ?_ fun a z w hc hF hf => ?_
    ·have e94 : a.eval (.tmp 94) = ptr bg := hf.opd (.tmp 94) _ rfl
     have e107 : a.eval (.tmp 107) = dtV (eD x.1 y.1) := hf.opd (.tmp 107) _ rfl
     simp only [List.map_toArray, List.map_cons, List.map_nil, e94, e107]
     exact (apE_spec gy x.1 y.1 bg bv be ny _ GK hnm hxw hyw).mono fun en w' ⟨k1, k2, k3⟩ => ⟨_, k1, k2, k3⟩
    refine tl_nil ?_
    clear GK
    have GK := hF
    clear hF
    replace e := e.ch hc (fun b hb => by omega); replace e2 := e2.ch hc (fun b hb => by omega); replace hT := hT.ch hc (fun hb => by omega); replace B8 := B8.ch hc (fun hb => by omega)
    clear hc
    replace hf := hf.kp [8, 12, 16, 17]
    have hq1 : (vset gy.1).getLsbD (vn gg i) = true := by rw [hVy]; exact hx3
    have hq2 : (vset gy.1).getLsbD (vn gg k) = true := by rw [hVy]; exact hy3
    have hjn := apS_join oky (by omega) hq1 hq2 hne
    have hln := apS_len gy x.1 y.1
    have hok2 := apS_ok oky x.1 y.1
    have hVy2 : (apS gy x.1 y.1).1 = gg.1 := by rw [apS_V]; exact hVy
    have hAy2 : ∀ p q, q < p → p < i → Adj (apS gy x.1 y.1) (vn gg p) (vn gg q) := fun p q h1 h2 => apS_mono (hAy p q h1 h2)
    have hBy2 : ∀ q, q < k + 1 → Adj (apS gy x.1 y.1) (vn gg i) (vn gg q) := fun q hq => by
     by_cases hqk : q = k
     ·subst hqk; rw [hx2, hy2]; exact hjn
     ·exact apS_mono (hBy q (by omega))
    try simp only [Exit.then, Exit.inBlock, ↓reduceIte]
    repeat refine seq ?_
    refine regn 2 hf (by decide +kernel) ?_
    refine st (mv rfl) ?_
    refine st ((add rfl rfl (by omega)).eq (congrArg (Value.int .i64) (show (k : Int) + 1 = ((k + 1 : Nat) : Int) from rfl))) ?_
    refine en fun a w e' hf => ?_
    replace hT := hT.ext e'
    replace e2 := Ext.tr e2 e'
    replace GK := GK.ext e'
    replace e := e.tr e'
    replace B8 := B8.ext e'
    refine tl_as hf rfl (by decide) fun a hf => ?_
    refine tl_nil ?_
    replace hf := hf.kp [8, 12, 16, 17]
    refine ⟨_, ?_, k + 1, apS gy x.1 y.1, ny + 1, rfl, by omega, hf, e, ?_⟩
    ·omega
    exact ⟨hT, e2, B8, GK, hok2, hVy2, by omega, by omega, hAy2, hBy2⟩
   ·obtain rfl : i = k := by have := of_decide_eq_false hc; (try dsimp only at this); omega
    clear hc
    simp only [Exit.then, Exit.inBlock, ↓reduceIte]
    replace hf := hf.kp [8, 12, 16]
    have hAx2 : ∀ p q, q < p → p < i + 1 → Adj gy (vn gg p) (vn gg q) := fun p q h1 h2 => by
     by_cases hpi : p = i
     ·subst hpi; exact hBy q h1
     ·exact hAy p q h1 (by omega)
    try simp only [Exit.then, Exit.inBlock, ↓reduceIte]
    repeat refine seq ?_
    refine regn 2 hf (by decide +kernel) ?_
    refine st (mv rfl) ?_
    refine st ((add rfl rfl (by omega)).eq (congrArg (Value.int .i64) (show (i : Int) + 1 = ((i + 1 : Nat) : Int) from rfl))) ?_
    refine en fun a w e' hf => ?_
    replace hT := hT.ext e'
    replace e2 := Ext.tr e2 e'
    replace GK := GK.ext e'
    replace e := e.tr e'
    replace B8 := B8.ext e'
    refine tl_as hf rfl (by decide) fun a hf => ?_
    refine tl_nil ?_
    replace hf := hf.kp [8, 12, 16]
    refine ⟨_, ?_, i + 1, gy, ny, rfl, by omega, hf, e, ?_⟩
    ·omega
    exact ⟨hT, e2, B8, GK, oky, hVy, by omega, by omega, hAx2⟩
  ·obtain rfl : i = gg.1.length := by have := of_decide_eq_false hc; (try dsimp only at this); omega
   clear hc
   simp only [Exit.then, Exit.inBlock, ↓reduceIte]
   have hfin := tw_all ok okx hVx hl1 hAx
   have hlx : gx.1.length ≤ 12 := by rw [hVx]; exact hl1
   have GK9 := GK
   replace hf := hf.kp [8, 12]
   repeat refine seq ?_
   refine regn 6 hf (by decide +kernel) ?_
   refine st (mv rfl) ?_
   refine st (call1 (A := WidA gx) (B := E (ptr bg)) En7 rfl (fun v w he k => by cases k; exact wid_spec gx okx hlx (by omega) (show nx ≤ 1000000 by omega) _ w (hT.ext he) ((GK9.ext he).dv (Nat.le_refl _) (G := Go.Mono.G0) id id id))) ?_
   refine st (mv rfl) ?_
   refine st (ext_ rfl rfl) ?_
   refine st (ext_ rfl rfl) ?_
   refine st (ext_ rfl rfl) ?_
   refine en fun a w e' hf => ?_
   replace hT := hT.ext e'
   replace e2 := Ext.tr e2 e'
   replace GK := GK.ext e'
   replace e := e.tr e'
   replace B8 := B8.ext e'
   refine tl_as hf rfl (by decide) fun a hf => ?_
   refine tl_as hf rfl (by decide) fun a hf => ?_
   refine tl_as hf rfl (by decide) fun a hf => ?_
   refine tl_nil ?_
   replace hf := hf.upd 18 rfl (B := E (I ((gg.1.length : Nat) - 1 : Int))) (fun v h => by rw [← hfin]; exact h)
   replace hf := hf.kp [8, 18, 20]
   repeat refine seq ?_
   refine regn 13 hf (by decide +kernel) ?_
   refine st (mv rfl) ?_
   refine st ((eql rfl rfl).eq (congrArg Value.bool (show ((0 : Int) == 0) = true from rfl))) ?_
   refine st (mv rfl) ?_
   refine sy rfl rfl (mv rfl) ?_
   refine sy rfl rfl (fldA Tryz.underlying25 rfl T22 (by decide) rfl) ?_
   refine sy rfl rfl (ld1 (v := z1) T22 rfl B8 rfl) ?_
   refine sy rfl rfl (lenD Tryz.underlying22 (isE rfl (VA.st _ _ _ _ e2 hzV))) ?_
   refine sy rfl rfl (sub rfl rfl (by omega)) ?_
   refine sy rfl rfl ((eql rfl rfl).eq (congrArg Value.bool ((beq_self_eq_true _ : ((((gg.1.length : Nat) : Int) - 1) == (((gg.1.length : Nat) : Int) - 1)) = true)))) ?_
   refine st (pkT rfl rfl) ?_
   refine st (mv rfl) ?_
   refine sy rfl rfl (call0 (A := E (B true)) En6 (fun w he => known23_spec w (hT.ext he))) ?_
   refine st (pkT rfl rfl) ?_
   refine en fun a w e' hf => ?_
   replace hT := hT.ext e'
   replace e2 := Ext.tr e2 e'
   replace GK := GK.ext e'
   replace e := e.tr e'
   replace B8 := B8.ext e'
   refine tl_as hf rfl (by decide) fun a hf => ?_
   refine tl_nil ?_
   refine wret ?_
   try simp only [Exit.then, Exit.inBlock]
   refine ret1 rfl hf rfl ?_
   rintro _ rfl
   exact ⟨_, rfl, e, rfl⟩
end Go.Mono
