/-
  Walks and plain facts, in this order: Grf, Grg, MonoT, MonoQ, MonoJ, Grh, Gri, Grj, Gre, Grk, Mad, GrOk, GrBd.
  No condition.
-/
import Derived.Test.YtlfbebmhghpkaaaGreatDoorHB
set_option linter.unusedVariables false
set_option linter.unusedSimpArgs false
namespace Go.Mono
open Go Go.Proofs Go.RowKit Go.Gr
def thV (c : Int × Int) : Value := .agg #[.int .u8 c.1, .int .i64 c.2]
def okT (c : Int × Int) : Prop := (Lit.int .u8 c.1).wf = true ∧ (Lit.int .i64 c.2).wf = true
def thD (c : Int × Int) : DataW Unit := .agg [.lit (.int .u8 c.1), .lit (.int .i64 c.2)]
theorem thV_inj {c c' : Int × Int} (h : thV c = thV c') : c = c' := by cases c; cases c'; cases h; rfl
open Classical in
noncomputable def thR (v : Value) : Option (DataW Unit × List MemPlace) := if h : ∃ c, okT c ∧ v = thV c then some (thD (Classical.choose h), []) else none
theorem thR_mk {c : Int × Int} (hc : okT c) : thR (thV c) = some (thD c, []) := by
 have h : ∃ c', okT c' ∧ thV c = thV c' := ⟨c, hc, rfl⟩
 unfold thR
 rw [dif_pos h, ← thV_inj (Classical.choose_spec h).2]
theorem thR_inv {v : Value} {y : DataW Unit × List MemPlace} (h : thR v = some y) : ∃ c, okT c ∧ v = thV c ∧ y = (thD c, []) := by
 unfold thR at h
 split at h
 ·rename_i hx; cases h; exact ⟨_, (Classical.choose_spec hx).1, (Classical.choose_spec hx).2, rfl⟩
 ·cases h
noncomputable def vKV : KV Tryz.prog Int (Int × Int) where
 k := 3
 e := 89
 kv := fun x => .int .i64 x
 kl := fun x => .int .i64 x
 ok := fun x => (Lit.int .i64 x).wf = true
 mv := thV
 dv := thD
 okv := okT
 R := thR
 K := Maps.int_keyed Tryz.underlying3
 key := fun x hx => Maps.keyOf_int_mk Tryz.underlying3 hx
 keyInv := fun v l h => by obtain ⟨x, h1, h2, h3⟩ := Maps.keyOf_int_inv Tryz.underlying3 h; exact ⟨x, h3, h1, h2⟩
 kvInj := fun x y h => by cases h; rfl
 val := fun c hc => thR_mk hc
 valInv := fun v y h => thR_inv h
 dvInj := fun c c' h => by cases c; cases c'; cases h; rfl
theorem ends_key : Tryz.prog.keyType 92 = true := by kernel_rfl
theorem ends_cells : Tryz.prog.cellsOf 92 = 2 := by kernel_rfl
theorem int_cells : Tryz.prog.cellsOf 3 = 1 := by kernel_rfl
theorem ty_size : Tryz.prog.types.size = (Tryz.prog.types.size - 1) + 1 := by kernel_rfl
theorem laidOut : laidOutB Tryz.prog = true := by kernel_rfl
theorem ends_row : (92 : TypeId) < Tryz.prog.types.size := of_decide_eq_true (by kernel_rfl)
noncomputable def tySz : Nat := Tryz.prog.types.size - 1
theorem ty_size' : Tryz.prog.types.size = tySz + 1 := ty_size
theorem ends_key2 {p q : Int} (hp : (Lit.int .i64 p).wf = true) (hq : (Lit.int .i64 q).wf = true) : keyOf Tryz.prog 92 (.agg #[.int .i64 p, .int .i64 q]) = some (.string (keyBytes [.int .i64 p, .int .i64 q])) :=
 key2 (m := tySz) Tryz.underlying92 rfl ⟨rfl, rfl, by kernel_rfl⟩ ⟨rfl, rfl, by kernel_rfl⟩ Tryz.underlying3 int_cells ends_cells ends_key ty_size' hp hq
theorem ends_inv2 {v : Value} {l : Lit} (h : keyOf Tryz.prog 92 v = some l) : ∃ p q, ((Lit.int .i64 p).wf = true ∧ (Lit.int .i64 q).wf = true) ∧ v = .agg #[.int .i64 p, .int .i64 q] ∧ l = .string (keyBytes [.int .i64 p, .int .i64 q]) :=
 key2inv (m := tySz) Tryz.underlying92 rfl ⟨rfl, rfl, by kernel_rfl⟩ ⟨rfl, rfl, by kernel_rfl⟩ Tryz.underlying3 int_cells ends_cells ty_size' h
theorem ends_at : Tryz.prog.keyTypeAt 2 92 = true := by kernel_rfl
theorem ends_law : WideMaps.KeyLaw Tryz.prog 92 := by
 have h1 : 2 + 1 ≤ 10000 := by omega
 refine deep_law_laid laidOut (m := 2) h1 ends_row ends_at ?_
 rw [Tryz.underlying92]
def enV (x : Int × Int) : Value := .agg #[.int .i64 x.1, .int .i64 x.2]
noncomputable def eKV : KV Tryz.prog (Int × Int) (Int × Int) where
 k := 92
 e := 89
 kv := enV
 kl := fun x => .string (keyBytes [.int .i64 x.1, .int .i64 x.2])
 ok := fun x => (Lit.int .i64 x.1).wf = true ∧ (Lit.int .i64 x.2).wf = true
 mv := thV
 dv := thD
 okv := okT
 R := thR
 K := Maps.Keyed.of_law ends_law
 key := fun x hx => ends_key2 hx.1 hx.2
 keyInv := fun v l h => by
  obtain ⟨p, q, h1, h2, h3⟩ := ends_inv2 h
  exact ⟨(p, q), h1, h2, h3⟩
 kvInj := fun x y h => by cases x; cases y; cases h; rfl
 val := fun c hc => thR_mk hc
 valInv := fun v y h => thR_inv h
 dvInj := fun c c' h => by cases c; cases c'; cases h; rfl
noncomputable def grE (N : Nat) : Enc GT := prE (mpE vKV N) (mpE eKV N)
theorem pairs_spec (n : Int) (W : World) : Calls Tryz.prog 69 #[I n] W (Post (E (.bool (Gr.pairs n))) W) := by
 refine enter (args := [I n]) (As := [E (I n)]) Tryz.func69 rfl Tryz.ntmps69 (Nat.le_of_ble_eq_true rfl) ?_ (fun a hf => ?_) (Nat.le_of_ble_eq_true rfl)
 rotate_left
 dsimp only [params, Nat.reduceAdd] at hf
 rotate_right
 ·exact arg1 rfl
 have e := Ext.rfl' W
 repeat refine seq ?_
 refine regn0 ?_
 refine tl_as hf rfl (by decide) fun a hf => ?_
 refine tl_nil ?_
 repeat refine seq ?_
 refine regn 14 hf (by decide +kernel) ?_
 refine st (mv rfl) ?_
 refine st (eql rfl rfl) ?_
 refine st (mv rfl) ?_
 refine sgE rfl rfl (.k 0 rfl .n) (fun hgd => mv rfl) ?_
 refine sgE rfl rfl (.c 6 rfl (fun h => h) .n) (fun hgd => eql rfl rfl) ?_
 refine st (pkOr rfl rfl (fun h => by rw [h]; rfl)) ?_
 refine st (mv rfl) ?_
 refine sgE rfl rfl (.k 0 rfl .n) (fun hgd => mv rfl) ?_
 refine sgE rfl rfl (.c 10 rfl (fun h => h) .n) (fun hgd => eql rfl rfl) ?_
 refine st (pkOr rfl rfl (fun h => by rw [h]; rfl)) ?_
 refine st (mv rfl) ?_
 refine sgE rfl rfl (.k 0 rfl .n) (fun hgd => mv rfl) ?_
 refine sgE rfl rfl (.c 14 rfl (fun h => h) .n) (fun hgd => eql rfl rfl) ?_
 refine st (pkOr rfl rfl (fun h => by rw [h]; rfl)) ?_
 refine en fun a w e' hf => ?_
 replace e := e.tr e'
 refine tl_as hf rfl (by decide) fun a hf => ?_
 refine tl_nil ?_
 refine wret ?_
 try simp only [Exit.then, Exit.inBlock]
 refine ret1 rfl hf rfl ?_
 rintro _ rfl
 exact ⟨_, rfl, e, rfl⟩
theorem weighs_spec (n : Int) (W : World) : Calls Tryz.prog 70 #[I n] W (Post (E (.bool (Gr.weighs n))) W) := by
 refine enter (args := [I n]) (As := [E (I n)]) Tryz.func70 rfl Tryz.ntmps70 (Nat.le_of_ble_eq_true rfl) ?_ (fun a hf => ?_) (Nat.le_of_ble_eq_true rfl)
 rotate_left
 dsimp only [params, Nat.reduceAdd] at hf
 rotate_right
 ·exact arg1 rfl
 have e := Ext.rfl' W
 repeat refine seq ?_
 refine regn0 ?_
 refine tl_as hf rfl (by decide) fun a hf => ?_
 refine tl_nil ?_
 repeat refine seq ?_
 refine regn 14 hf (by decide +kernel) ?_
 refine st (mv rfl) ?_
 refine st (eql rfl rfl) ?_
 refine st (mv rfl) ?_
 refine sgE rfl rfl (.k 0 rfl .n) (fun hgd => mv rfl) ?_
 refine sgE rfl rfl (.c 6 rfl (fun h => h) .n) (fun hgd => eql rfl rfl) ?_
 refine st (pkOr rfl rfl (fun h => by rw [h]; rfl)) ?_
 refine st (mv rfl) ?_
 refine sgE rfl rfl (.k 0 rfl .n) (fun hgd => mv rfl) ?_
 refine sgE rfl rfl (.c 10 rfl (fun h => h) .n) (fun hgd => eql rfl rfl) ?_
 refine st (pkOr rfl rfl (fun h => by rw [h]; rfl)) ?_
 refine st (mv rfl) ?_
 refine sgE rfl rfl (.k 0 rfl .n) (fun hgd => mv rfl) ?_
 refine sgE rfl rfl (.c 14 rfl (fun h => h) .n) (fun hgd => eql rfl rfl) ?_
 refine st (pkOr rfl rfl (fun h => by rw [h]; rfl)) ?_
 refine en fun a w e' hf => ?_
 replace e := e.tr e'
 refine tl_as hf rfl (by decide) fun a hf => ?_
 refine tl_nil ?_
 refine wret ?_
 try simp only [Exit.then, Exit.inBlock]
 refine ret1 rfl hf rfl ?_
 rintro _ rfl
 exact ⟨_, rfl, e, rfl⟩
theorem id_spec (n : Int) (W : World) : Calls Tryz.prog 68 #[I n] W (Post (E (.bool (idOk n))) W) := by
 refine enter (args := [I n]) (As := [E (I n)]) Tryz.func68 rfl Tryz.ntmps68 (Nat.le_of_ble_eq_true rfl) ?_ (fun a hf => ?_) (Nat.le_of_ble_eq_true rfl)
 rotate_left
 dsimp only [params, Nat.reduceAdd] at hf
 rotate_right
 ·exact arg1 rfl
 have e := Ext.rfl' W
 repeat refine seq ?_
 refine regn0 ?_
 refine tl_as hf rfl (by decide) fun a hf => ?_
 refine tl_nil ?_
 repeat refine seq ?_
 refine regn 6 hf (by decide +kernel) ?_
 refine st (mv rfl) ?_
 refine st (geq rfl rfl) ?_
 refine st (mv rfl) ?_
 refine sgE rfl rfl (.k 0 rfl .n) (fun hgd => mv rfl) ?_
 refine sgE rfl rfl (.c 6 rfl (fun h => h) .n) (fun hgd => lss rfl rfl) ?_
 refine st (pkAnd rfl rfl (fun h => by rw [h]; rfl)) ?_
 refine en fun a w e' hf => ?_
 replace e := e.tr e'
 refine tl_as hf rfl (by decide) fun a hf => ?_
 refine tl_nil ?_
 refine wret ?_
 try simp only [Exit.then, Exit.inBlock]
 refine ret1 rfl hf rfl ?_
 rintro _ rfl
 exact ⟨_, rfl, e, rfl⟩
theorem gheavy_spec (n : Int) (W : World) : Calls Tryz.prog 71 #[I n] W (Post (E (.bool (Gr.heavy n))) W) := by
 refine enter (args := [I n]) (As := [E (I n)]) Tryz.func71 rfl Tryz.ntmps71 (Nat.le_of_ble_eq_true rfl) ?_ (fun a hf => ?_) (Nat.le_of_ble_eq_true rfl)
 rotate_left
 dsimp only [params, Nat.reduceAdd] at hf
 rotate_right
 ·exact arg1 rfl
 have e := Ext.rfl' W
 repeat refine seq ?_
 refine regn0 ?_
 refine tl_as hf rfl (by decide) fun a hf => ?_
 refine tl_nil ?_
 repeat refine seq ?_
 refine regn 6 hf (by decide +kernel) ?_
 refine st (mv rfl) ?_
 refine st (lss rfl rfl) ?_
 refine st (mv rfl) ?_
 refine sgE rfl rfl (.k 0 rfl .n) (fun hgd => mv rfl) ?_
 refine sgE rfl rfl (.c 6 rfl (fun h => h) .n) (fun hgd => gtr rfl rfl) ?_
 refine st (pkOr rfl rfl (fun h => by rw [h]; rfl)) ?_
 refine en fun a w e' hf => ?_
 replace e := e.tr e'
 refine tl_as hf rfl (by decide) fun a hf => ?_
 refine tl_nil ?_
 refine wret ?_
 try simp only [Exit.then, Exit.inBlock]
 refine ret1 rfl hf rfl ?_
 rintro _ rfl
 exact ⟨_, rfl, e, rfl⟩
theorem bEn (x : Int × Int) : Tryz.prog.built 92 [(0, .int .i64 x.1), (1, .int .i64 x.2)] = some #[.int .i64 x.1, .int .i64 x.2] := by kernel_rfl
theorem between_spec (m n : Int) (W : World) : Calls Tryz.prog 65 #[I m, I n] W (Post (E (enV (Gr.ends m n))) W) := by
 refine enter (args := [I m, I n]) (As := [E (I m), E (I n)]) Tryz.func65 rfl Tryz.ntmps65 (Nat.le_of_ble_eq_true rfl) ?_ (fun a hf => ?_) (Nat.le_of_ble_eq_true rfl)
 rotate_left
 dsimp only [params, Nat.reduceAdd] at hf
 rotate_right
 ·exact arg2 rfl rfl
 have e := Ext.rfl' W
 repeat refine seq ?_
 refine regn0 ?_
 refine tl_alloc I92 hf (by decide) fun a b4 w e' hb4 hs4 B4 hf => ?_
 have hle4 := Nat.le_trans e.size (Nat.le_of_eq hb4.symm)
 replace e := e.tr e'
 refine tl_nil ?_
 repeat refine seq ?_
 refine regn 7 hf (by decide +kernel) ?_
 refine st (mv rfl) ?_
 refine st (mv rfl) ?_
 refine st (min2 rfl rfl) ?_
 refine st (mv rfl) ?_
 refine st (mv rfl) ?_
 refine st (max2 rfl rfl) ?_
 refine st (bldV [(0, _), (1, _)] rfl (bEn (Gr.ends m n))) ?_
 refine en fun a w e' hf => ?_
 replace e := e.tr e'
 replace B4 := B4.ext e'
 clear e'
 haveI hinr : ∀ G0, InR (GB W G0) (some b4) := fun G0 => InR.gb (by omega)
 refine tl_stW T92 hf rfl rfl (one2 rfl rfl) B4 rfl (rfl) fun w hg hsz B4 hf => ?_
 replace e := e.gr hg (by omega)
 clear hg
 refine tl_nil ?_
 refine wret (retc rfl T92 hf rfl B4 rfl ?_)
 exact ⟨_, rfl, e, rfl⟩
end Go.Mono

namespace Go.Mono
open Go Go.Proofs Go.RowKit Go.Gr
section
variable {G G2 G3 : Nat → Prop} (g : GT) (d : DT) (N : Nat) (W : World) (v v1 v2 : Value)
theorem cP (n : Int) (v : Value) (w : World) (h : (E (I n)).p v w) : Calls Tryz.prog 69 #[v] w (Post (E (.bool (Gr.pairs n))) w) := by cases h; exact pairs_spec n w
theorem cW (n : Int) (v : Value) (w : World) (h : (E (I n)).p v w) : Calls Tryz.prog 70 #[v] w (Post (E (.bool (Gr.weighs n))) w) := by cases h; exact weighs_spec n w
theorem cI (n : Int) (v : Value) (w : World) (h : (E (I n)).p v w) : Calls Tryz.prog 68 #[v] w (Post (E (.bool (idOk n))) w) := by cases h; exact id_spec n w
theorem cH (n : Int) (v : Value) (w : World) (h : (E (I n)).p v w) : Calls Tryz.prog 71 #[v] w (Post (E (.bool (Gr.heavy n))) w) := by cases h; exact gheavy_spec n w
theorem q1_spec (h : (Dv (ptE dtE) G (some d)).p v W) : Calls Tryz.prog 66 #[v] W (Post (E (.bool (decide (d.1 < 0) || decide (8 ≤ d.1)))) W) := by
 refine enter (args := [v]) (As := [Dv (ptE dtE) G (some d)]) Tryz.func66 rfl Tryz.ntmps66 (Nat.le_of_ble_eq_true rfl) ?_ (fun a hf => ?_) (Nat.le_of_ble_eq_true rfl)
 rotate_left
 dsimp only [params, Nat.reduceAdd] at hf
 rotate_right
 ·exact arg1 h
 have e := Ext.rfl' W
 repeat refine seq ?_
 refine regn0 ?_
 refine tl_as hf rfl (by decide) fun a hf => ?_
 refine tl_nil ?_
 repeat refine seq ?_
 refine regn 8 hf (by decide +kernel) ?_
 refine st (fldD Tryz.underlying46 rfl T3 (by decide) (Fld.fst Fld.refl) (isR rfl)) ?_
 refine st (ldI T3 (isR rfl)) ?_
 refine st (lss rfl rfl) ?_
 refine st (mv rfl) ?_
 refine sgE rfl rfl (.k 0 rfl .n) (fun hgd => fldD Tryz.underlying46 rfl T3 (by decide) (Fld.fst Fld.refl) (isR rfl)) ?_
 refine sgE rfl rfl (.c 6 rfl (fun h => h) .n) (fun hgd => ldI T3 (isR rfl)) ?_
 refine sgE rfl rfl (.c 7 rfl (fun h => h) .n) (fun hgd => geq rfl rfl) ?_
 refine st (pkOr rfl rfl (fun h => by rw [h]; rfl)) ?_
 refine en fun a w e' hf => ?_
 replace e := e.tr e'
 refine tl_as hf rfl (by decide) fun a hf => ?_
 refine tl_nil ?_
 refine wret ?_
 try simp only [Exit.then, Exit.inBlock]
 refine ret1 rfl hf rfl ?_
 rintro _ rfl
 exact ⟨_, rfl, e, rfl⟩
theorem q2_spec (h : (Dv (ptE dtE) G (some d)).p v W) : Calls Tryz.prog 67 #[v] W (Post (E (.bool ((!idOk d.2.1) || (Gr.pairs d.1 && !idOk d.2.2.1) || (Gr.weighs d.1 && Gr.heavy d.2.2.2.2)))) W) := by
 refine enter (args := [v]) (As := [Dv (ptE dtE) G (some d)]) Tryz.func67 rfl Tryz.ntmps67 (Nat.le_of_ble_eq_true rfl) ?_ (fun a hf => ?_) (Nat.le_of_ble_eq_true rfl)
 rotate_left
 dsimp only [params, Nat.reduceAdd] at hf
 rotate_right
 ·exact arg1 h
 have e := Ext.rfl' W
 repeat refine seq ?_
 refine regn0 ?_
 refine tl_as hf rfl (by decide) fun a hf => ?_
 refine tl_nil ?_
 repeat refine seq ?_
 refine regn 25 hf (by decide +kernel) ?_
 refine st (fldD Tryz.underlying46 rfl T3 (by decide) (Fld.snd (Fld.fst Fld.refl) rfl) (isR rfl)) ?_
 refine st (ldI T3 (isR rfl)) ?_
 refine st (call1 En68 rfl (fun v w he h => cI _ v w h)) ?_
 refine st (notp rfl) ?_
 refine st (mv rfl) ?_
 refine sgE rfl rfl (.k 0 rfl .n) (fun hgd => fldD Tryz.underlying46 rfl T3 (by decide) (Fld.fst Fld.refl) (isR rfl)) ?_
 refine sgE rfl rfl (.c 7 rfl (fun h => h) .n) (fun hgd => ldI T3 (isR rfl)) ?_
 refine sgE rfl rfl (.c 8 rfl (fun h => h) .n) (fun hgd => call1 En69 rfl (fun v w he h => cP _ v w h)) ?_
 refine sgE rfl rfl (.c 9 rfl (fun h => h) .n) (fun hgd => mv rfl) ?_
 refine sgC rfl rfl (.k 0 rfl .n) (fun hgd => fldD Tryz.underlying46 rfl T3 (by decide) (Fld.snd (Fld.snd (Fld.fst Fld.refl) rfl) rfl) (isR rfl)) ?_
 refine sgC rfl rfl (.c 11 rfl (fun h => h) .n) (fun hgd => ldI T3 (isR rfl)) ?_
 refine sgC rfl rfl (.c 12 rfl (fun h => h) .n) (fun hgd => call1 En68 rfl (fun v w he h => cI _ v w h)) ?_
 refine sgC rfl rfl (.c 13 rfl (fun h => h) .n) (fun hgd => notp rfl) ?_
 refine sgE rfl rfl (.c 10 rfl (fun h => h) (.k 14 rfl .n)) (fun hgd => pkAnd rfl rfl (fun h => by rw [hgd, h]; rfl)) ?_
 refine st (pkOr rfl rfl (fun h => by rw [h]; rfl)) ?_
 refine st (mv rfl) ?_
 refine sgE rfl rfl (.k 0 rfl .n) (fun hgd => fldD Tryz.underlying46 rfl T3 (by decide) (Fld.fst Fld.refl) (isR rfl)) ?_
 refine sgE rfl rfl (.c 18 rfl (fun h => h) .n) (fun hgd => ldI T3 (isR rfl)) ?_
 refine sgE rfl rfl (.c 19 rfl (fun h => h) .n) (fun hgd => call1 En70 rfl (fun v w he h => cW _ v w h)) ?_
 refine sgE rfl rfl (.c 20 rfl (fun h => h) .n) (fun hgd => mv rfl) ?_
 refine sgC rfl rfl (.k 0 rfl .n) (fun hgd => fldD Tryz.underlying46 rfl T3 (by decide) (Fld.snd (Fld.snd (Fld.snd (Fld.snd Fld.refl rfl) rfl) rfl) rfl) (isR rfl)) ?_
 refine sgC rfl rfl (.c 22 rfl (fun h => h) .n) (fun hgd => ldI T3 (isR rfl)) ?_
 refine sgC rfl rfl (.c 23 rfl (fun h => h) .n) (fun hgd => call1 En71 rfl (fun v w he h => cH _ v w h)) ?_
 refine sgE rfl rfl (.c 21 rfl (fun h => h) (.k 24 rfl .n)) (fun hgd => pkAnd rfl rfl (fun h => by rw [hgd, h]; rfl)) ?_
 refine st (pkOr rfl rfl (fun h => by rw [h]; rfl)) ?_
 refine en fun a w e' hf => ?_
 replace e := e.tr e'
 refine tl_as hf rfl (by decide) fun a hf => ?_
 refine tl_nil ?_
 refine wret ?_
 try simp only [Exit.then, Exit.inBlock]
 refine ret1 rfl hf rfl ?_
 rintro _ rfl
 exact ⟨_, rfl, e, rfl⟩
theorem q3_spec (h : (Dv (ptE dtE) G (some d)).p v W) : Calls Tryz.prog 72 #[v] W (Post (E (.bool (Gr.pairs d.1 && d.2.1 == d.2.2.1))) W) := by
 refine enter (args := [v]) (As := [Dv (ptE dtE) G (some d)]) Tryz.func72 rfl Tryz.ntmps72 (Nat.le_of_ble_eq_true rfl) ?_ (fun a hf => ?_) (Nat.le_of_ble_eq_true rfl)
 rotate_left
 dsimp only [params, Nat.reduceAdd] at hf
 rotate_right
 ·exact arg1 h
 have e := Ext.rfl' W
 repeat refine seq ?_
 refine regn0 ?_
 refine tl_as hf rfl (by decide) fun a hf => ?_
 refine tl_nil ?_
 repeat refine seq ?_
 refine regn 10 hf (by decide +kernel) ?_
 refine st (fldD Tryz.underlying46 rfl T3 (by decide) (Fld.fst Fld.refl) (isR rfl)) ?_
 refine st (ldI T3 (isR rfl)) ?_
 refine st (call1 En69 rfl (fun v w he h => cP _ v w h)) ?_
 refine st (mv rfl) ?_
 refine sgE rfl rfl (.k 0 rfl .n) (fun hgd => fldD Tryz.underlying46 rfl T3 (by decide) (Fld.snd (Fld.fst Fld.refl) rfl) (isR rfl)) ?_
 refine sgE rfl rfl (.c 6 rfl (fun h => h) .n) (fun hgd => ldI T3 (isR rfl)) ?_
 refine sgE rfl rfl (.k 0 rfl .n) (fun hgd => fldD Tryz.underlying46 rfl T3 (by decide) (Fld.snd (Fld.snd (Fld.fst Fld.refl) rfl) rfl) (isR rfl)) ?_
 refine sgE rfl rfl (.c 8 rfl (fun h => h) .n) (fun hgd => ldI T3 (isR rfl)) ?_
 refine sgE rfl rfl (.c 7 rfl (fun h => h) (.c 9 rfl (fun h => h) .n)) (fun hgd => eql rfl rfl) ?_
 refine st (pkAnd rfl rfl (fun h => by rw [h]; rfl)) ?_
 refine en fun a w e' hf => ?_
 replace e := e.tr e'
 refine tl_as hf rfl (by decide) fun a hf => ?_
 refine tl_nil ?_
 refine wret ?_
 try simp only [Exit.then, Exit.inBlock]
 refine ret1 rfl hf rfl ?_
 rintro _ rfl
 exact ⟨_, rfl, e, rfl⟩
theorem q4_spec (u : Bool) (h : (Dv (ptE dtE) G (some d)).p v W) (h1 : (Dv (ptE boolE) G2 (some u)).p v1 W) : Calls Tryz.prog 73 #[v, v1] W (Post (E (.bool (d.1 == 0 && u))) W) := by
 refine enter (args := [v, v1]) (As := [Dv (ptE dtE) G (some d), Dv (ptE boolE) G2 (some u)]) Tryz.func73 rfl Tryz.ntmps73 (Nat.le_of_ble_eq_true rfl) ?_ (fun a hf => ?_) (Nat.le_of_ble_eq_true rfl)
 rotate_left
 dsimp only [params, Nat.reduceAdd] at hf
 rotate_right
 ·exact arg2 h h1
 have e := Ext.rfl' W
 repeat refine seq ?_
 refine regn0 ?_
 refine tl_as hf rfl (by decide) fun a hf => ?_
 refine tl_nil ?_
 repeat refine seq ?_
 refine regn 6 hf (by decide +kernel) ?_
 refine st (fldD Tryz.underlying46 rfl T3 (by decide) (Fld.fst Fld.refl) (isR rfl)) ?_
 refine st (ldI T3 (isR rfl)) ?_
 refine st (eql rfl rfl) ?_
 refine st (mv rfl) ?_
 refine sgE rfl rfl (.k 1 rfl .n) (fun hgd => ldB T4 (isR rfl)) ?_
 refine st (pkAnd rfl rfl (fun h => by rw [h]; rfl)) ?_
 refine en fun a w e' hf => ?_
 replace e := e.tr e'
 refine tl_as hf rfl (by decide) fun a hf => ?_
 refine tl_nil ?_
 refine wret ?_
 try simp only [Exit.then, Exit.inBlock]
 refine ret1 rfl hf rfl ?_
 rintro _ rfl
 exact ⟨_, rfl, e, rfl⟩
theorem q5_spec (u u2 : Bool) (h : (Dv (ptE dtE) G (some d)).p v W) (h1 : (Dv (ptE boolE) G2 (some u)).p v1 W) (h2 : (Dv (ptE boolE) G3 (some u2)).p v2 W) :
  Calls Tryz.prog 74 #[v, v1, v2] W (Post (E (.bool ((d.1 != 0 && !Gr.pairs d.1 && !u) || (d.1 == 2 && !(u && u2))))) W) := by
 refine enter (args := [v, v1, v2]) (As := [Dv (ptE dtE) G (some d), Dv (ptE boolE) G2 (some u), Dv (ptE boolE) G3 (some u2)]) Tryz.func74 rfl Tryz.ntmps74 (Nat.le_of_ble_eq_true rfl) ?_ (fun a hf => ?_) (Nat.le_of_ble_eq_true rfl)
 rotate_left
 dsimp only [params, Nat.reduceAdd] at hf
 rotate_right
 ·exact arg3 h h1 h2
 have e := Ext.rfl' W
 repeat refine seq ?_
 refine regn0 ?_
 refine tl_as hf rfl (by decide) fun a hf => ?_
 refine tl_nil ?_
 repeat refine seq ?_
 refine regn 25 hf (by decide +kernel) ?_
 refine st (fldD Tryz.underlying46 rfl T3 (by decide) (Fld.fst Fld.refl) (isR rfl)) ?_
 refine st (ldI T3 (isR rfl)) ?_
 refine st (neq rfl rfl) ?_
 refine st (mv rfl) ?_
 refine sgE rfl rfl (.k 0 rfl .n) (fun hgd => fldD Tryz.underlying46 rfl T3 (by decide) (Fld.fst Fld.refl) (isR rfl)) ?_
 refine sgE rfl rfl (.c 8 rfl (fun h => h) .n) (fun hgd => ldI T3 (isR rfl)) ?_
 refine sgE rfl rfl (.c 9 rfl (fun h => h) .n) (fun hgd => call1 En69 rfl (fun v w he h => cP _ v w h)) ?_
 refine sgE rfl rfl (.c 10 rfl (fun h => h) .n) (fun hgd => notp rfl) ?_
 refine st (pkAnd rfl rfl (fun h => by rw [h]; rfl)) ?_
 refine st (mv rfl) ?_
 refine sgE rfl rfl (.k 1 rfl .n) (fun hgd => ldB T4 (isR rfl)) ?_
 refine sgE rfl rfl (.c 14 rfl (fun h => h) .n) (fun hgd => notp rfl) ?_
 refine st (pkAnd rfl rfl (fun h => by rw [h]; rfl)) ?_
 refine st (mv rfl) ?_
 refine sgE rfl rfl (.k 0 rfl .n) (fun hgd => fldD Tryz.underlying46 rfl T3 (by decide) (Fld.fst Fld.refl) (isR rfl)) ?_
 refine sgE rfl rfl (.c 18 rfl (fun h => h) .n) (fun hgd => ldI T3 (isR rfl)) ?_
 refine sgE rfl rfl (.c 19 rfl (fun h => h) .n) (fun hgd => eql rfl rfl) ?_
 refine sgE rfl rfl (.c 20 rfl (fun h => h) .n) (fun hgd => mv rfl) ?_
 refine sgC rfl rfl (.k 1 rfl .n) (fun hgd => ldB T4 (isR rfl)) ?_
 refine sgC rfl rfl (.c 22 rfl (fun h => h) .n) (fun hgd => mv rfl) ?_
 refine sgC rfl rfl (.k 2 rfl .n) (fun hgd => ldB T4 (isR rfl)) ?_
 refine sgC rfl rfl (.c 23 rfl (fun h => h) (.k 24 rfl .n)) (fun hgd => pkAnd rfl rfl (fun h => by rw [hgd, h]; rfl)) ?_
 refine sgC rfl rfl (.c 25 rfl (fun h => h) .n) (fun hgd => notp rfl) ?_
 refine sgE rfl rfl (.c 21 rfl (fun h => h) (.k 26 rfl .n)) (fun hgd => pkAnd rfl rfl (fun h => by rw [hgd, h]; rfl)) ?_
 refine st (pkOr rfl rfl (fun h => by rw [h]; rfl)) ?_
 refine en fun a w e' hf => ?_
 replace e := e.tr e'
 refine tl_as hf rfl (by decide) fun a hf => ?_
 refine tl_nil ?_
 refine wret ?_
 try simp only [Exit.then, Exit.inBlock]
 refine ret1 rfl hf rfl ?_
 rintro _ rfl
 exact ⟨_, rfl, e, rfl⟩
theorem q6_spec (u : Bool) (h : (Dv (ptE dtE) G (some d)).p v W) (h1 : (Dv (ptE boolE) G2 (some u)).p v1 W) : Calls Tryz.prog 75 #[v, v1] W (Post (E (.bool (Gr.pairs d.1 && d.1 != 2 && !u))) W) := by
 refine enter (args := [v, v1]) (As := [Dv (ptE dtE) G (some d), Dv (ptE boolE) G2 (some u)]) Tryz.func75 rfl Tryz.ntmps75 (Nat.le_of_ble_eq_true rfl) ?_ (fun a hf => ?_) (Nat.le_of_ble_eq_true rfl)
 rotate_left
 dsimp only [params, Nat.reduceAdd] at hf
 rotate_right
 ·exact arg2 h h1
 have e := Ext.rfl' W
 repeat refine seq ?_
 refine regn0 ?_
 refine tl_as hf rfl (by decide) fun a hf => ?_
 refine tl_nil ?_
 repeat refine seq ?_
 refine regn 12 hf (by decide +kernel) ?_
 refine st (fldD Tryz.underlying46 rfl T3 (by decide) (Fld.fst Fld.refl) (isR rfl)) ?_
 refine st (ldI T3 (isR rfl)) ?_
 refine st (call1 En69 rfl (fun v w he h => cP _ v w h)) ?_
 refine st (mv rfl) ?_
 refine sgE rfl rfl (.k 0 rfl .n) (fun hgd => fldD Tryz.underlying46 rfl T3 (by decide) (Fld.fst Fld.refl) (isR rfl)) ?_
 refine sgE rfl rfl (.c 7 rfl (fun h => h) .n) (fun hgd => ldI T3 (isR rfl)) ?_
 refine sgE rfl rfl (.c 8 rfl (fun h => h) .n) (fun hgd => neq rfl rfl) ?_
 refine st (pkAnd rfl rfl (fun h => by rw [h]; rfl)) ?_
 refine st (mv rfl) ?_
 refine sgE rfl rfl (.k 1 rfl .n) (fun hgd => ldB T4 (isR rfl)) ?_
 refine sgE rfl rfl (.c 12 rfl (fun h => h) .n) (fun hgd => notp rfl) ?_
 refine st (pkAnd rfl rfl (fun h => by rw [h]; rfl)) ?_
 refine en fun a w e' hf => ?_
 replace e := e.tr e'
 refine tl_as hf rfl (by decide) fun a hf => ?_
 refine tl_nil ?_
 refine wret ?_
 try simp only [Exit.then, Exit.inBlock]
 refine ret1 rfl hf rfl ?_
 rintro _ rfl
 exact ⟨_, rfl, e, rfl⟩
theorem q7_spec (u : Bool) (h : (Dv (ptE dtE) G (some d)).p v W) (h1 : (Dv (ptE boolE) G2 (some u)).p v1 W) : Calls Tryz.prog 76 #[v, v1] W (Post (E (.bool (d.1 == 2 && u))) W) := by
 refine enter (args := [v, v1]) (As := [Dv (ptE dtE) G (some d), Dv (ptE boolE) G2 (some u)]) Tryz.func76 rfl Tryz.ntmps76 (Nat.le_of_ble_eq_true rfl) ?_ (fun a hf => ?_) (Nat.le_of_ble_eq_true rfl)
 rotate_left
 dsimp only [params, Nat.reduceAdd] at hf
 rotate_right
 ·exact arg2 h h1
 have e := Ext.rfl' W
 repeat refine seq ?_
 refine regn0 ?_
 refine tl_as hf rfl (by decide) fun a hf => ?_
 refine tl_nil ?_
 repeat refine seq ?_
 refine regn 6 hf (by decide +kernel) ?_
 refine st (fldD Tryz.underlying46 rfl T3 (by decide) (Fld.fst Fld.refl) (isR rfl)) ?_
 refine st (ldI T3 (isR rfl)) ?_
 refine st (eql rfl rfl) ?_
 refine st (mv rfl) ?_
 refine sgE rfl rfl (.k 1 rfl .n) (fun hgd => ldB T4 (isR rfl)) ?_
 refine st (pkAnd rfl rfl (fun h => by rw [h]; rfl)) ?_
 refine en fun a w e' hf => ?_
 replace e := e.tr e'
 refine tl_as hf rfl (by decide) fun a hf => ?_
 refine tl_nil ?_
 refine wret ?_
 try simp only [Exit.then, Exit.inBlock]
 refine ret1 rfl hf rfl ?_
 rintro _ rfl
 exact ⟨_, rfl, e, rfl⟩
theorem q8_spec (h : (Dv (ptE dtE) G (some d)).p v W) (h1 : (Dv (ptE (ptE (grE N))) G2 (some (some g))).p v1 W) : Calls Tryz.prog 77 #[v, v1] W (Post (E (.bool (d.1 == 2 && decide ((1024 : Int) ≤ (g.2.length : Nat))))) W) := by
 refine enter (args := [v, v1]) (As := [Dv (ptE dtE) G (some d), Dv (ptE (ptE (grE N))) G2 (some (some g))]) Tryz.func77 rfl Tryz.ntmps77 (Nat.le_of_ble_eq_true rfl) ?_ (fun a hf => ?_) (Nat.le_of_ble_eq_true rfl)
 rotate_left
 dsimp only [params, Nat.reduceAdd] at hf
 rotate_right
 ·exact arg2 h h1
 have e := Ext.rfl' W
 repeat refine seq ?_
 refine regn0 ?_
 refine tl_as hf rfl (by decide) fun a hf => ?_
 refine tl_nil ?_
 repeat refine seq ?_
 refine regn 11 hf (by decide +kernel) ?_
 refine st (fldD Tryz.underlying46 rfl T3 (by decide) (Fld.fst Fld.refl) (isR rfl)) ?_
 refine st (ldI T3 (isR rfl)) ?_
 refine st (eql rfl rfl) ?_
 refine st (mv rfl) ?_
 refine sgE rfl rfl (.k 1 rfl .n) (fun hgd => ldD T27 (isR rfl)) ?_
 refine sgE rfl rfl (.c 7 rfl (fun h => h) .n) (fun hgd => nilC (isR rfl)) ?_
 refine sgE rfl rfl (.c 8 rfl (fun h => h) .n) (fun hgd => fldD Tryz.underlying87 rfl T85 (by decide) (Fld.snd Fld.refl rfl) (isR rfl)) ?_
 refine sgE rfl rfl (.c 9 rfl (fun h => h) .n) (fun hgd => ldD T85 (isR rfl)) ?_
 refine sgE rfl rfl (.c 10 rfl (fun h => h) .n) (fun hgd => lenM Tryz.underlying85 (isR rfl)) ?_
 refine sgE rfl rfl (.c 11 rfl (fun h => h) .n) (fun hgd => geq rfl rfl) ?_
 refine st (pkAnd rfl rfl (fun h => by rw [h]; rfl)) ?_
 refine en fun a w e' hf => ?_
 replace e := e.tr e'
 refine tl_as hf rfl (by decide) fun a hf => ?_
 refine tl_nil ?_
 refine wret ?_
 try simp only [Exit.then, Exit.inBlock]
 refine ret1 rfl hf rfl ?_
 rintro _ rfl
 exact ⟨_, rfl, e, rfl⟩
end
end Go.Mono

namespace Go.Mono
open Go Go.RowKit
section tail
variable {P : Program} {L : Env} {ty : TypeId} {pos : String} {aft : Array Edge} {r : Option Nat} {ds : List Deferred}
variable {ops : Array Oper} {rest : List Oper} {Q : Exit → Act → World → Prop} {n : Nat} {a : Act} {w : World} {x y : Operand}
theorem tl_stP {t bt : TypeId} {b off s : Nat} {cs new : Array Value} (ht : TI P t true s) (hf : FrD n ds a w L) [hL : AvL b L] (hx : opd L x = some (E (.pointer (some ⟨b, off, none⟩)))) (hy : opd L y = some (E (.agg new))) (h1 : new.all (·.oneCell') = true)
  (hb : Blk w b cs bt) (hn : new.size = s) (ho : off + s ≤ cs.size) (k : ∀ w', w.grownBy w' (some b) → w'.heap.size = w.heap.size → Blk w' b (cs.toList.take off ++ new.toList ++ cs.toList.drop (off + s)).toArray bt → FrD n ds a w' L → wpListIn (FW r) 0 P ops Q rest a w') :
  wpListIn (FW r) 0 P ops Q (⟨none, .store t x y, ty, pos, aft, none⟩ :: rest) a w :=
 wpListIn_plain rfl fun K hK => by
  have hxv : a.eval x = .pointer (some ⟨b, off, none⟩) := hf.opd x _ hx
  have hyv : a.eval y = .agg new := hf.opd y _ hy
  have hrun := run_storeCells_at (P := P) b off bt new.toList 0 cs w hb (by simp; omega) (fun v hv => by rw [Array.all_eq_true_iff_forall_mem] at h1; exact h1 v (by simpa using hv))
  simp only [Nat.add_zero, Array.length_toList, hn] at hrun
  have hc : (Value.agg new).cells = new := rfl
  refine OpR.wp (R := fun _ w' => w' = w.setRow b (cs.toList.take off ++ new.toList ++ cs.toList.drop (off + s)).toArray) ?_ ?_
  ·simp [OpR, execOp, Instr.storeAt, Instr.sureAddr, hxv, hyv, storeVar, hc, ht.size, hn, hrun]
  ·rintro _ w' rfl
   exact hK _ _ (k _ (grownBy_setRow _ _ _) (by simp) (setRow_heap _ _ _ _ _ _ hb) (hf.gr (grownBy_setRow _ _ _)))
end tail
section
variable {P : Program} {w0 : World} {L : Env} {dst : Option Tmp} {ty : TypeId} {pos : String} {aft : Array Edge} {α : Type} {e : Enc α}
end
theorem run_appF {P : Program} {ty : TypeId} {α : Type} {e : Enc α} [FlE e] {G G' : Nat → Prop} {w : World} {xs ys : List α} {v : Value} {t te : TypeId} {z0 : Value} {sz bz B : Nat} (ht : P.underlying t = some (.slice te)) (hi : (P.info? te).map (fun i => (i.zero, i.size, i.bytes)) = some (some z0, sz, bz)) (hsz : sz = e.k) (hz0 : z0.cells.size = e.k)
  (ho : OwR e te B G w xs v) {u : Value} (hy : (Dv (slE e) G' ys).p u w) (h63 : (xs.length + ys.length) ≤ maxLen) (hb : (xs.length + ys.length) * bz ≤ 140737488355328) :
  ∃ v' w', (Builtin.append_ #[t, t] ty #[v, u]).run P w = .ok v' w' ∧ OwR e te B G w' (xs ++ ys) v' ∧ w.grownBy w' v.ownBlock ∧ (v'.ownBlock = v.ownBlock ∨ v'.ownBlock = some w.heap.size) := by
 obtain ⟨it, hit, hiz, hsz', hbz⟩ := info_parts hi
 subst hsz
 obtain ⟨cs, h1, h2⟩ := ho.own
 rcases Dv.sl.1 hy with ⟨rfl, rfl⟩ | ⟨ad, cap, ds', rfl, _, h3, h4, h5, h6⟩
 ·refine ⟨v, w, run_append_owned_none w B t ty te it e.k ht hit v _ cs h1, by simpa using ho, ⟨rfl, rfl, rfl, Nat.le_refl _, fun _ _ _ => rfl⟩, .inl rfl⟩
 ·obtain ⟨v', w', h7, h8, h9, _, h10⟩ := run_append_own_at (P := P) w B t ty te it z0 e.k bz ht hit hiz hsz' hbz hz0 e.pos v _ cs h1 ad ys.length cap ds' h5.len h6 h5.one h63 hb ho.base
  exact ⟨v', w', h7, ⟨⟨cs ++ ds', by simpa using h8, (Cells.fl h2).app (Cells.fl h5)⟩, ho.av, Nat.le_trans ho.base h9.size⟩, h9, h10⟩
theorem xappF {P : Program} {w0 : World} {L : Env} {dst : Option Tmp} {ty : TypeId} {pos : String} {aft : Array Edge} {α : Type} {e : Enc α} [FlE e] {x y : Operand} {t te : TypeId} {z0 : Value} {sz bz N : Nat} {G G' : Nat → Prop} {F : World → Prop} {xs ys : List α} (ht : P.underlying t = some (.slice te)) (hi : (P.info? te).map (fun i => (i.zero, i.size, i.bytes)) = some (some z0, sz, bz)) (hsz : sz = e.k) (hz0 : z0.cells.size = e.k)
  (hx : opd L x = some (OwA e te N G xs)) (hy : Is L w0 y (Dv (slE e) G' ys)) (hb : (xs.length + ys.length) * bz ≤ 140737488355328) (h63 : xs.length + ys.length ≤ maxLen) (hF : ∀ w w', Chg (fun b => N ≤ b) w w' → F w → F w') (hF0 : ∀ w, Ext w0 w → F w) :
  XOpZ P w0 (fun b => N ≤ b) F L ⟨dst, .call ⟨.builtin .append, #[x, y], #[t, t]⟩, ty, pos, aft, none⟩ (OwA e te N G (xs ++ ys)) := by
 refine ⟨fun ρ w he hv => ?_⟩
 have ho : OwR e te N G w xs (ρ x) := hv x (by simp [Op.operands, Call.operands]) _ hx
 have hyv := hy.v he hv (by simp [Op.operands, Call.operands])
 obtain ⟨v', w', h1, h2, h3, h4⟩ := run_appF (P := P) (ty := ty) ht hi hsz hz0 ho hyv h63 hb
 simp only [OpR, execOp, resolve, invoke, builtin, Sem.run_bind, Sem.run_pure, Result.andThen_ok, List.map_toArray, List.map_cons, List.map_nil, h1]
 have hc : Chg (fun b => N ≤ b) w w' := ⟨h3.os, h3.tape, h3.output, h3.size, fun b hb hS => h3.block b hb fun hbb => hS (ho.lt hbb.symm).1⟩
 exact ⟨hc, h2, hF _ _ hc (hF0 w he)⟩
end Go.Mono

namespace Go.Mono
open Go Go.RowKit
def RegP (P : Program) (ops : Array Oper) (w0 : World) (S : Nat → Prop) (F : World → Prop) : List Oper → (Env → Prop) → Env → Prop
 | [], K, L2 => K L2
 | o :: rest, K, L2 => ∃ A, (∀ w1, Chg S w0 w1 → F w1 → GOp P ops w1 L2 o A) ∧ RegP P ops w0 S F rest K (push o.dst A L2)
def RegQ (P : Program) (ops : Array Oper) (w0 : World) (S : Nat → Prop) (F : World → Prop) : List Nat → List Oper → (Env → Prop) → Env → Env → Prop
 | [], o :: rest, K, L, L2 => o.guard = none ∧ ∃ A, XOpZ P w0 S F L o A ∧ RegP P ops w0 S F rest K (push o.dst A L2)
 | c :: fr, o :: rest, K, L, L2 => ∃ A, (c ≠ 1 → GOp P ops w0 L o A) ∧ (c = 1 → ∀ w1, Chg S w0 w1 → GOp P ops w1 L o A) ∧ (c ≠ 0 → AvS S A) ∧ RegQ P ops w0 S F fr rest K (push o.dst A L) (push o.dst (if c ≠ 0 then A else Any) L2)
 | _, _, _, _, _ => False
def frQ (fr : List Nat) (j : Nat) : Bool := Nat.beq (fr.getD j 0) 1
def kpQ (fr : List Nat) (j : Nat) : Bool := !Nat.beq (fr.getD j 0) 0

section
variable {P : Program} {ops : Array Oper} {Q : Exit → Act → World → Prop} {w0 : World} {n : Nat} {ds : List Deferred} {r : Option Nat}

theorem RegP_As {S : Nat → Prop} {F : World → Prop} {K : Env → Prop} : ∀ (M : List Oper) (k : Nat) (L : Env), (∀ j, j < M.length → ops[k + j]? = M[j]?) → RegP P ops w0 S F M K L →
  ∃ As : Nat → VA, (∀ j o, j < M.length → ops[k + j]? = some o → ∀ w1, Chg S w0 w1 → F w1 → GOp P ops w1 (envF ops L As k j) o (As j)) ∧ K (envF ops L As k M.length)
 | [], k, L, _, h => ⟨fun _ => Any, fun j o hj => by simp at hj, h⟩
 | o :: M, k, L, hM, ⟨A, hA, hr⟩ => by
  have h0 : ops[k]? = some o := by simpa using hM 0 (by simp)
  have hd : dstOf ops k = o.dst := by simp [dstOf, h0]
  obtain ⟨As, h1, h2⟩ := RegP_As M (k + 1) (push o.dst A L) (fun j hj => by
   have := hM (j + 1) (by simpa using hj)
   rw [show k + 1 + j = k + (j + 1) by omega]
   simpa using this) hr
  refine ⟨consFY A As, ?_, ?_⟩
  ·intro j o' hj ho'
   cases j with
   | zero =>
    rw [Nat.add_zero, h0] at ho'
    obtain rfl := Option.some.inj ho'
    exact hA
   | succ j =>
    rw [envFY_cons, hd]
    exact h1 j o' (by simpa using hj) (by rw [show k + 1 + j = k + (j + 1) by omega]; exact ho')
  ·rw [List.length_cons, envFY_cons, hd]
   exact h2
theorem RegQ_As {S : Nat → Prop} {F : World → Prop} {K : Env → Prop} : ∀ (M : List Oper) (fr : List Nat) (k : Nat) (L L2 : Env), (∀ j, j < M.length → ops[k + j]? = M[j]?) → RegQ P ops w0 S F fr M K L L2 →
  ∃ As : Nat → VA, fr.length < M.length ∧ (∀ j o, j < fr.length → ops[k + j]? = some o → (frQ fr j = false → GOp P ops w0 (envF ops L As k j) o (As j)) ∧ (frQ fr j = true → ∀ w1, Chg S w0 w1 → GOp P ops w1 (envF ops L As k j) o (As j)) ∧ (kpQ fr j = true → AvS S (As j))) ∧
   (∀ o, ops[k + fr.length]? = some o → o.guard = none ∧ XOpZ P w0 S F (envF ops L As k fr.length) o (As fr.length)) ∧
   (∀ j o, fr.length < j → j < M.length → ops[k + j]? = some o → ∀ w1, Chg S w0 w1 → F w1 → GOp P ops w1 (envF ops L2 (fun j => if kpQ fr j = true ∨ fr.length ≤ j then As j else Any) k j) o (As j)) ∧
   K (envF ops L2 (fun j => if kpQ fr j = true ∨ fr.length ≤ j then As j else Any) k M.length)
 | [], [], _, _, _, _, h => h.elim
 | [], _ :: _, _, _, _, _, h => h.elim
 | o :: M, [], k, L, L2, hM, ⟨hg, A, h1, h2⟩ => by
  have h0 : ops[k]? = some o := by simpa using hM 0 (by simp)
  have hd : dstOf ops k = o.dst := by simp [dstOf, h0]
  obtain ⟨As, h3, h4⟩ := RegP_As M (k + 1) (push o.dst A L2) (fun j hj => by
   have := hM (j + 1) (by simpa using hj)
   rw [show k + 1 + j = k + (j + 1) by omega]
   simpa using this) h2
  have e : (fun j => if kpQ [] j = true ∨ ([] : List Nat).length ≤ j then consFY A As j else Any) = consFY A As := by
   funext j
   simp
  refine ⟨consFY A As, by simp, fun j o hj => by simp at hj, fun o' ho' => ?_, fun j o' hj hj2 ho' => ?_, ?_⟩
  ·rw [List.length_nil, Nat.add_zero, h0] at ho'
   obtain rfl := Option.some.inj ho'
   exact ⟨hg, h1⟩
  ·rw [e]
   cases j with
   | zero => simp at hj
   | succ j =>
    rw [envFY_cons, hd]
    exact h3 j o' (by simpa using hj2) (by rw [show k + 1 + j = k + (j + 1) by omega]; exact ho')
  ·rw [e, List.length_cons, envFY_cons, hd]
   exact h4
 | o :: M, c :: fr, k, L, L2, hM, ⟨A, hA1, hA2, hA3, hr⟩ => by
  have h0 : ops[k]? = some o := by simpa using hM 0 (by simp)
  have hd : dstOf ops k = o.dst := by simp [dstOf, h0]
  obtain ⟨As, h1, h2, h3, h5, h4⟩ := RegQ_As M fr (k + 1) _ _ (fun j hj => by
   have := hM (j + 1) (by simpa using hj)
   rw [show k + 1 + j = k + (j + 1) by omega]
   simpa using this) hr
  have hc1 : kpQ (c :: fr) 0 = true ↔ c ≠ 0 := by
   unfold kpQ
   cases c with
   | zero => simp
   | succ n => exact ⟨fun _ => Nat.succ_ne_zero n, fun _ => rfl⟩
  have hc2 : frQ (c :: fr) 0 = true ↔ c = 1 := by
   unfold frQ
   simp [Nat.beq_eq]
  have e : (fun j => if kpQ (c :: fr) j = true ∨ (c :: fr).length ≤ j then consFY A As j else Any) = consFY (if c ≠ 0 then A else Any) (fun j => if kpQ fr j = true ∨ fr.length ≤ j then As j else Any) := by
   funext j
   cases j with
   | zero =>
    show (if kpQ (c :: fr) 0 = true ∨ fr.length + 1 ≤ 0 then A else Any) = (if c ≠ 0 then A else Any)
    have : ¬ fr.length + 1 ≤ 0 := by omega
    simp [this, hc1]
   | succ j =>
    show (if kpQ fr j = true ∨ fr.length + 1 ≤ j + 1 then As j else Any) = _
    simp [consFY]
  refine ⟨consFY A As, by simp only [List.length_cons]; omega, ?_, ?_, ?_, ?_⟩
  ·intro j o' hj ho'
   cases j with
   | zero =>
    rw [Nat.add_zero, h0] at ho'
    obtain rfl := Option.some.inj ho'
    exact ⟨fun h => hA1 fun hc => (by rw [hc2.2 hc] at h; cases h), fun h => hA2 (hc2.1 h), fun h => hA3 (hc1.1 h)⟩
   | succ j =>
    rw [envFY_cons, hd]
    exact h2 j o' (by simpa using hj) (by rw [show k + 1 + j = k + (j + 1) by omega]; exact ho')
  ·intro o' ho'
   rw [List.length_cons, envFY_cons, hd]
   exact h3 o' (by rw [show k + 1 + fr.length = k + (fr.length + 1) by omega]; exact ho')
  ·intro j o' hj hj2 ho'
   rw [e]
   cases j with
   | zero => simp at hj
   | succ j =>
    rw [envFY_cons, hd]
    exact h5 j o' (by simpa using hj) (by simpa using hj2) (by rw [show k + 1 + j = k + (j + 1) by omega]; exact ho')
  ·rw [e, List.length_cons, envFY_cons, hd]
   exact h4

structure InvQ (ops : Array Oper) (m x : Nat) (kp : Nat → Bool) (S : Nat → Prop) (F : World → Prop) (n : Nat) (ds : List Deferred) (w0 : World) (L : Env) (As : Nat → VA) (listed : Array Bool) (a : Act) (w : World) : Prop where
 ext : Chg S w0 w
 pre : listed.getD x true = false → Ext w0 w
 post : listed.getD x false = true → F w
 size : a.tmps.size = n
 defers : a.defers = ds
 hL : ∀ t A, look L t = some A → (∀ j, j < m → dstOf ops j ≠ some t) → A.p (a.eval (.tmp t)) w
 hA : ∀ i, i < m → listed.getD i false = true → (listed.getD x true = false ∨ kp i = true ∨ x ≤ i) → ∀ d, dstOf ops i = some d → (As i).p (a.eval (.tmp d)) w

theorem wpAny_mainQ {m x : Nat} {fr kp : Nat → Bool} {S : Nat → Prop} {F : World → Prop} (hx0 : x < m) (hFst : ∀ w w', Ext w w' → F w → F w') {L : Env} {As : Nat → VA} (hm : m ≤ ops.size) (hchk : ∀ i, i < m → chkOp ops m n i = true) (hchk2 : ∀ i, m ≤ i → i < ops.size → chkTail ops i = true)
  (hanc : ∀ j, j < x → fr j = false → covers ops 12 x j = true) (hpo : ∀ j, x < j → j < m → covers ops 12 j x = true) (hfk : ∀ j, fr j = true → kp j = true)
  (hfree : ∀ i o, i < x → fr i = true → ops[i]? = some o → ∀ t, (t ∈ tmpsOf o ∨ gdst ops o = some t) → ∀ j, j < m → dstOf ops j = some t → fr j = true ∧ j ≠ x)
  (hopsP : ∀ j o, x < j → j < m → ops[j]? = some o → ∀ w1, Chg S w0 w1 → F w1 → GOp P ops w1 (envF ops L (fun j => if kp j = true ∨ x ≤ j then As j else Any) 0 j) o (As j))
  (hops : ∀ j o, j < x → ops[j]? = some o → (fr j = false → GOp P ops w0 (envF ops L As 0 j) o (As j)) ∧ (fr j = true → ∀ w1, Chg S w0 w1 → GOp P ops w1 (envF ops L As 0 j) o (As j)) ∧ (kp j = true → AvS S (As j)))
  (hX : ∀ o, ops[x]? = some o → o.guard = none ∧ XOpZ P w0 S F (envF ops L As 0 x) o (As x)) (hLav : AvSL S L)
  (hend : ∀ a w, Chg S w0 w → F w → FrD n ds a w (envF ops L (fun j => if kp j = true ∨ x ≤ j then As j else Any) 0 m) → wpListIn (FW r) 0 P ops Q (ops.toList.drop m) a w) :
  ∀ (c : Nat) (listed : Array Bool) (a : Act) (w : World), (List.range m).countP (fun i => !listed.getD i true) = c → listed.size = ops.size →
   (∀ j, m ≤ j → j < ops.size → listed.getD j true = false) → LD ops listed → InvQ ops m x kp S F n ds w0 L As listed a w → wpAnyIn (FW r) 0 P .any ops Q (c + (ops.size - m)) listed a w
 | 0, listed, a, w, hc, hsz, hun, hld, hi => by
  have hall : ∀ j, j < m → listed.getD j false = true := by
   intro j hj
   have := (List.countP_eq_zero.1 hc) j (List.mem_range.2 hj)
   have hjl : j < listed.size := by omega
   simpa [hjl] using this
  rw [Nat.zero_add]
  refine wpAny_tail m hchk2 (ops.size - m) m (by omega) (Nat.le_refl _) listed a w hall hun hsz hld (hend a w hi.ext (hi.post (hall x hx0)) ⟨hi.size, hi.defers, fun t A ht => ?_⟩)
  rcases look_envF L _ t A m ht with ⟨j, hj, hd, rfl⟩ | ⟨hn, hl⟩
  ·by_cases hk : kp j = true ∨ x ≤ j
   ·rw [if_pos hk]
    exact hi.hA j hj (hall j hj) (.inr hk) t hd
   ·rw [if_neg hk]; trivial
  ·exact hi.hL t A hl hn
 | c + 1, listed, a, w, hc, hsz, hun, hld, hi => by
  have facts : ∀ i o, i < m → ops[i]? = some o → (∀ e ∈ o.after, Region.binds .any e = true → e.on < i) ∧ (∀ d, o.dst = some d → d < n) ∧
    (∀ t, t ∈ tmpsOf o ∨ gdst ops o = some t → ∀ j, j < m → dstOf ops j = some t → bnd ops i j = true) ∧ (∀ j, j < m → j ≠ i → ∀ d, o.dst = some d → dstOf ops j ≠ some d) := by
   intro i o hlt ho
   have := hchk i hlt
   simp only [chkOp, ho, Bool.and_eq_true, Array.all_eq_true_iff_forall_mem, Bool.or_eq_true, Bool.not_eq_true', List.all_eq_true, List.mem_range, List.mem_append, Option.mem_toList] at this
   obtain ⟨⟨⟨h1, h2⟩, h3⟩, h4⟩ := this
   refine ⟨fun e he hb => ?_, fun d hd => ?_, fun t ht j hj hd => ?_, fun j hj hne d hd hd' => ?_⟩
   ·rcases h1 e he with h | h
    ·rw [hb] at h; cases h
    ·simpa [Nat.blt_eq] using h
   ·simpa [hd, Nat.blt_eq] using h2
   ·have := h3 t ht j hj
    rcases this with h | h
    ·rw [hd] at h; simp at h
    ·exact h
   ·have := h4 j hj
    rcases this with h | h
    ·exact hne (Nat.eq_of_beq_eq_true h)
    ·rw [hd, hd'] at h; simp at h
  have prog : ∃ i, i < m ∧ listed.getD i true = false ∧ ∀ j, j < i → listed.getD j true = true := by
   have hex : ∃ i, i < m ∧ listed.getD i true = false := by
    have hpos : 0 < (List.range m).countP (fun i => !listed.getD i true) := by omega
    obtain ⟨i, hi, hb⟩ := List.countP_pos_iff.1 hpos
    exact ⟨i, List.mem_range.1 hi, by simpa using hb⟩
   obtain ⟨i, hlt, hb⟩ := hex
   induction i using Nat.strongRecOn with
   | _ i ih =>
    by_cases h : ∃ j, j < i ∧ listed.getD j true = false
    ·obtain ⟨j, hj, hjb⟩ := h
     exact ih j hj (by omega) hjb
    ·refine ⟨i, hlt, hb, fun j hj => ?_⟩
     cases hjb : listed.getD j true with
     | true => rfl
     | false => exact absurd ⟨j, hj, hjb⟩ h
  obtain ⟨i0, hi0, hu0, hbelow⟩ := prog
  have hready : i0 ∈ Region.ready .any ops listed := by
   have ho : ops[i0]? = some (ops[i0]'(by omega)) := by simp
   refine mem_ready.2 ⟨hu0, _, ho, fun e he hb => ?_⟩
   have hlt := (facts i0 _ hi0 ho).1 e he hb
   have := hbelow _ hlt
   have hjl : e.on < listed.size := by omega
   simpa [hjl] using this
  rw [show c + 1 + (ops.size - m) = (c + (ops.size - m)) + 1 by omega]
  refine ⟨fun h0 => (by rw [h0] at hready; cases hready), fun i hir => ?_⟩
  obtain ⟨hu, o, ho, hall⟩ := mem_ready.1 hir
  have hilt : i < ops.size := (Array.getElem?_eq_some_iff.1 ho).1
  have listed_of_bnd : ∀ j, bnd ops i j = true → listed.getD j false = true := by
   intro j hb
   simp only [bnd, ho] at hb
   obtain ⟨e, he, hb⟩ := Array.any_eq_true'.1 hb
   simp only [Bool.and_eq_true] at hb
   have := hall e he hb.1
   rwa [Nat.eq_of_beq_eq_true hb.2] at this
  have him : i < m := by
   rcases Nat.lt_or_ge i m with h | h
   ·exact h
   ·have hc := hchk2 i h hilt
    simp only [chkTail, ho, Bool.and_eq_true, List.all_eq_true, List.mem_range] at hc
    have := cov hld 12 i i0 (hc.2 i0 (by omega)) (fun o' ho' e he hb => by
     rw [ho] at ho'
     obtain rfl := Option.some.inj ho'
     exact hall e he hb)
    rw [not_listed hu0] at this
    cases this
  obtain ⟨f1, f2, f3, f4⟩ := facts i o him ho
  have hlx : x < i → listed.getD x false = true := fun hxi => cov hld 12 i x (hpo i hxi him) (fun o' ho' e he hb => by
   rw [ho] at ho'
   obtain rfl := Option.some.inj ho'
   exact hall e he hb)
  have hxun : i < x → fr i = false → listed.getD x true = false := by
   intro hix hfr
   cases hlx : listed.getD x true with
   | false => rfl
   | true =>
    have hxl : x < listed.size := by omega
    have hlx' : listed.getD x false = true := by simpa [hxl] using hlx
    have := cov hld 12 x i (hanc i hix hfr) (fun o' ho' e he hb => hld x o' hlx' ho' e he hb)
    rw [not_listed hu] at this
    cases this
  have hcond : i ≤ x → ∀ j, j < m → (∃ t, (t ∈ tmpsOf o ∨ gdst ops o = some t) ∧ dstOf ops j = some t) → (listed.getD x true = false ∨ kp j = true ∨ x ≤ j) := by
   rintro hix0 j hj ⟨t, ht, hd⟩
   by_cases hix : i = x
   ·exact .inl (hix ▸ hu)
   ·cases hfr : fr i with
    | true => exact .inr (.inl (hfk j (hfree i o (by omega) hfr ho t ht j hj hd).1))
    | false => exact .inl (hxun (by omega) hfr)
  have byLook : i ≤ x → ∀ t, (t ∈ tmpsOf o ∨ gdst ops o = some t) → ∀ B, look (envF ops L As 0 i) t = some B → B.p (a.eval (.tmp t)) w := by
   intro hix t ht B hB
   rcases look_envF L As t B i hB with ⟨j, hj, hd, rfl⟩ | ⟨hn, hl⟩
   ·exact hi.hA j (by omega) (listed_of_bnd j (f3 t ht j (by omega) hd)) (hcond hix j (by omega) ⟨t, ht, hd⟩) t hd
   ·refine hi.hL t B hl fun j hj hd => ?_
    have hb := f3 t ht j hj hd
    simp only [bnd, ho] at hb
    obtain ⟨e, he, hb⟩ := Array.any_eq_true'.1 hb
    simp only [Bool.and_eq_true] at hb
    have hlt := f1 e he hb.1
    rw [Nat.eq_of_beq_eq_true hb.2] at hlt
    exact hn j hlt hd
  have byLookP : ∀ t, (t ∈ tmpsOf o ∨ gdst ops o = some t) → ∀ B, look (envF ops L (fun j => if kp j = true ∨ x ≤ j then As j else Any) 0 i) t = some B → B.p (a.eval (.tmp t)) w := by
   intro t ht B hB
   rcases look_envF L _ t B i hB with ⟨j, hj, hd, rfl⟩ | ⟨hn, hl⟩
   ·by_cases hk : kp j = true ∨ x ≤ j
    ·rw [if_pos hk]
     exact hi.hA j (by omega) (listed_of_bnd j (f3 t ht j (by omega) hd)) (.inr hk) t hd
    ·rw [if_neg hk]; trivial
   ·refine hi.hL t B hl fun j hj hd => ?_
    have hb := f3 t ht j hj hd
    simp only [bnd, ho] at hb
    obtain ⟨e, he, hb⟩ := Array.any_eq_true'.1 hb
    simp only [Bool.and_eq_true] at hb
    have hlt := f1 e he hb.1
    rw [Nat.eq_of_beq_eq_true hb.2] at hlt
    exact hn j hlt hd
  have ops1 : i ≤ x → ∀ x ∈ o.op.operands, ∀ B, opd (envF ops L As 0 i) x = some B → B.p (a.eval x) w := fun hix x hx B hB => by
   cases x with
   | tmp t => exact byLook hix t (.inl (List.mem_filterMap.2 ⟨.tmp t, by simpa using hx, rfl⟩)) B hB
   | const v => simp [opd] at hB; subst hB; rfl
   | global g => simp [opd] at hB; subst hB; rfl
   | func f => simp [opd] at hB; subst hB; rfl
  have ops2 : ∀ x' ∈ o.op.operands, ∀ B, opd (envF ops L (fun j => if kp j = true ∨ x ≤ j then As j else Any) 0 i) x' = some B → B.p (a.eval x') w := fun x' hx B hB => by
   cases x' with
   | tmp t => exact byLookP t (.inl (List.mem_filterMap.2 ⟨.tmp t, by simpa using hx, rfl⟩)) B hB
   | const v => simp [opd] at hB; subst hB; rfl
   | global g => simp [opd] at hB; subst hB; rfl
   | func f => simp [opd] at hB; subst hB; rfl
  have hdst : dstOf ops i = o.dst := by simp [dstOf, ho]
  have step : ∀ v w', Chg S w w' → (i ≠ x → Ext w w') → (i = x → ∀ j, j < x → kp j = true → AvS S (As j)) → (As i).p v w' → (i = x → F w') → wpAnyIn (FW r) 0 P .any ops Q (c + (ops.size - m)) (listed.setIfInBounds i true) (a.put o.dst v) w' := by
   intro v w' hx hxe hxa hv hvF
   have stab : ∀ (A : VA) u, AvS S A → A.p u w → A.p u w' := fun A u hA h => hA.av _ _ _ hx h
   refine wpAny_mainQ hx0 hFst hm hchk hchk2 hanc hpo hfk hfree hopsP hops hX hLav hend c _ _ _ ?_ (by simpa using hsz) ?_ ?_ ?_
   ·have := countP_upd m (fun j => !listed.getD j true) (fun j => !(listed.setIfInBounds i true).getD j true) i him (by simp only [hu, Bool.not_false])
     (by
       have hjl : i < listed.size := by omega
       simp [hjl]) (fun j hj => by simp only [getD_set_ne true (Ne.symm hj)])
    omega
   ·intro j hj hj'
    rw [getD_set_ne true (by omega)]
    exact hun j hj hj'
   ·exact hld.set fun o' ho' e he hb => by
     rw [ho] at ho'
     obtain rfl := Option.some.inj ho'
     exact hall e he hb
   ·refine ⟨Chg.tr hi.ext hx, fun hl => ?_, fun hl => ?_, by simp [hi.size], by simp [hi.defers], fun t A ht hn => ?_, fun j hj hl hcj d hd => ?_⟩
    ·have hix : i ≠ x := by
      rintro rfl
      have hjl : i < listed.size := by omega
      simp [hjl] at hl
     rw [getD_set_ne true hix] at hl
     exact Ext.tr (hi.pre hl) (hxe hix)
    ·by_cases hix : i = x
     ·exact hvF hix
     ·rw [getD_set_ne false hix] at hl
      exact hFst _ _ (hxe hix) (hi.post hl)
    ·have h0 := stab A _ ⟨hLav.av t A ht⟩ (hi.hL t A ht hn)
     cases hod : o.dst with
     | none => exact h0
     | some d =>
      have : d ≠ t := fun e => hn i him (by rw [hdst, hod, e])
      rw [eval_put_ne this]
      exact h0
    ·by_cases hji : j = i
     ·subst hji
      rw [hdst] at hd
      rw [hd, eval_put_same (by rw [hi.size]; exact f2 d hd)]
      exact hv
     ·have hl' : listed.getD j false = true := by rwa [getD_set_ne false (Ne.symm hji)] at hl
      have hcj' : listed.getD x true = false ∨ kp j = true ∨ x ≤ j := by
       by_cases hix : i = x
       ·exact .inl (hix ▸ hu)
       ·rw [getD_set_ne true hix] at hcj
        exact hcj
      have h1 := hi.hA j hj hl' hcj' d hd
      have h0 : (As j).p (a.eval (.tmp d)) w' := by
       by_cases hix : i = x
       ·have hjx : j < x := by
         rcases Nat.lt_trichotomy j x with h | h | h
         ·exact h
         ·exact absurd (h.trans hix.symm) hji
         ·have := cov hld 12 j x (hpo j h hj) (fun o' ho' e he hb => hld j o' hl' ho' e he hb)
          rw [not_listed (hix ▸ hu)] at this
          cases this
        refine stab _ _ (hxa hix j hjx ?_) h1
        rcases hcj with h | h | h
        ·have hxl : x < listed.size := by omega
         subst hix
         simp [hxl] at h
        ·exact h
        ·omega
       ·exact (As j).st _ _ _ (hxe hix) h1
      cases hod : o.dst with
      | none => exact h0
      | some d' =>
       have : d' ≠ d := fun e => f4 j hj hji d' hod (by rw [hd, e])
       rw [eval_put_ne this]
       exact h0
  unfold wpOpIn
  simp only [ho]
  by_cases hix : i = x
  ·obtain ⟨hgd, hxo⟩ := hX o (hix ▸ ho)
   have hw : Region.wanted o (yielded ops a.tmps) = true := by unfold Region.wanted; rw [hgd]
   rw [if_pos hw]
   have hpre : Ext w0 w := hi.pre (hix ▸ hu)
   exact (hxo.out a.eval w hpre (hix ▸ ops1 (Nat.le_of_eq hix))).wp fun v w' hv => step v w' hv.1 (fun h => absurd hix h) (fun _ j hj => by
    have hoj : ops[j]? = some (ops[j]'(by omega)) := by simp
    exact fun hfj => (hops j _ hj hoj).2.2 hfj) (hix ▸ hv.2.1) (fun _ => hv.2.2)
  ·have hg : if Region.wanted o (yielded ops a.tmps) then OpR P o a.eval w (fun v w' => Ext w w' ∧ (As i).p v w') else (As i).p undef w := by
    by_cases hlt : i < x
    ·cases hfr : fr i with
     | true => exact (hops i o hlt ho).2.1 hfr w hi.ext a w (Ext.rfl' w) (ops1 (by omega)) (fun d B hd hB => byLook (by omega) d (.inr hd) B hB)
     | false => exact (hops i o hlt ho).1 hfr a w (hi.pre (hxun hlt hfr)) (ops1 (by omega)) (fun d B hd hB => byLook (by omega) d (.inr hd) B hB)
    ·exact hopsP i o (by omega) him ho w hi.ext (hi.post (hlx (by omega))) a w (Ext.rfl' w) ops2 (fun d B hd hB => byLookP d (.inr hd) B hB)
   split
   ·rename_i hw
    rw [if_pos hw] at hg
    exact (hg.wp fun v w' hv => step v w' (Ext.chg hv.1 S) (fun _ => hv.1) (fun h => absurd h hix) hv.2 (fun h => absurd h hix))
   ·rename_i hw
    rw [if_neg hw] at hg
    exact ⟨fun _ _ => trivial, step undef w (Chg.rfl' S w) (fun _ => Ext.rfl' _) (fun h => absurd h hix) hg (fun h => absurd h hix)⟩

def chkQ (ops : Array Oper) (m : Nat) (fr : List Nat) : Bool :=
 Nat.blt fr.length m && ((List.range fr.length).all fun j => frQ fr j || covers ops 12 fr.length j) && ((List.range m).all fun j => Nat.ble j fr.length || covers ops 12 j fr.length) &&
 ((
   List.range fr.length).all fun i => !frQ fr i || match ops[i]? with
   | none => false
   | some o => (tmpsOf o ++ (gdst ops o).toList).all fun t => (List.range m).all fun j => (match dstOf ops j with | some d => !Nat.beq d t | none => true) || (frQ fr j && Nat.blt j fr.length))
theorem regQ {id : Nat} {ops : Array Oper} {L : Env} {a : Act} {w : World} (m : Nat) (fr : List Nat) (S : Nat → Prop) (F : World → Prop) (hFst : ∀ w w', Ext w w' → F w → F w') (hmix : P.follows .mixedOrders = true) (hf : FrD n ds a w L) [hL : AvSL S L] (hchk : chk ops m n = true) (hchkZ : chkQ ops m fr = true)
  (h : RegQ P ops w S F fr (ops.toList.take m) (fun L' => ∀ a' w', Chg S w w' → F w' → FrD n ds a' w' L' → wpListIn (FW r) 0 P ops Q (ops.toList.drop m) a' w') L L) : (Code.region id ops true).wpIn (FW r) 0 P Q a w := by
 simp only [chk, Bool.and_eq_true, List.all_eq_true, List.mem_range, Bool.or_eq_true, Nat.ble_eq] at hchk
 obtain ⟨⟨hm, h1⟩, h2⟩ := hchk
 refine wpIn_region_any hmix ?_
 have hlen : (ops.toList.take m).length = m := by simp; omega
 obtain ⟨As, hfl, hAs, hX, hPo, hK⟩ := RegQ_As (ops := ops) (ops.toList.take m) fr 0 L L (fun j hj => by
  rw [hlen] at hj
  rw [Nat.zero_add, List.getElem?_take, if_pos hj]; simp) h
 rw [hlen] at hK hfl hPo
 simp only [chkQ, Bool.and_eq_true, List.all_eq_true, List.mem_range, Bool.or_eq_true, Nat.blt_eq, Nat.ble_eq] at hchkZ
 obtain ⟨⟨⟨hx, z1⟩, z3⟩, z2⟩ := hchkZ
 have hext : Ext w { w with drawn := w.drawn + 1 } := Ext.drew w
 have := wpAny_mainQ (P := P) (ops := ops) (Q := Q) (w0 := w) (n := n) (ds := ds) (m := m) (x := fr.length) (fr := frQ fr) (kp := kpQ fr) (S := S) (F := F) (r := r) (L := L) (As := As) hx hFst hm h1 (fun i hi hi' => by
   rcases h2 i hi' with h | h
   ·simp only [Nat.blt_eq] at h; omega
   ·exact h) (fun j hj hfj => by
   rcases z1 j hj with h | h
   ·rw [hfj] at h; cases h
   ·exact h) (fun j hj hjm => by
   rcases z3 j hjm with h | h
   ·omega
   ·exact h) (fun j h => by
   unfold frQ at h
   unfold kpQ
   rw [Nat.eq_of_beq_eq_true h]; rfl) (fun i o hi hfi ho t ht j hj hd => by
   have := z2 i hi
   rw [hfi, ho] at this
   simp only [Bool.not_true, Bool.false_eq_true, false_or, List.all_eq_true, List.mem_append, Option.mem_toList, List.mem_range, Bool.or_eq_true] at this
   rcases this t ht j hj with h | h
   ·rw [hd] at h; simp at h
   ·rw [Bool.and_eq_true, Nat.blt_eq] at h
    exact ⟨h.1, by omega⟩) (fun j o hj hjm ho => hPo j o hj hjm (by simpa using ho)) (fun j o hj ho => hAs j o hj (by simpa using ho)) (fun o ho => hX o (by simpa using ho)) hL (fun a w hx hF hf => hK a w hx hF hf) m
  (Array.replicate ops.size false) a { w with drawn := w.drawn + 1 } ?_ (by simp) ?_ ?_ ⟨hext.chg S, fun _ => hext, fun hl => ?_, hf.size, hf.defers, fun t A ht _ => A.st _ _ _ hext (hf.val t A ht), fun i hi hl => ?_⟩
 ·rwa [show m + (ops.size - m) = ops.size by omega] at this
 ·have : (List.range m).countP (fun i => !(Array.replicate ops.size false).getD i true) = (List.range m).length := by
   refine List.countP_eq_length.2 fun i hi => ?_
   have := List.mem_range.1 hi
   have hlt : i < ops.size := by omega
   simp [hlt]
  simpa using this
 ·intro j _ hj
  simp [hj]
 ·intro i o hl
  have : (Array.replicate ops.size false).getD i false = false := by
   by_cases hlt : i < ops.size <;> simp [hlt]
  rw [this] at hl; cases hl
 ·have : (Array.replicate ops.size false).getD fr.length false = false := by
   by_cases hlt : fr.length < ops.size <;> simp [hlt]
  rw [this] at hl; cases hl
 ·have : (Array.replicate ops.size false).getD i false = false := by
   by_cases hlt : i < ops.size <;> simp [hlt]
  rw [this] at hl; cases hl
end
section
variable {P : Program} {w0 : World} {L L2 : Env} {ty : TypeId} {pos : String} {aft : Array Edge}
variable {ops : Array Oper} {rest : List Oper} {K : Env → Prop} {A : VA} {op : Op} {dd : Nat} {S : Nat → Prop} {F : World → Prop} {fr : List Nat}
theorem qf (h : ∀ w1, Chg S w0 w1 → OpC P w1 L ⟨some dd, op, ty, pos, aft, none⟩ A) [hA : AvS S A] (k : RegQ P ops w0 S F fr rest K ((dd, A) :: L) ((dd, A) :: L2)) : RegQ P ops w0 S F (1 :: fr) (⟨some dd, op, ty, pos, aft, none⟩ :: rest) K L L2 :=
 ⟨A, fun h => absurd rfl h, fun _ w1 h1 a w he hv _ => by simp only [Region.wanted, if_true]; exact (h w1 h1).out _ w he hv, fun _ => hA, k⟩
theorem qa (h : OpC P w0 L ⟨some dd, op, ty, pos, aft, none⟩ A) (k : RegQ P ops w0 S F fr rest K ((dd, A) :: L) ((dd, Any) :: L2)) : RegQ P ops w0 S F (0 :: fr) (⟨some dd, op, ty, pos, aft, none⟩ :: rest) K L L2 :=
 ⟨A, fun _ a w he hv _ => by simp only [Region.wanted, if_true]; exact h.out _ w he hv, fun h => (by cases h), fun h => absurd rfl h, k⟩
theorem qx {d : Option Nat} (h : XOpZ P w0 S F L ⟨d, op, ty, pos, aft, none⟩ A) (k : RegP P ops w0 S F rest K (push d A L2)) : RegQ P ops w0 S F [] (⟨d, op, ty, pos, aft, none⟩ :: rest) K L L2 := ⟨rfl, A, h, k⟩
theorem qp (h : ∀ w1, Chg S w0 w1 → F w1 → OpC P w1 L2 ⟨some dd, op, ty, pos, aft, none⟩ A) (k : RegP P ops w0 S F rest K ((dd, A) :: L2)) : RegP P ops w0 S F (⟨some dd, op, ty, pos, aft, none⟩ :: rest) K L2 :=
 ⟨A, fun w1 h1 h2 a w he hv _ => by simp only [Region.wanted, if_true]; exact (h w1 h1 h2).out _ w he hv, k⟩
theorem qe (h : K L2) : RegP P ops w0 S F [] K L2 := h
end
end Go.Mono

namespace Go.Mono
open Go Go.RowKit
structure RelJ (S : World → World → Prop) : Prop where
 tr : ∀ {a b c}, S a b → S b c → S a c
 ext : ∀ {a b}, Ext a b → S a b
class StJ (S : World → World → Prop) (A : VA) : Prop where
 av : ∀ v w w', S w w' → A.p v w → A.p v w'
class StJL (S : World → World → Prop) (L : Env) : Prop where
 av : ∀ t A, look L t = some A → ∀ v w w', S w w' → A.p v w → A.p v w'
instance (S : World → World → Prop) (v : Value) : StJ S (E v) := ⟨fun _ _ _ _ h => h⟩
instance (S : World → World → Prop) : StJ S Any := ⟨fun _ _ _ _ h => h⟩
instance (S : World → World → Prop) : StJL S [] := ⟨fun t A h => by simp [look] at h⟩
instance (S : World → World → Prop) (k : Nat) (A : VA) (L : Env) [h : StJ S A] [hl : StJL S L] : StJL S ((k, A) :: L) := ⟨fun t B ht => by
 by_cases hkt : k = t
 ·subst hkt; rw [look_cons_same] at ht; cases ht; exact h.av
 ·rw [look_cons_ne _ _ hkt] at ht; exact hl.av t B ht⟩
structure XOpJ (P : Program) (w0 : World) (S : World → World → Prop) (F : World → Prop) (L : Env) (o : Oper) (A : VA) : Prop where
 out : ∀ ρ w, Ext w0 w → (∀ x ∈ o.op.operands, ∀ B, opd L x = some B → B.p (ρ x) w) → OpR P o ρ w (fun v w' => S w w' ∧ A.p v w' ∧ F w')
end Go.Mono
namespace Go.Mono
open Go Go.RowKit
def RegJP (P : Program) (ops : Array Oper) (w0 : World) (S : World → World → Prop) (F : World → Prop) : List Oper → (Env → Prop) → Env → Prop
 | [], K, L2 => K L2
 | o :: rest, K, L2 => ∃ A, (∀ w1, S w0 w1 → F w1 → GOp P ops w1 L2 o A) ∧ RegJP P ops w0 S F rest K (push o.dst A L2)
def RegJQ (P : Program) (ops : Array Oper) (w0 : World) (S : World → World → Prop) (F : World → Prop) : List Nat → List Oper → (Env → Prop) → Env → Env → Prop
 | [], o :: rest, K, L, L2 => o.guard = none ∧ ∃ A, XOpJ P w0 S F L o A ∧ RegJP P ops w0 S F rest K (push o.dst A L2)
 | c :: fr, o :: rest, K, L, L2 => ∃ A, (c ≠ 1 → GOp P ops w0 L o A) ∧ (c = 1 → ∀ w1, S w0 w1 → GOp P ops w1 L o A) ∧ (c ≠ 0 → StJ S A) ∧ RegJQ P ops w0 S F fr rest K (push o.dst A L) (push o.dst (if c ≠ 0 then A else Any) L2)
 | _, _, _, _, _ => False

section
variable {P : Program} {ops : Array Oper} {Q : Exit → Act → World → Prop} {w0 : World} {n : Nat} {ds : List Deferred} {r : Option Nat}

theorem RegJP_As {S : World → World → Prop} {F : World → Prop} {K : Env → Prop} : ∀ (M : List Oper) (k : Nat) (L : Env), (∀ j, j < M.length → ops[k + j]? = M[j]?) → RegJP P ops w0 S F M K L →
  ∃ As : Nat → VA, (∀ j o, j < M.length → ops[k + j]? = some o → ∀ w1, S w0 w1 → F w1 → GOp P ops w1 (envF ops L As k j) o (As j)) ∧ K (envF ops L As k M.length)
 | [], k, L, _, h => ⟨fun _ => Any, fun j o hj => by simp at hj, h⟩
 | o :: M, k, L, hM, ⟨A, hA, hr⟩ => by
  have h0 : ops[k]? = some o := by simpa using hM 0 (by simp)
  have hd : dstOf ops k = o.dst := by simp [dstOf, h0]
  obtain ⟨As, h1, h2⟩ := RegJP_As M (k + 1) (push o.dst A L) (fun j hj => by
   have := hM (j + 1) (by simpa using hj)
   rw [show k + 1 + j = k + (j + 1) by omega]
   simpa using this) hr
  refine ⟨consFY A As, ?_, ?_⟩
  ·intro j o' hj ho'
   cases j with
   | zero =>
    rw [Nat.add_zero, h0] at ho'
    obtain rfl := Option.some.inj ho'
    exact hA
   | succ j =>
    rw [envFY_cons, hd]
    exact h1 j o' (by simpa using hj) (by rw [show k + 1 + j = k + (j + 1) by omega]; exact ho')
  ·rw [List.length_cons, envFY_cons, hd]
   exact h2
theorem RegJQ_As {S : World → World → Prop} {F : World → Prop} {K : Env → Prop} : ∀ (M : List Oper) (fr : List Nat) (k : Nat) (L L2 : Env), (∀ j, j < M.length → ops[k + j]? = M[j]?) → RegJQ P ops w0 S F fr M K L L2 →
  ∃ As : Nat → VA, fr.length < M.length ∧ (∀ j o, j < fr.length → ops[k + j]? = some o → (frQ fr j = false → GOp P ops w0 (envF ops L As k j) o (As j)) ∧ (frQ fr j = true → ∀ w1, S w0 w1 → GOp P ops w1 (envF ops L As k j) o (As j)) ∧ (kpQ fr j = true → StJ S (As j))) ∧
   (∀ o, ops[k + fr.length]? = some o → o.guard = none ∧ XOpJ P w0 S F (envF ops L As k fr.length) o (As fr.length)) ∧
   (∀ j o, fr.length < j → j < M.length → ops[k + j]? = some o → ∀ w1, S w0 w1 → F w1 → GOp P ops w1 (envF ops L2 (fun j => if kpQ fr j = true ∨ fr.length ≤ j then As j else Any) k j) o (As j)) ∧
   K (envF ops L2 (fun j => if kpQ fr j = true ∨ fr.length ≤ j then As j else Any) k M.length)
 | [], [], _, _, _, _, h => h.elim
 | [], _ :: _, _, _, _, _, h => h.elim
 | o :: M, [], k, L, L2, hM, ⟨hg, A, h1, h2⟩ => by
  have h0 : ops[k]? = some o := by simpa using hM 0 (by simp)
  have hd : dstOf ops k = o.dst := by simp [dstOf, h0]
  obtain ⟨As, h3, h4⟩ := RegJP_As M (k + 1) (push o.dst A L2) (fun j hj => by
   have := hM (j + 1) (by simpa using hj)
   rw [show k + 1 + j = k + (j + 1) by omega]
   simpa using this) h2
  have e : (fun j => if kpQ [] j = true ∨ ([] : List Nat).length ≤ j then consFY A As j else Any) = consFY A As := by
   funext j
   simp
  refine ⟨consFY A As, by simp, fun j o hj => by simp at hj, fun o' ho' => ?_, fun j o' hj hj2 ho' => ?_, ?_⟩
  ·rw [List.length_nil, Nat.add_zero, h0] at ho'
   obtain rfl := Option.some.inj ho'
   exact ⟨hg, h1⟩
  ·rw [e]
   cases j with
   | zero => simp at hj
   | succ j =>
    rw [envFY_cons, hd]
    exact h3 j o' (by simpa using hj2) (by rw [show k + 1 + j = k + (j + 1) by omega]; exact ho')
  ·rw [e, List.length_cons, envFY_cons, hd]
   exact h4
 | o :: M, c :: fr, k, L, L2, hM, ⟨A, hA1, hA2, hA3, hr⟩ => by
  have h0 : ops[k]? = some o := by simpa using hM 0 (by simp)
  have hd : dstOf ops k = o.dst := by simp [dstOf, h0]
  obtain ⟨As, h1, h2, h3, h5, h4⟩ := RegJQ_As M fr (k + 1) _ _ (fun j hj => by
   have := hM (j + 1) (by simpa using hj)
   rw [show k + 1 + j = k + (j + 1) by omega]
   simpa using this) hr
  have hc1 : kpQ (c :: fr) 0 = true ↔ c ≠ 0 := by
   unfold kpQ
   cases c with
   | zero => simp
   | succ n => exact ⟨fun _ => Nat.succ_ne_zero n, fun _ => rfl⟩
  have hc2 : frQ (c :: fr) 0 = true ↔ c = 1 := by
   unfold frQ
   simp [Nat.beq_eq]
  have e : (fun j => if kpQ (c :: fr) j = true ∨ (c :: fr).length ≤ j then consFY A As j else Any) = consFY (if c ≠ 0 then A else Any) (fun j => if kpQ fr j = true ∨ fr.length ≤ j then As j else Any) := by
   funext j
   cases j with
   | zero =>
    show (if kpQ (c :: fr) 0 = true ∨ fr.length + 1 ≤ 0 then A else Any) = (if c ≠ 0 then A else Any)
    have : ¬ fr.length + 1 ≤ 0 := by omega
    simp [this, hc1]
   | succ j =>
    show (if kpQ fr j = true ∨ fr.length + 1 ≤ j + 1 then As j else Any) = _
    simp [consFY]
  refine ⟨consFY A As, by simp only [List.length_cons]; omega, ?_, ?_, ?_, ?_⟩
  ·intro j o' hj ho'
   cases j with
   | zero =>
    rw [Nat.add_zero, h0] at ho'
    obtain rfl := Option.some.inj ho'
    exact ⟨fun h => hA1 fun hc => (by rw [hc2.2 hc] at h; cases h), fun h => hA2 (hc2.1 h), fun h => hA3 (hc1.1 h)⟩
   | succ j =>
    rw [envFY_cons, hd]
    exact h2 j o' (by simpa using hj) (by rw [show k + 1 + j = k + (j + 1) by omega]; exact ho')
  ·intro o' ho'
   rw [List.length_cons, envFY_cons, hd]
   exact h3 o' (by rw [show k + 1 + fr.length = k + (fr.length + 1) by omega]; exact ho')
  ·intro j o' hj hj2 ho'
   rw [e]
   cases j with
   | zero => simp at hj
   | succ j =>
    rw [envFY_cons, hd]
    exact h5 j o' (by simpa using hj) (by simpa using hj2) (by rw [show k + 1 + j = k + (j + 1) by omega]; exact ho')
  ·rw [e, List.length_cons, envFY_cons, hd]
   exact h4

structure InvJ (ops : Array Oper) (m x : Nat) (kp : Nat → Bool) (S : World → World → Prop) (F : World → Prop) (n : Nat) (ds : List Deferred) (w0 : World) (L : Env) (As : Nat → VA) (listed : Array Bool) (a : Act) (w : World) : Prop where
 ext : S w0 w
 pre : listed.getD x true = false → Ext w0 w
 post : listed.getD x false = true → F w
 size : a.tmps.size = n
 defers : a.defers = ds
 hL : ∀ t A, look L t = some A → (∀ j, j < m → dstOf ops j ≠ some t) → A.p (a.eval (.tmp t)) w
 hA : ∀ i, i < m → listed.getD i false = true → (listed.getD x true = false ∨ kp i = true ∨ x ≤ i) → ∀ d, dstOf ops i = some d → (As i).p (a.eval (.tmp d)) w

theorem wpAny_mainJ {m x : Nat} {fr kp : Nat → Bool} {S : World → World → Prop} (hR : RelJ S) {F : World → Prop} (hx0 : x < m) (hFst : ∀ w w', Ext w w' → F w → F w') {L : Env} {As : Nat → VA} (hm : m ≤ ops.size) (hchk : ∀ i, i < m → chkOp ops m n i = true) (hchk2 : ∀ i, m ≤ i → i < ops.size → chkTail ops i = true)
  (hanc : ∀ j, j < x → fr j = false → covers ops 12 x j = true) (hpo : ∀ j, x < j → j < m → covers ops 12 j x = true) (hfk : ∀ j, fr j = true → kp j = true)
  (hfree : ∀ i o, i < x → fr i = true → ops[i]? = some o → ∀ t, (t ∈ tmpsOf o ∨ gdst ops o = some t) → ∀ j, j < m → dstOf ops j = some t → kp j = true ∧ j ≠ x)
  (hopsP : ∀ j o, x < j → j < m → ops[j]? = some o → ∀ w1, S w0 w1 → F w1 → GOp P ops w1 (envF ops L (fun j => if kp j = true ∨ x ≤ j then As j else Any) 0 j) o (As j))
  (hops : ∀ j o, j < x → ops[j]? = some o → (fr j = false → GOp P ops w0 (envF ops L As 0 j) o (As j)) ∧ (fr j = true → ∀ w1, S w0 w1 → GOp P ops w1 (envF ops L As 0 j) o (As j)) ∧ (kp j = true → StJ S (As j)))
  (hX : ∀ o, ops[x]? = some o → o.guard = none ∧ XOpJ P w0 S F (envF ops L As 0 x) o (As x)) (hLav : StJL S L)
  (hend : ∀ a w, S w0 w → F w → FrD n ds a w (envF ops L (fun j => if kp j = true ∨ x ≤ j then As j else Any) 0 m) → wpListIn (FW r) 0 P ops Q (ops.toList.drop m) a w) :
  ∀ (c : Nat) (listed : Array Bool) (a : Act) (w : World), (List.range m).countP (fun i => !listed.getD i true) = c → listed.size = ops.size →
   (∀ j, m ≤ j → j < ops.size → listed.getD j true = false) → LD ops listed → InvJ ops m x kp S F n ds w0 L As listed a w → wpAnyIn (FW r) 0 P .any ops Q (c + (ops.size - m)) listed a w
 | 0, listed, a, w, hc, hsz, hun, hld, hi => by
  have hall : ∀ j, j < m → listed.getD j false = true := by
   intro j hj
   have := (List.countP_eq_zero.1 hc) j (List.mem_range.2 hj)
   have hjl : j < listed.size := by omega
   simpa [hjl] using this
  rw [Nat.zero_add]
  refine wpAny_tail m hchk2 (ops.size - m) m (by omega) (Nat.le_refl _) listed a w hall hun hsz hld (hend a w hi.ext (hi.post (hall x hx0)) ⟨hi.size, hi.defers, fun t A ht => ?_⟩)
  rcases look_envF L _ t A m ht with ⟨j, hj, hd, rfl⟩ | ⟨hn, hl⟩
  ·by_cases hk : kp j = true ∨ x ≤ j
   ·rw [if_pos hk]
    exact hi.hA j hj (hall j hj) (.inr hk) t hd
   ·rw [if_neg hk]; trivial
  ·exact hi.hL t A hl hn
 | c + 1, listed, a, w, hc, hsz, hun, hld, hi => by
  have facts : ∀ i o, i < m → ops[i]? = some o → (∀ e ∈ o.after, Region.binds .any e = true → e.on < i) ∧ (∀ d, o.dst = some d → d < n) ∧
    (∀ t, t ∈ tmpsOf o ∨ gdst ops o = some t → ∀ j, j < m → dstOf ops j = some t → bnd ops i j = true) ∧ (∀ j, j < m → j ≠ i → ∀ d, o.dst = some d → dstOf ops j ≠ some d) := by
   intro i o hlt ho
   have := hchk i hlt
   simp only [chkOp, ho, Bool.and_eq_true, Array.all_eq_true_iff_forall_mem, Bool.or_eq_true, Bool.not_eq_true', List.all_eq_true, List.mem_range, List.mem_append, Option.mem_toList] at this
   obtain ⟨⟨⟨h1, h2⟩, h3⟩, h4⟩ := this
   refine ⟨fun e he hb => ?_, fun d hd => ?_, fun t ht j hj hd => ?_, fun j hj hne d hd hd' => ?_⟩
   ·rcases h1 e he with h | h
    ·rw [hb] at h; cases h
    ·simpa [Nat.blt_eq] using h
   ·simpa [hd, Nat.blt_eq] using h2
   ·have := h3 t ht j hj
    rcases this with h | h
    ·rw [hd] at h; simp at h
    ·exact h
   ·have := h4 j hj
    rcases this with h | h
    ·exact hne (Nat.eq_of_beq_eq_true h)
    ·rw [hd, hd'] at h; simp at h
  have prog : ∃ i, i < m ∧ listed.getD i true = false ∧ ∀ j, j < i → listed.getD j true = true := by
   have hex : ∃ i, i < m ∧ listed.getD i true = false := by
    have hpos : 0 < (List.range m).countP (fun i => !listed.getD i true) := by omega
    obtain ⟨i, hi, hb⟩ := List.countP_pos_iff.1 hpos
    exact ⟨i, List.mem_range.1 hi, by simpa using hb⟩
   obtain ⟨i, hlt, hb⟩ := hex
   induction i using Nat.strongRecOn with
   | _ i ih =>
    by_cases h : ∃ j, j < i ∧ listed.getD j true = false
    ·obtain ⟨j, hj, hjb⟩ := h
     exact ih j hj (by omega) hjb
    ·refine ⟨i, hlt, hb, fun j hj => ?_⟩
     cases hjb : listed.getD j true with
     | true => rfl
     | false => exact absurd ⟨j, hj, hjb⟩ h
  obtain ⟨i0, hi0, hu0, hbelow⟩ := prog
  have hready : i0 ∈ Region.ready .any ops listed := by
   have ho : ops[i0]? = some (ops[i0]'(by omega)) := by simp
   refine mem_ready.2 ⟨hu0, _, ho, fun e he hb => ?_⟩
   have hlt := (facts i0 _ hi0 ho).1 e he hb
   have := hbelow _ hlt
   have hjl : e.on < listed.size := by omega
   simpa [hjl] using this
  rw [show c + 1 + (ops.size - m) = (c + (ops.size - m)) + 1 by omega]
  refine ⟨fun h0 => (by rw [h0] at hready; cases hready), fun i hir => ?_⟩
  obtain ⟨hu, o, ho, hall⟩ := mem_ready.1 hir
  have hilt : i < ops.size := (Array.getElem?_eq_some_iff.1 ho).1
  have listed_of_bnd : ∀ j, bnd ops i j = true → listed.getD j false = true := by
   intro j hb
   simp only [bnd, ho] at hb
   obtain ⟨e, he, hb⟩ := Array.any_eq_true'.1 hb
   simp only [Bool.and_eq_true] at hb
   have := hall e he hb.1
   rwa [Nat.eq_of_beq_eq_true hb.2] at this
  have him : i < m := by
   rcases Nat.lt_or_ge i m with h | h
   ·exact h
   ·have hc := hchk2 i h hilt
    simp only [chkTail, ho, Bool.and_eq_true, List.all_eq_true, List.mem_range] at hc
    have := cov hld 12 i i0 (hc.2 i0 (by omega)) (fun o' ho' e he hb => by
     rw [ho] at ho'
     obtain rfl := Option.some.inj ho'
     exact hall e he hb)
    rw [not_listed hu0] at this
    cases this
  obtain ⟨f1, f2, f3, f4⟩ := facts i o him ho
  have hlx : x < i → listed.getD x false = true := fun hxi => cov hld 12 i x (hpo i hxi him) (fun o' ho' e he hb => by
   rw [ho] at ho'
   obtain rfl := Option.some.inj ho'
   exact hall e he hb)
  have hxun : i < x → fr i = false → listed.getD x true = false := by
   intro hix hfr
   cases hlx : listed.getD x true with
   | false => rfl
   | true =>
    have hxl : x < listed.size := by omega
    have hlx' : listed.getD x false = true := by simpa [hxl] using hlx
    have := cov hld 12 x i (hanc i hix hfr) (fun o' ho' e he hb => hld x o' hlx' ho' e he hb)
    rw [not_listed hu] at this
    cases this
  have hcond : i ≤ x → ∀ j, j < m → (∃ t, (t ∈ tmpsOf o ∨ gdst ops o = some t) ∧ dstOf ops j = some t) → (listed.getD x true = false ∨ kp j = true ∨ x ≤ j) := by
   rintro hix0 j hj ⟨t, ht, hd⟩
   by_cases hix : i = x
   ·exact .inl (hix ▸ hu)
   ·cases hfr : fr i with
    | true => exact .inr (.inl ((hfree i o (by omega) hfr ho t ht j hj hd).1))
    | false => exact .inl (hxun (by omega) hfr)
  have byLook : i ≤ x → ∀ t, (t ∈ tmpsOf o ∨ gdst ops o = some t) → ∀ B, look (envF ops L As 0 i) t = some B → B.p (a.eval (.tmp t)) w := by
   intro hix t ht B hB
   rcases look_envF L As t B i hB with ⟨j, hj, hd, rfl⟩ | ⟨hn, hl⟩
   ·exact hi.hA j (by omega) (listed_of_bnd j (f3 t ht j (by omega) hd)) (hcond hix j (by omega) ⟨t, ht, hd⟩) t hd
   ·refine hi.hL t B hl fun j hj hd => ?_
    have hb := f3 t ht j hj hd
    simp only [bnd, ho] at hb
    obtain ⟨e, he, hb⟩ := Array.any_eq_true'.1 hb
    simp only [Bool.and_eq_true] at hb
    have hlt := f1 e he hb.1
    rw [Nat.eq_of_beq_eq_true hb.2] at hlt
    exact hn j hlt hd
  have byLookP : ∀ t, (t ∈ tmpsOf o ∨ gdst ops o = some t) → ∀ B, look (envF ops L (fun j => if kp j = true ∨ x ≤ j then As j else Any) 0 i) t = some B → B.p (a.eval (.tmp t)) w := by
   intro t ht B hB
   rcases look_envF L _ t B i hB with ⟨j, hj, hd, rfl⟩ | ⟨hn, hl⟩
   ·by_cases hk : kp j = true ∨ x ≤ j
    ·rw [if_pos hk]
     exact hi.hA j (by omega) (listed_of_bnd j (f3 t ht j (by omega) hd)) (.inr hk) t hd
    ·rw [if_neg hk]; trivial
   ·refine hi.hL t B hl fun j hj hd => ?_
    have hb := f3 t ht j hj hd
    simp only [bnd, ho] at hb
    obtain ⟨e, he, hb⟩ := Array.any_eq_true'.1 hb
    simp only [Bool.and_eq_true] at hb
    have hlt := f1 e he hb.1
    rw [Nat.eq_of_beq_eq_true hb.2] at hlt
    exact hn j hlt hd
  have ops1 : i ≤ x → ∀ x ∈ o.op.operands, ∀ B, opd (envF ops L As 0 i) x = some B → B.p (a.eval x) w := fun hix x hx B hB => by
   cases x with
   | tmp t => exact byLook hix t (.inl (List.mem_filterMap.2 ⟨.tmp t, by simpa using hx, rfl⟩)) B hB
   | const v => simp [opd] at hB; subst hB; rfl
   | global g => simp [opd] at hB; subst hB; rfl
   | func f => simp [opd] at hB; subst hB; rfl
  have ops2 : ∀ x' ∈ o.op.operands, ∀ B, opd (envF ops L (fun j => if kp j = true ∨ x ≤ j then As j else Any) 0 i) x' = some B → B.p (a.eval x') w := fun x' hx B hB => by
   cases x' with
   | tmp t => exact byLookP t (.inl (List.mem_filterMap.2 ⟨.tmp t, by simpa using hx, rfl⟩)) B hB
   | const v => simp [opd] at hB; subst hB; rfl
   | global g => simp [opd] at hB; subst hB; rfl
   | func f => simp [opd] at hB; subst hB; rfl
  have hdst : dstOf ops i = o.dst := by simp [dstOf, ho]
  have step : ∀ v w', S w w' → (i ≠ x → Ext w w') → (i = x → ∀ j, j < x → kp j = true → StJ S (As j)) → (As i).p v w' → (i = x → F w') → wpAnyIn (FW r) 0 P .any ops Q (c + (ops.size - m)) (listed.setIfInBounds i true) (a.put o.dst v) w' := by
   intro v w' hx hxe hxa hv hvF
   have stab : ∀ (A : VA) u, StJ S A → A.p u w → A.p u w' := fun A u hA h => hA.av _ _ _ hx h
   refine wpAny_mainJ hR hx0 hFst hm hchk hchk2 hanc hpo hfk hfree hopsP hops hX hLav hend c _ _ _ ?_ (by simpa using hsz) ?_ ?_ ?_
   ·have := countP_upd m (fun j => !listed.getD j true) (fun j => !(listed.setIfInBounds i true).getD j true) i him (by simp only [hu, Bool.not_false])
     (by
       have hjl : i < listed.size := by omega
       simp [hjl]) (fun j hj => by simp only [getD_set_ne true (Ne.symm hj)])
    omega
   ·intro j hj hj'
    rw [getD_set_ne true (by omega)]
    exact hun j hj hj'
   ·exact hld.set fun o' ho' e he hb => by
     rw [ho] at ho'
     obtain rfl := Option.some.inj ho'
     exact hall e he hb
   ·refine ⟨hR.tr hi.ext hx, fun hl => ?_, fun hl => ?_, by simp [hi.size], by simp [hi.defers], fun t A ht hn => ?_, fun j hj hl hcj d hd => ?_⟩
    ·have hix : i ≠ x := by
      rintro rfl
      have hjl : i < listed.size := by omega
      simp [hjl] at hl
     rw [getD_set_ne true hix] at hl
     exact Ext.tr (hi.pre hl) (hxe hix)
    ·by_cases hix : i = x
     ·exact hvF hix
     ·rw [getD_set_ne false hix] at hl
      exact hFst _ _ (hxe hix) (hi.post hl)
    ·have h0 := stab A _ ⟨hLav.av t A ht⟩ (hi.hL t A ht hn)
     cases hod : o.dst with
     | none => exact h0
     | some d =>
      have : d ≠ t := fun e => hn i him (by rw [hdst, hod, e])
      rw [eval_put_ne this]
      exact h0
    ·by_cases hji : j = i
     ·subst hji
      rw [hdst] at hd
      rw [hd, eval_put_same (by rw [hi.size]; exact f2 d hd)]
      exact hv
     ·have hl' : listed.getD j false = true := by rwa [getD_set_ne false (Ne.symm hji)] at hl
      have hcj' : listed.getD x true = false ∨ kp j = true ∨ x ≤ j := by
       by_cases hix : i = x
       ·exact .inl (hix ▸ hu)
       ·rw [getD_set_ne true hix] at hcj
        exact hcj
      have h1 := hi.hA j hj hl' hcj' d hd
      have h0 : (As j).p (a.eval (.tmp d)) w' := by
       by_cases hix : i = x
       ·have hjx : j < x := by
         rcases Nat.lt_trichotomy j x with h | h | h
         ·exact h
         ·exact absurd (h.trans hix.symm) hji
         ·have := cov hld 12 j x (hpo j h hj) (fun o' ho' e he hb => hld j o' hl' ho' e he hb)
          rw [not_listed (hix ▸ hu)] at this
          cases this
        refine stab _ _ (hxa hix j hjx ?_) h1
        rcases hcj with h | h | h
        ·have hxl : x < listed.size := by omega
         subst hix
         simp [hxl] at h
        ·exact h
        ·omega
       ·exact (As j).st _ _ _ (hxe hix) h1
      cases hod : o.dst with
      | none => exact h0
      | some d' =>
       have : d' ≠ d := fun e => f4 j hj hji d' hod (by rw [hd, e])
       rw [eval_put_ne this]
       exact h0
  unfold wpOpIn
  simp only [ho]
  by_cases hix : i = x
  ·obtain ⟨hgd, hxo⟩ := hX o (hix ▸ ho)
   have hw : Region.wanted o (yielded ops a.tmps) = true := by unfold Region.wanted; rw [hgd]
   rw [if_pos hw]
   have hpre : Ext w0 w := hi.pre (hix ▸ hu)
   exact (hxo.out a.eval w hpre (hix ▸ ops1 (Nat.le_of_eq hix))).wp fun v w' hv => step v w' hv.1 (fun h => absurd hix h) (fun _ j hj => by
    have hoj : ops[j]? = some (ops[j]'(by omega)) := by simp
    exact fun hfj => (hops j _ hj hoj).2.2 hfj) (hix ▸ hv.2.1) (fun _ => hv.2.2)
  ·have hg : if Region.wanted o (yielded ops a.tmps) then OpR P o a.eval w (fun v w' => Ext w w' ∧ (As i).p v w') else (As i).p undef w := by
    by_cases hlt : i < x
    ·cases hfr : fr i with
     | true => exact (hops i o hlt ho).2.1 hfr w hi.ext a w (Ext.rfl' w) (ops1 (by omega)) (fun d B hd hB => byLook (by omega) d (.inr hd) B hB)
     | false => exact (hops i o hlt ho).1 hfr a w (hi.pre (hxun hlt hfr)) (ops1 (by omega)) (fun d B hd hB => byLook (by omega) d (.inr hd) B hB)
    ·exact hopsP i o (by omega) him ho w hi.ext (hi.post (hlx (by omega))) a w (Ext.rfl' w) ops2 (fun d B hd hB => byLookP d (.inr hd) B hB)
   split
   ·rename_i hw
    rw [if_pos hw] at hg
    exact (hg.wp fun v w' hv => step v w' (hR.ext hv.1) (fun _ => hv.1) (fun h => absurd h hix) hv.2 (fun h => absurd h hix))
   ·rename_i hw
    rw [if_neg hw] at hg
    exact ⟨fun _ _ => trivial, step undef w (hR.ext (Ext.rfl' w)) (fun _ => Ext.rfl' _) (fun h => absurd h hix) hg (fun h => absurd h hix)⟩

def chkJ (ops : Array Oper) (m : Nat) (fr : List Nat) : Bool :=
 Nat.blt fr.length m && ((List.range fr.length).all fun j => frQ fr j || covers ops 12 fr.length j) && ((List.range m).all fun j => Nat.ble j fr.length || covers ops 12 j fr.length) &&
 ((
   List.range fr.length).all fun i => !frQ fr i || match ops[i]? with
   | none => false
   | some o => (tmpsOf o ++ (gdst ops o).toList).all fun t => (List.range m).all fun j => (match dstOf ops j with | some d => !Nat.beq d t | none => true) || (kpQ fr j && Nat.blt j fr.length))
theorem regJ {id : Nat} {ops : Array Oper} {L : Env} {a : Act} {w : World} (m : Nat) (fr : List Nat) (S : World → World → Prop) (hR : RelJ S) (F : World → Prop) (hFst : ∀ w w', Ext w w' → F w → F w') (hmix : P.follows .mixedOrders = true) (hf : FrD n ds a w L) [hL : StJL S L] (hchk : chk ops m n = true) (hchkZ : chkJ ops m fr = true)
  (h : RegJQ P ops w S F fr (ops.toList.take m) (fun L' => ∀ a' w', S w w' → F w' → FrD n ds a' w' L' → wpListIn (FW r) 0 P ops Q (ops.toList.drop m) a' w') L L) : (Code.region id ops true).wpIn (FW r) 0 P Q a w := by
 simp only [chk, Bool.and_eq_true, List.all_eq_true, List.mem_range, Bool.or_eq_true, Nat.ble_eq] at hchk
 obtain ⟨⟨hm, h1⟩, h2⟩ := hchk
 refine wpIn_region_any hmix ?_
 have hlen : (ops.toList.take m).length = m := by simp; omega
 obtain ⟨As, hfl, hAs, hX, hPo, hK⟩ := RegJQ_As (ops := ops) (ops.toList.take m) fr 0 L L (fun j hj => by
  rw [hlen] at hj
  rw [Nat.zero_add, List.getElem?_take, if_pos hj]; simp) h
 rw [hlen] at hK hfl hPo
 simp only [chkJ, Bool.and_eq_true, List.all_eq_true, List.mem_range, Bool.or_eq_true, Nat.blt_eq, Nat.ble_eq] at hchkZ
 obtain ⟨⟨⟨hx, z1⟩, z3⟩, z2⟩ := hchkZ
 have hext : Ext w { w with drawn := w.drawn + 1 } := Ext.drew w
 have := wpAny_mainJ (P := P) (ops := ops) (Q := Q) (w0 := w) (n := n) (ds := ds) (m := m) (x := fr.length) (fr := frQ fr) (kp := kpQ fr) (S := S) (F := F) (r := r) (L := L) (As := As) hR hx hFst hm h1 (fun i hi hi' => by
   rcases h2 i hi' with h | h
   ·simp only [Nat.blt_eq] at h; omega
   ·exact h) (fun j hj hfj => by
   rcases z1 j hj with h | h
   ·rw [hfj] at h; cases h
   ·exact h) (fun j hj hjm => by
   rcases z3 j hjm with h | h
   ·omega
   ·exact h) (fun j h => by
   unfold frQ at h
   unfold kpQ
   rw [Nat.eq_of_beq_eq_true h]; rfl) (fun i o hi hfi ho t ht j hj hd => by
   have := z2 i hi
   rw [hfi, ho] at this
   simp only [Bool.not_true, Bool.false_eq_true, false_or, List.all_eq_true, List.mem_append, Option.mem_toList, List.mem_range, Bool.or_eq_true] at this
   rcases this t ht j hj with h | h
   ·rw [hd] at h; simp at h
   ·rw [Bool.and_eq_true, Nat.blt_eq] at h
    exact ⟨h.1, by omega⟩) (fun j o hj hjm ho => hPo j o hj hjm (by simpa using ho)) (fun j o hj ho => hAs j o hj (by simpa using ho)) (fun o ho => hX o (by simpa using ho)) hL (fun a w hx hF hf => hK a w hx hF hf) m
  (Array.replicate ops.size false) a { w with drawn := w.drawn + 1 } ?_ (by simp) ?_ ?_ ⟨hR.ext hext, fun _ => hext, fun hl => ?_, hf.size, hf.defers, fun t A ht _ => A.st _ _ _ hext (hf.val t A ht), fun i hi hl => ?_⟩
 ·rwa [show m + (ops.size - m) = ops.size by omega] at this
 ·have : (List.range m).countP (fun i => !(Array.replicate ops.size false).getD i true) = (List.range m).length := by
   refine List.countP_eq_length.2 fun i hi => ?_
   have := List.mem_range.1 hi
   have hlt : i < ops.size := by omega
   simp [hlt]
  simpa using this
 ·intro j _ hj
  simp [hj]
 ·intro i o hl
  have : (Array.replicate ops.size false).getD i false = false := by
   by_cases hlt : i < ops.size <;> simp [hlt]
  rw [this] at hl; cases hl
 ·have : (Array.replicate ops.size false).getD fr.length false = false := by
   by_cases hlt : fr.length < ops.size <;> simp [hlt]
  rw [this] at hl; cases hl
 ·have : (Array.replicate ops.size false).getD i false = false := by
   by_cases hlt : i < ops.size <;> simp [hlt]
  rw [this] at hl; cases hl
end
section
variable {P : Program} {w0 : World} {L L2 : Env} {ty : TypeId} {pos : String} {aft : Array Edge}
variable {ops : Array Oper} {rest : List Oper} {K : Env → Prop} {A : VA} {op : Op} {dd : Nat} {S : World → World → Prop} {F : World → Prop} {fr : List Nat}
theorem jf (h : ∀ w1, S w0 w1 → OpC P w1 L ⟨some dd, op, ty, pos, aft, none⟩ A) [hA : StJ S A] (k : RegJQ P ops w0 S F fr rest K ((dd, A) :: L) ((dd, A) :: L2)) : RegJQ P ops w0 S F (1 :: fr) (⟨some dd, op, ty, pos, aft, none⟩ :: rest) K L L2 :=
 ⟨A, fun h => absurd rfl h, fun _ w1 h1 a w he hv _ => by simp only [Region.wanted, if_true]; exact (h w1 h1).out _ w he hv, fun _ => hA, k⟩
theorem ja (h : OpC P w0 L ⟨some dd, op, ty, pos, aft, none⟩ A) (k : RegJQ P ops w0 S F fr rest K ((dd, A) :: L) ((dd, Any) :: L2)) : RegJQ P ops w0 S F (0 :: fr) (⟨some dd, op, ty, pos, aft, none⟩ :: rest) K L L2 :=
 ⟨A, fun _ a w he hv _ => by simp only [Region.wanted, if_true]; exact h.out _ w he hv, fun h => (by cases h), fun h => absurd rfl h, k⟩
theorem jk (h : OpC P w0 L ⟨some dd, op, ty, pos, aft, none⟩ A) [hA : StJ S A] (k : RegJQ P ops w0 S F fr rest K ((dd, A) :: L) ((dd, A) :: L2)) : RegJQ P ops w0 S F (2 :: fr) (⟨some dd, op, ty, pos, aft, none⟩ :: rest) K L L2 :=
 ⟨A, fun _ a w he hv _ => by simp only [Region.wanted, if_true]; exact h.out _ w he hv, fun h => (by cases h), fun _ => hA, k⟩
theorem jx {d : Option Nat} (h : XOpJ P w0 S F L ⟨d, op, ty, pos, aft, none⟩ A) (k : RegJP P ops w0 S F rest K (push d A L2)) : RegJQ P ops w0 S F [] (⟨d, op, ty, pos, aft, none⟩ :: rest) K L L2 := ⟨rfl, A, h, k⟩
theorem je (h : K L2) : RegJP P ops w0 S F [] K L2 := h
end
end Go.Mono
namespace Go.Mono
open Go Go.RowKit
structure ChT (N : Nat) (t : TypeId) (w w' : World) : Prop where
 chg : Chg (fun b => N ≤ b) w w'
 oth : ∀ (b : Nat) (o : Obj), w.heap[b]? = some o → (∀ cs m, o ≠ .cells cs t m) → w'.heap[b]? = some o
theorem ChT.rel (N : Nat) (t : TypeId) : RelJ (ChT N t) := ⟨fun h k => ⟨h.chg.tr k.chg, fun b o hb ho => k.oth b o (h.oth b o hb ho) ho⟩, fun e => ⟨e.chg _, fun b o hb ho => (e.block b (Array.getElem?_eq_some_iff.1 hb).1).trans hb⟩⟩
theorem Blk.chT {N : Nat} {t : TypeId} {w w' : World} {b : Nat} {cs : Array Value} {t' : TypeId} (h : Blk w b cs t') (k : ChT N t w w') (hne : t' ≠ t) : Blk w' b cs t' := k.oth b _ h fun cs m hh => hne (by cases hh; rfl)
instance (N : Nat) (t : TypeId) {α : Type} (e : Enc α) (G : Nat → Prop) (x : α) [h : InS G (fun b => N ≤ b)] : StJ (ChT N t) (Dv e G x) := ⟨fun v w w' k h1 => Dv.ch h1 k.chg h.in'⟩
instance (N : Nat) : InS (fun b => N ≤ b) (fun b => N ≤ b) := ⟨fun _ h => h⟩
theorem stJ_al {N : Nat} {t t' : TypeId} (B : Nat) (z : Value) (hne : t' ≠ t) : StJ (ChT N t) (AlA B z t') := ⟨fun v w w' k ⟨b, h1, h2, h3⟩ => ⟨b, h1, h2, h3.chT k hne⟩⟩
theorem xst {P : Program} {w0 : World} {L : Env} {ty : TypeId} {pos : String} {aft : Array Edge} {x y : Operand} {t : TypeId} {N B s : Nat} {z : Value} {A : VA} (ht : TI P t true s) (hx : opd L x = some (AlA B z t)) (hN : N ≤ B) (hz : z.cells.size = s)
  (hy : opd L y = some A) (hA : ∀ v w, A.p v w → ∃ cs, v = .agg cs ∧ cs.size = s ∧ cs.all (·.oneCell') = true) : XOpJ P w0 (ChT N t) (fun _ => True) L ⟨none, .store t x y, ty, pos, aft, none⟩ Any := by
 refine ⟨fun ρ w he hv => ?_⟩
 obtain ⟨b, hb, hxv, hB⟩ := hv x (by simp [Op.operands]) _ hx
 obtain ⟨cs, hyv, hcs, h1⟩ := hA _ _ (hv y (by simp [Op.operands]) _ hy)
 have hc : (Value.agg cs).cells = cs := rfl
 have hrun := run_storeCells_at (P := P) b 0 t cs.toList 0 z.cells w hB (by simp; omega) (fun v hv => by rw [Array.all_eq_true_iff_forall_mem] at h1; exact h1 v (by simpa using hv))
 simp only [Nat.add_zero, Array.length_toList, hcs] at hrun
 have hrun2 : OpR P ⟨none, .store t x y, ty, pos, aft, none⟩ ρ w (fun _ w' => w' = w.setRow b (z.cells.toList.take 0 ++ cs.toList ++ z.cells.toList.drop (0 + s)).toArray) := by
  simp [OpR, execOp, Instr.storeAt, Instr.sureAddr, hxv, hyv, storeVar, hc, ht.size, hcs, hrun]
 refine hrun2.mono ?_
 rintro v w' rfl
 have hg := grownBy_setRow w b (z.cells.toList.take 0 ++ cs.toList ++ z.cells.toList.drop (0 + s)).toArray
 refine ⟨⟨⟨hg.os, hg.tape, hg.output, hg.size, fun k hk hn => hg.block k hk fun hh => hn (by cases hh; omega)⟩, fun c o hc ho => ?_⟩, trivial, trivial⟩
 have hcb : c ≠ b := by
  rintro rfl
  rw [hB] at hc
  cases hc
  exact ho _ _ rfl
 exact (hg.block c (Array.getElem?_eq_some_iff.1 hc).1 fun hh => hcb (by cases hh; rfl)).trans hc
instance (S : World → World → Prop) {P : Program} {α β : Type} [DecidableEq α] (V : KV P α β) (l : List (α × β)) (i : α) (z : β) : StJ S (FndA V l i z) := ⟨fun _ _ _ _ h => h⟩
instance (S : World → World → Prop) (A B : VA) [hA : StJ S A] [hB : StJ S B] : StJ S (Tup [A, B]) := ⟨fun v w w' k ⟨vs, h1, h2, h3⟩ => ⟨vs, h1, h2, fun i C hC => by
 have h4 := h3 i C hC
 match i, hC with
 | 0, hC => simp at hC; subst hC; exact hA.av _ _ _ k h4
 | 1, hC => simp at hC; subst hC; exact hB.av _ _ _ k h4⟩⟩
theorem RelJ.one (b : Nat) : RelJ (Chg fun c => c = b) := ⟨fun h k => h.tr k, fun e => e.chg _⟩
instance (b : Nat) {α : Type} (e : Enc α) (G : Nat → Prop) (x : α) [h : InR G (some b)] : StJ (Chg fun c => c = b) (Dv e G x) := ⟨fun v w w' k h1 => Dv.ch h1 k fun c hc => h.in' c (by rw [hc])⟩
theorem xstB {P : Program} {w0 : World} {L : Env} {ty : TypeId} {pos : String} {aft : Array Edge} {x y : Operand} {t bt : TypeId} {b s : Nat} {cs0 : Array Value} {A : VA} (ht : TI P t true s) (hx : opd L x = some (E (.pointer (some ⟨b, 0, none⟩)))) (hB : Blk w0 b cs0 bt) (hz : cs0.size = s)
  (hy : opd L y = some A) (hA : ∀ v w, A.p v w → ∃ cs, v = .agg cs ∧ cs.size = s ∧ cs.all (·.oneCell') = true) (hst : ∀ v w w', Chg (fun c => c = b) w w' → A.p v w → A.p v w') :
  XOpJ P w0 (Chg fun c => c = b) (fun w' => ∃ cs, Blk w' b cs bt ∧ A.p (.agg cs) w') L ⟨none, .store t x y, ty, pos, aft, none⟩ Any := by
 refine ⟨fun ρ w he hv => ?_⟩
 have hxv : ρ x = .pointer (some ⟨b, 0, none⟩) := hv x (by simp [Op.operands]) _ hx
 have hAy := hv y (by simp [Op.operands]) _ hy
 obtain ⟨cs, hyv, hcs, h1⟩ := hA _ _ hAy
 have hB' := hB.ext he
 have hc : (Value.agg cs).cells = cs := rfl
 have hrun := run_storeCells_at (P := P) b 0 bt cs.toList 0 cs0 w hB' (by simp; omega) (fun v hv => by rw [Array.all_eq_true_iff_forall_mem] at h1; exact h1 v (by simpa using hv))
 simp only [Nat.add_zero, Array.length_toList, hcs] at hrun
 have hfin : (cs0.toList.take 0 ++ cs.toList ++ cs0.toList.drop (0 + s)).toArray = cs := by
  have : cs0.toList.drop (0 + s) = [] := by rw [List.drop_eq_nil_iff]; simp; omega
  rw [this]; simp
 have hrun2 : OpR P ⟨none, .store t x y, ty, pos, aft, none⟩ ρ w (fun _ w' => w' = w.setRow b (cs0.toList.take 0 ++ cs.toList ++ cs0.toList.drop (0 + s)).toArray) := by
  simp [OpR, execOp, Instr.storeAt, Instr.sureAddr, hxv, hyv, storeVar, hc, ht.size, hcs, hrun]
 refine hrun2.mono ?_
 rintro v w' rfl
 rw [hfin]
 have hg := grownBy_setRow w b cs
 have hch : Chg (fun c => c = b) w (w.setRow b cs) := ⟨hg.os, hg.tape, hg.output, hg.size, fun k hk hn => hg.block k hk fun hh => hn (by cases hh; rfl)⟩
 refine ⟨hch, trivial, cs, setRow_heap _ _ _ _ _ _ hB', ?_⟩
 rw [← hyv]
 exact hst _ _ _ hch hAy
end Go.Mono

namespace Go.Mono
open Go Go.Proofs Go.RowKit Go.Gr
theorem bTs (id : FuncId) (caps : Array Value) (c : Int) : Tryz.prog.built 125 [(0, .func (.func id) #[] caps), (1, .int .i64 c)] = some #[.func (.func id) #[] caps, .int .i64 c] := by kernel_rfl
theorem first_at {l : List (Bool × Int)} {k : Nat} {b : Bool} {c : Int} (h : ∀ y ∈ l.take k, y.1 = false) (hx : l[k]? = some (b, c)) (hb : b = true) : firstOf l = c := by
 induction l generalizing k with
 | nil => simp at hx
 | cons y r ih =>
  cases k with
  | zero => simp at hx; subst hx; subst hb; rfl
  | succ k =>
   have h0 := h y (by simp)
   obtain ⟨y1, y2⟩ := y
   simp only at h0
   subst h0
   simp only [firstOf, Bool.false_eq_true, if_false]
   exact ih (fun z hz => h z (by rw [List.take_succ_cons]; exact List.mem_cons_of_mem _ hz)) (by simpa using hx)
theorem first_no {l : List (Bool × Int)} (h : ∀ y ∈ l.take l.length, y.1 = false) : firstOf l = 0 := by
 rw [List.take_length] at h
 induction l with
 | nil => rfl
 | cons y r ih =>
  have h0 := h y (by simp)
  obtain ⟨y1, y2⟩ := y
  simp only at h0
  subst h0
  simp only [firstOf, Bool.false_eq_true, if_false]
  exact ih fun z hz => h z (by simp [hz])
theorem wf_mm {m n : Int} (hm : (Lit.int .i64 m).wf = true) (hn : (Lit.int .i64 n).wf = true) : (Lit.int .i64 (min m n)).wf = true ∧ (Lit.int .i64 (max m n)).wf = true := by
 by_cases h : m ≤ n
 ·rw [Int.min_eq_left h, Int.max_eq_right h]; exact ⟨hm, hn⟩
 ·rw [Int.min_eq_right (by omega), Int.max_eq_left (by omega)]; exact ⟨hn, hm⟩
theorem ends_ok {m n : Int} (hm : (Lit.int .i64 m).wf = true) (hn : (Lit.int .i64 n).wf = true) : eKV.ok (Gr.ends m n) := wf_mm hm hn
theorem th0 : okT (0, 0) := ⟨by decide, by decide⟩
theorem Blk.bo {w : World} {b : Nat} {t : TypeId} {c : Bool} (h : Blk w b #[.bool c] t) : (Dv (ptE boolE) Go.Mono.G0 (some c)).p (.pointer (some ⟨b, 0, none⟩)) w :=
 Dv.pt.2 ⟨_, rfl, fun h => h.elim, h.lt, _, rfl, fun i u hu => by
  have : (Addr.mk b 0 none).add i = ⟨b, i, none⟩ := by simp [Addr.add]; intro h; exact h.symm
  rw [this, h.cell]; simpa using hu⟩
instance (N B : Nat) (z : Value) : StJ (ChT N 89) (AlA B z 4) := stJ_al B z (by decide)
theorem wrong_spec {G : Nat → Prop} {M : Nat} (g : GT) (d : DT) (v : Value) (W : World) (h : (Dv (ptE (grE M)) G (some g)).p v W) (hw : (Lit.int .i64 d.2.1).wf = true) (hw2 : (Lit.int .i64 d.2.2.1).wf = true) :
  Calls Tryz.prog 41 #[v, dtV d] W (Post (E (I (wrongM g d))) W) := by
 refine enter (args := [v, dtV d]) (As := [Dv (ptE (grE M)) G0 (some g), Dv dtE G0 d]) Tryz.func41 rfl Tryz.ntmps41 (Nat.le_of_ble_eq_true rfl) ?_ (fun a hf => ?_) (Nat.le_of_ble_eq_true rfl)
 rotate_left
 dsimp only [params, Nat.reduceAdd] at hf
 rotate_right
 ·exact arg2 (Dv.weak h fun b _ hb => hb.elim) (Dv.dt.2 rfl)
 have e := Ext.rfl' W
 repeat refine seq ?_
 refine regn0 ?_
 refine tl_boxP hf rfl (by decide) (fun _ h => h.elim) fun a w e' hf => ?_
 replace e := e.tr e'
 clear e'
 refine tl_boxP hf rfl (by decide) (fun _ h => h.elim) fun a w e' hf => ?_
 replace e := e.tr e'
 refine tl_as hf rfl (by decide) fun a hf => ?_
 refine tl_nil ?_
 obtain ⟨N, hN⟩ : ∃ N, N = w.heap.size := ⟨_, rfl⟩
 have hNW : W.heap.size ≤ N := by rw [hN]; exact e.size
 replace hf := hf.upd 2 rfl (fun v hv => Dv.weak (G' := fun b => N ≤ b) hv (fun b hb hn => absurd hb (by omega)))
 replace hf := hf.upd 3 rfl (fun v hv => Dv.weak (G' := fun b => N ≤ b) hv (fun b hb hn => absurd hb (by omega)))
 have hNs : N ≤ w.heap.size := Nat.le_of_eq hN
 clear hN
 replace hf := hf.kp [2, 3, 4]
 have hq1 := hNs
 repeat refine seq ?_
 refine regJ 13 [1, 1, 1, 1, 1, 1, 1, 1, 1, 1, 0, 2] (ChT N 89) (ChT.rel _ _) (fun w => True) (fun w w1 k h => trivial) Mix.mix hf (by decide +kernel) (by decide +kernel) ?_
 refine jf (fun w1 h1 => ldD T27 (isR rfl)) ?_
 refine jf (fun w1 h1 => nilC (isR rfl)) ?_
 refine jf (fun w1 h1 => fldD Tryz.underlying87 rfl T84 (by decide) (Fld.fst Fld.refl) (isR rfl)) ?_
 refine jf (fun w1 h1 => ldD T84 (isR rfl)) ?_
 refine jf (fun w1 h1 => fldD Tryz.underlying46 rfl T3 (by decide) (Fld.snd (Fld.fst Fld.refl) rfl) (isR rfl)) ?_
 refine jf (fun w1 h1 => ldI T3 (isR rfl)) ?_
 refine jf (fun w1 h1 => hasM (V := vKV) (i := d.2.1) (z := (0, 0)) Tryz.underlying84 (zero_of I89) th0 (isR rfl) rfl hw) ?_
 refine jf (fun w1 h1 => mv rfl) ?_
 refine jf (fun w1 h1 => ext_ rfl rfl) ?_
 refine jf (fun w1 h1 => ext_ rfl rfl) ?_
 refine ja (alD I89) ?_
 refine jk (alD I4) ?_
 refine jx (xst T89 rfl hNs rfl rfl (fun v w hv => by obtain ⟨c, rfl, _⟩ := hv; exact ⟨_, rfl, rfl, one2 rfl rfl⟩)) ?_
 refine je ?_
 refine fun a w hc HF hf => ?_
 try dsimp only [push] at hf
 obtain ⟨_, ⟨b6, hb6, rfl, B6⟩, hf⟩ := hf.fix 6 rfl
 replace e := e.ch hc.chg (fun b hb => by omega); replace hNs := Nat.le_trans hNs hc.chg.size; clear hc
 haveI : InR (fun b => N ≤ b) (some b6) := ⟨fun b hb => by cases hb; omega⟩
 replace hf := hf.kp [2, 3, 4, 6, 22]
 refine tl_st1 T4 hf rfl rfl rfl B6 (by decide) fun w hg hsz B6 hf => ?_
 replace e := e.gr hg (by omega); replace hNs := Nat.le_trans hNs hg.size; clear hg
 refine tl_nil ?_
 replace B6 : Blk w b6 #[.bool (inV g.1 d.2.1)] 4 := B6
 replace hf := hf.kp [2, 3, 4, 6]
 have hq2 := hNs
 repeat refine seq ?_
 refine regJ 13 [1, 1, 1, 1, 1, 1, 1, 1, 1, 1, 0, 2] (ChT N 89) (ChT.rel _ _) (fun w => True) (fun w w1 k h => trivial) Mix.mix hf (by decide +kernel) (by decide +kernel) ?_
 refine jf (fun w1 h1 => ldD T27 (isR rfl)) ?_
 refine jf (fun w1 h1 => nilC (isR rfl)) ?_
 refine jf (fun w1 h1 => fldD Tryz.underlying87 rfl T84 (by decide) (Fld.fst Fld.refl) (isR rfl)) ?_
 refine jf (fun w1 h1 => ldD T84 (isR rfl)) ?_
 refine jf (fun w1 h1 => fldD Tryz.underlying46 rfl T3 (by decide) (Fld.snd (Fld.snd (Fld.fst Fld.refl) rfl) rfl) (isR rfl)) ?_
 refine jf (fun w1 h1 => ldI T3 (isR rfl)) ?_
 refine jf (fun w1 h1 => hasM (V := vKV) (i := d.2.2.1) (z := (0, 0)) Tryz.underlying84 (zero_of I89) th0 (isR rfl) rfl hw2) ?_
 refine jf (fun w1 h1 => mv rfl) ?_
 refine jf (fun w1 h1 => ext_ rfl rfl) ?_
 refine jf (fun w1 h1 => ext_ rfl rfl) ?_
 refine ja (alD I89) ?_
 refine jk (alD I4) ?_
 refine jx (xst T89 rfl hNs rfl rfl (fun v w hv => by obtain ⟨c, rfl, _⟩ := hv; exact ⟨_, rfl, rfl, one2 rfl rfl⟩)) ?_
 refine je ?_
 refine fun a w hc HF hf => ?_
 try dsimp only [push] at hf
 obtain ⟨_, ⟨b8, hb8, rfl, B8⟩, hf⟩ := hf.fix 8 rfl
 have n68 : b6 ≠ b8 := by have := B6.lt; omega
 replace e := e.ch hc.chg (fun b hb => by omega); replace hNs := Nat.le_trans hNs hc.chg.size; replace B6 := B6.chT hc (by decide); clear hc
 haveI : InR (fun b => N ≤ b) (some b8) := ⟨fun b hb => by cases hb; omega⟩
 replace hf := hf.kp [2, 3, 4, 6, 8, 32]
 refine tl_st1 T4 hf rfl rfl rfl B8 (by decide) fun w hg hsz B8 hf => ?_
 replace e := e.gr hg (by omega); replace hNs := Nat.le_trans hNs hg.size; replace B6 := B6.gr hg n68; clear hg
 refine tl_nil ?_
 replace B8 : Blk w b8 #[.bool (inV g.1 d.2.2.1)] 4 := B8
 replace hf := hf.kp [2, 3, 4, 6, 8]
 have hq3 := hNs
 repeat refine seq ?_
 refine regJ 16 [1, 1, 1, 1, 1, 1, 1, 1, 1, 1, 1, 1, 1, 0, 2] (ChT N 89) (ChT.rel _ _) (fun w => True) (fun w w1 k h => trivial) Mix.mix hf (by decide +kernel) (by decide +kernel) ?_
 refine jf (fun w1 h1 => ldD T27 (isR rfl)) ?_
 refine jf (fun w1 h1 => nilC (isR rfl)) ?_
 refine jf (fun w1 h1 => fldD Tryz.underlying87 rfl T85 (by decide) (Fld.snd Fld.refl rfl) (isR rfl)) ?_
 refine jf (fun w1 h1 => ldD T85 (isR rfl)) ?_
 refine jf (fun w1 h1 => fldD Tryz.underlying46 rfl T3 (by decide) (Fld.snd (Fld.fst Fld.refl) rfl) (isR rfl)) ?_
 refine jf (fun w1 h1 => ldI T3 (isR rfl)) ?_
 refine jf (fun w1 h1 => fldD Tryz.underlying46 rfl T3 (by decide) (Fld.snd (Fld.snd (Fld.fst Fld.refl) rfl) rfl) (isR rfl)) ?_
 refine jf (fun w1 h1 => ldI T3 (isR rfl)) ?_
 refine jf (fun w1 h1 => call2 (A := E (enV (Gr.ends d.2.1 d.2.2.1))) En65 rfl rfl (fun v u w he h h' => by cases h; cases h'; exact between_spec d.2.1 d.2.2.1 w)) ?_
 refine jf (fun w1 h1 => hasM (V := eKV) (i := Gr.ends d.2.1 d.2.2.1) (z := (0, 0)) Tryz.underlying85 (zero_of I89) th0 (isR rfl) rfl (ends_ok hw hw2)) ?_
 refine jf (fun w1 h1 => mv rfl) ?_
 refine jf (fun w1 h1 => ext_ rfl rfl) ?_
 refine jf (fun w1 h1 => ext_ rfl rfl) ?_
 refine ja (alD I89) ?_
 refine jk (alD I4) ?_
 refine jx (xst T89 rfl hNs rfl rfl (fun v w hv => by obtain ⟨c, rfl, _⟩ := hv; exact ⟨_, rfl, rfl, one2 rfl rfl⟩)) ?_
 refine je ?_
 refine fun a w hc HF hf => ?_
 try dsimp only [push] at hf
 obtain ⟨_, ⟨b10, hb10, rfl, B10⟩, hf⟩ := hf.fix 10 rfl
 have n610 : b6 ≠ b10 := by have := B6.lt; omega
 have n810 : b8 ≠ b10 := by have := B8.lt; omega
 replace e := e.ch hc.chg (fun b hb => by omega); replace hNs := Nat.le_trans hNs hc.chg.size; replace B6 := B6.chT hc (by decide); replace B8 := B8.chT hc (by decide); clear hc
 haveI : InR (fun b => N ≤ b) (some b10) := ⟨fun b hb => by cases hb; omega⟩
 replace hf := hf.kp [2, 3, 4, 6, 8, 10, 45]
 refine tl_st1 T4 hf rfl rfl rfl B10 (by decide) fun w hg hsz B10 hf => ?_
 replace e := e.gr hg (by omega); replace hNs := Nat.le_trans hNs hg.size; replace B6 := B6.gr hg n610; replace B8 := B8.gr hg n810; clear hg
 refine tl_nil ?_
 replace B10 : Blk w b10 #[.bool (inE g.2 d.2.1 d.2.2.1)] 4 := B10
 replace hf := hf.kp [2, 3, 4, 6, 8, 10]
 obtain ⟨p2, hp2, hf⟩ := hf.fix 2 rfl
 obtain ⟨p3, hp3, hf⟩ := hf.fix 3 rfl
 repeat refine seq ?_
 refine regn 19 hf (by decide +kernel) ?_
 refine st (makeF1 rfl) ?_
 refine st (bldV [(0, _), (1, _)] rfl (bTs _ _ _)) ?_
 refine st (makeF1 rfl) ?_
 refine st (bldV [(0, _), (1, _)] rfl (bTs _ _ _)) ?_
 refine st (makeF1 rfl) ?_
 refine st (bldV [(0, _), (1, _)] rfl (bTs _ _ _)) ?_
 refine st (makeF2 rfl rfl) ?_
 refine st (bldV [(0, _), (1, _)] rfl (bTs _ _ _)) ?_
 refine st (makeF3 rfl rfl rfl) ?_
 refine st (bldV [(0, _), (1, _)] rfl (bTs _ _ _)) ?_
 refine st (makeF2 rfl rfl) ?_
 refine st (bldV [(0, _), (1, _)] rfl (bTs _ _ _)) ?_
 refine st (makeF2 rfl rfl) ?_
 refine st (bldV [(0, _), (1, _)] rfl (bTs _ _ _)) ?_
 refine st (makeF2 rfl rfl) ?_
 refine st (bldV [(0, _), (1, _)] rfl (bTs _ _ _)) ?_
 refine st (bslN (e := tsE Tryz.prog) (G := Go.Mono.G0) (zs := tests g d) (xs := [.tmp 47, .tmp 49, .tmp 51, .tmp 53, .tmp 55, .tmp 57, .tmp 59, .tmp 61]) Tryz.underlying126 I125 rfl rfl (by decide) (by decide) rfl (fun b hb => hb.elim)  ⟨isE rfl (Dv.ts' En66 (fun w' k => q1_spec d w' p3 (Dv.hp hp3 k))), isE rfl (Dv.ts' En67 (fun w' k => q2_spec d w' p3 (Dv.hp hp3 k))), isE rfl (Dv.ts' En72 (fun w' k => q3_spec d w' p3 (Dv.hp hp3 k))),  isE rfl (Dv.ts' En73 (fun w' k => q4_spec d w' p3 _ _ (Dv.hp hp3 k) (Dv.hp B6.bo k))), isE rfl (Dv.ts' En74 (fun w' k => q5_spec d w' p3 _ _ _ _ (Dv.hp hp3 k) (Dv.hp B6.bo k) (Dv.hp B8.bo k))), isE rfl (Dv.ts' En75 (fun w' k => q6_spec d w' p3 _ _ (Dv.hp hp3 k) (Dv.hp B10.bo k))),  isE rfl (Dv.ts' En76 (fun w' k => q7_spec d w' p3 _ _ (Dv.hp hp3 k) (Dv.hp B10.bo k))), isE rfl (Dv.ts' En77 (fun w' k => q8_spec g d M w' p3 p2 (Dv.hp hp3 k) (Dv.hp hp2 k))), trivial⟩) ?_
 refine st (lenD Tryz.underlying126 (isR rfl)) ?_
 refine st (mv rfl) ?_
 refine en fun a w e' hf => ?_
 replace e := e.tr e'
 refine tl_nil ?_
 obtain ⟨W4, hW4⟩ : ∃ W4, W4 = w := ⟨_, rfl⟩
 have hNW4 : W.heap.size ≤ W4.heap.size := by rw [hW4]; exact e.size
 replace hf := hf.upd 62 rfl (fun v hv => Dv.weak (G' := GB W4 Go.Mono.G0) hv (fun b hb hn => hn.elim id fun hn => absurd hb (by rw [← hW4]; omega)))
 have hNs4 : W4.heap.size ≤ w.heap.size := by rw [hW4]; exact Nat.le_refl _
 replace hf := hf.upd (B := E (I (8 : Nat))) 63 rfl (fun v hv => hv)
 clear hW4 hNs hq1 hq2 hq3
 replace hf := hf.kp [4, 62, 63, 64]
 repeat refine seq ?_
 refine blk (loopN (fun r0 a w => ∃ (k : Nat) , r0 = 8 - k ∧ k ≤ 8 ∧ Fr 74 a w [(4, E (I 0)), (62, Dv (slE (tsE Tryz.prog)) (GB W4 Go.Mono.G0) (tests g d)), (63, E (I (8 : Nat))), (64, E (I k))] ∧ Ext W w ∧ W4.heap.size ≤ w.heap.size ∧ (∀ y ∈ (tests g d).take k, y.1 = false)) 8 ⟨0, rfl, by omega, hf, e, ⟨hNs4, by simp⟩⟩ ?_)
 clear hf e; try clear hNs4; try clear hn
 rintro r0 a w ⟨k, rfl, hk, hf, e, hNs4, hn⟩
 repeat refine seq ?_
 refine regn 1 hf (by decide +kernel) ?_
 refine st (lss rfl rfl) ?_
 refine en fun a w e' hf => ?_
 replace hNs4 := Nat.le_trans hNs4 e'.size
 replace e := e.tr e'
 refine tl_nil ?_
 repeat refine seq ?_
 refine ifc hf rfl (fun hc => wskip ?_) (fun hc => wexit ?_)
 rotate_left
 rotate_left
 ·have hlt : k < 8 := by have := of_decide_eq_true hc; (try dsimp only at this); omega
  clear hc
  replace hf := hf.kp [4, 62, 63, 64]
  repeat refine seq ?_
  refine blk ?_
  have hg := List.getElem?_eq_getElem (show k < (tests g d).length from hlt)
  generalize (tests g d)[k]'hlt = x at hg
  repeat refine seq ?_
  refine regn0 ?_
  refine tl_op hf (by decide) (idxD Tryz.underlying126 S125 (isR rfl) rfl (by omega) (hg)) fun a w e' hf => ?_
  replace hNs4 := Nat.le_trans hNs4 e'.size
  replace e := e.tr e'
  clear e'
  refine tl_op hf (by decide) (ldD T125 (isR rfl)) fun a w e' hf => ?_
  replace hNs4 := Nat.le_trans hNs4 e'.size
  replace e := e.tr e'
  clear e'
  obtain ⟨v67, h67, hf⟩ := hf.fix 67 rfl
  obtain ⟨id0, caps, rfl, hEn, hCa⟩ := Dv.ts h67
  replace hf := hf.kp [4, 62, 63, 64, 67]
  haveI hiW : ∀ b, W4.heap.size ≤ b → ∀ G0, InR (GB W4 G0) (some b) := fun b hb G0 => InR.gb hb
  have e2 := Ext.rfl' w
  refine tl_alloc I125 hf (by decide) fun a b12 w e' hb12 hs12 B12 hf => ?_
  have hle12 := Nat.le_trans e.size (Nat.le_of_eq hb12.symm)
  have lo12_hNs4 := Nat.le_trans hNs4 (Nat.le_of_eq hb12.symm)
  replace hNs4 := Nat.le_trans hNs4 e'.size
  replace e2 := Ext.tr e2 e'
  replace e := e.tr e'
  clear e'
  haveI hib := hiW b12 (by omega)
  refine tl_stW T125 hf rfl rfl (one2 rfl rfl) B12 rfl rfl fun w hg' hsz B12 hf => ?_
  replace e2 := e2.gr hg' (by omega)
  have hCa' : ∀ w', Ext w w' → Calls Tryz.prog id0 caps w' (Post (E (.bool x.1)) w') := fun w' he => hCa w' (Ext.tr e2 he)
  clear e2
  replace e := e.gr hg' (by omega); replace hNs4 := Nat.le_trans hNs4 hg'.size; clear hg'
  refine tl_nil ?_
  replace hf := hf.kp [4, 12, 62, 63, 64]
  repeat refine seq ?_
  refine regn 3 hf (by decide +kernel) ?_
  refine st (fldA Tryz.underlying125 rfl T30 (by decide) rfl) ?_
  refine st ((ld1 T30 rfl (by assumption) rfl).eq ((rfl : _ = Value.func (.func id0) #[] caps))) ?_
  refine st (callV0 hEn rfl (fun w he => hCa' w he)) ?_
  refine en fun a w e' hf => ?_
  replace hNs4 := Nat.le_trans hNs4 e'.size
  replace e := e.tr e'
  replace B12 := B12.ext e'
  refine tl_nil ?_
  repeat refine seq ?_
  refine ifc hf rfl (fun hb => ?_) (fun hb => ?_)
  ·repeat refine seq ?_
   refine regn 2 hf (by decide +kernel) ?_
   refine st (fldA Tryz.underlying125 rfl T31 (by decide) rfl) ?_
   refine st (ld1 T31 rfl (by assumption) rfl) ?_
   refine en fun a w e' hf => ?_
   replace hNs4 := Nat.le_trans hNs4 e'.size
   replace e := e.tr e'
   replace B12 := B12.ext e'
   refine tl_as hf rfl (by decide) fun a hf => ?_
   refine tl_nil ?_
   refine wret ?_
   try simp only [Exit.then, Exit.inBlock]
   refine ret1 rfl hf rfl ?_
   rintro _ rfl
   exact ⟨_, rfl, e, (congrArg I (by rw [wrongM]; exact (first_at hn hg hb).symm))⟩
  ·refine wskip ?_
   try simp only [Exit.then, Exit.inBlock, ↓reduceIte]
   try simp only [Exit.then, Exit.inBlock, ↓reduceIte]
   repeat refine seq ?_
   refine regn 1 hf (by decide +kernel) ?_
   refine st ((add rfl rfl (by omega)).eq (congrArg (Value.int .i64) (show (k : Int) + 1 = ((k + 1 : Nat) : Int) from rfl))) ?_
   refine en fun a w e' hf => ?_
   replace hNs4 := Nat.le_trans hNs4 e'.size
   replace e := e.tr e'
   replace B12 := B12.ext e'
   clear e'
   refine tl_op hf (by decide) (mv rfl) fun a w e' hf => ?_
   replace hNs4 := Nat.le_trans hNs4 e'.size
   replace e := e.tr e'
   replace B12 := B12.ext e'
   refine tl_nil ?_
   replace hf := hf.kp [4, 62, 63, 64]
   refine ⟨_, ?_, k + 1, rfl, by omega, hf, e, ?_⟩
   ·omega
   exact ⟨hNs4, no_succ (p := fun y : Bool × Int => y.1) hn hg hb⟩
 ·obtain rfl : k = 8 := by have := of_decide_eq_false hc; (try dsimp only at this); omega
  clear hc
  simp only [Exit.then, Exit.inBlock, ↓reduceIte]
  repeat refine seq ?_
  refine regn0 ?_
  refine tl_as hf rfl (by decide) fun a hf => ?_
  refine tl_nil ?_
  refine wret ?_
  try simp only [Exit.then, Exit.inBlock]
  refine ret1 rfl hf rfl ?_
  rintro _ rfl
  exact ⟨_, rfl, e, (congrArg I (by rw [wrongM, first_no (show ∀ y ∈ (tests g d).take (tests g d).length, y.1 = false from hn)]))⟩
end Go.Mono

namespace Go.Mono
open Go Go.Proofs Go.RowKit Go.Gr
structure GrR (w : World) (bg bv be n : Nat) (g : GT) : Prop where
 blk : Blk w bg #[.map (some bv), .map (some be)] 87
 vs : MpR vKV w bv n g.1
 es : MpR eKV w be n g.2
 ne : bv ≠ be
theorem MpR.neB {P : Program} {α β : Type} [DecidableEq α] {V : KV P α β} {w : World} {b c n : Nat} {l : List (α × β)} {cs : Array Value} {t : TypeId} (h : MpR V w b n l) (k : Blk w c cs t) : b ≠ c := by
 rintro rfl
 obtain ⟨D, ⟨es, clock, hb, _⟩, _⟩ := h
 rw [k] at hb; cases hb
section
variable {w w' : World} {bg bv be n : Nat} {g : GT}
theorem GrR.n1 (h : GrR w bg bv be n g) : bv ≠ bg ∧ be ≠ bg := ⟨h.vs.neB h.blk, h.es.neB h.blk⟩
theorem GrR.ext (h : GrR w bg bv be n g) (e : Ext w w') : GrR w' bg bv be n g := ⟨h.blk.ext e, h.vs.ext e, h.es.ext e, h.ne⟩
theorem GrR.perm (h : GrR w bg bv be n g) {g' : GT} (h1 : g.1.Perm g'.1) (h2 : g.2.Perm g'.2) : GrR w bg bv be n g' := ⟨h.blk, h.vs.perm h1, h.es.perm h2, h.ne⟩
theorem GrR.mono (h : GrR w bg bv be n g) {m : Nat} (hm : n ≤ m) : GrR w bg bv be m g := ⟨h.blk, h.vs.mono hm, h.es.mono hm, h.ne⟩
theorem GrR.ch (h : GrR w bg bv be n g) {S : Nat → Prop} (c : Chg S w w') (h1 : ¬S bg) (h2 : ¬S bv) (h3 : ¬S be) : GrR w' bg bv be n g := ⟨h.blk.ch c h1, h.vs.pres (c.block _ h.vs.lt h2), h.es.pres (c.block _ h.es.lt h3), h.ne⟩
theorem GrR.dv (h : GrR w bg bv be n g) {N : Nat} (hN : n ≤ N) {G : Nat → Prop} (h1 : ¬G bg) (h2 : ¬G bv) (h3 : ¬G be) : (Dv (ptE (grE N)) G (some g)).p (.pointer (some ⟨bg, 0, none⟩)) w :=
 Dv.pt.2 ⟨_, rfl, h1, h.blk.lt, _, ⟨_, _, rfl, ⟨bv, n, rfl, h2, hN, h.vs⟩, ⟨be, n, rfl, h3, hN, h.es⟩⟩, fun i u hu => by
  have : (Addr.mk bg 0 none).add i = ⟨bg, i, none⟩ := by simp [Addr.add]; intro h; exact h.symm
  rw [this, h.blk.cell]; simpa using hu⟩
end
theorem bGr (p q : Option Nat) : Tryz.prog.built 87 [(0, .map p), (1, .map q)] = some #[.map p, .map q] := by kernel_rfl
theorem bTh (c : Int × Int) : Tryz.prog.built 89 [(0, .int .u8 c.1), (1, .int .i64 c.2)] = some #[.int .u8 c.1, .int .i64 c.2] := by kernel_rfl
theorem gnewG_spec (W : World) : Calls Tryz.prog 32 #[] W fun en w' => ∃ bg bv be, en = .returned (.pointer (some ⟨bg, 0, none⟩)) ∧ Ext W w' ∧ W.heap.size ≤ bg ∧ W.heap.size ≤ bv ∧ W.heap.size ≤ be ∧ GrR w' bg bv be 0 ([], []) := by
 refine enter (args := []) (As := []) Tryz.func32 rfl Tryz.ntmps32 (Nat.le_of_ble_eq_true rfl) ?_ (fun a hf => ?_) (Nat.le_of_ble_eq_true rfl)
 ·intro i A h; simp at h
 dsimp only [params, Nat.reduceAdd] at hf
 have e := Ext.rfl' W
 repeat refine seq ?_
 refine regn0 ?_
 refine tl_as hf rfl (by decide) fun a hf => ?_
 refine tl_nil ?_
 repeat refine seq ?_
 refine regn 0 hf (by decide +kernel) ?_
 refine en fun a w e' hf => ?_
 replace e := e.tr e'; clear e'
 refine tl_mkV vKV hf (by decide) fun a b1 w e' hb1 hs1 M1 hf => ?_
 have hle1 := Nat.le_trans e.size (Nat.le_of_eq hb1.symm)
 replace e := e.tr e'; clear e'
 refine tl_mkV eKV hf (by decide) fun a b2 w e' hb2 hs2 M2 hf => ?_
 have hle2 := Nat.le_trans e.size (Nat.le_of_eq hb2.symm)
 replace e := e.tr e'; replace M1 := M1.ext e'; clear e'
 refine tl_op hf (by decide) (bldV [(0, _), (1, _)] rfl (bGr (some b1) (some b2))) fun a w e' hf => ?_
 replace e := e.tr e'; replace M1 := M1.ext e'; replace M2 := M2.ext e'; clear e'
 refine tl_box hf rfl (by decide) fun a b4 w v4 hv4 e' hb4 hs4 B4 hf => ?_
 cases hv4
 have hle4 := Nat.le_trans e.size (Nat.le_of_eq hb4.symm)
 replace e := e.tr e'; replace M1 := M1.ext e'; replace M2 := M2.ext e'; clear e'
 refine tl_as hf rfl (by decide) fun a hf => ?_
 refine tl_nil ?_
 refine wret ?_
 try simp only [Exit.then, Exit.inBlock]
 refine ret1 rfl hf rfl ?_
 rintro _ rfl
 exact ⟨b4, b1, b2, rfl, e, hle4, hle1, hle2, B4, M1, M2, by omega⟩
theorem add_spec (g : GT) (d : DT) (bg bv be n : Nat) (W : World) (hg : GrR W bg bv be n g) (hn : n < maxLen) (h1 : vKV.ok d.2.1) (h2 : okT d.2.2.2) :
  Calls Tryz.prog 78 #[.pointer (some ⟨bg, 0, none⟩), dtV d] W fun en w' => en = .returned (.tuple #[]) ∧ Chg (fun b => b = bv ∨ b = be) W w' ∧ GrR w' bg bv be (n + 1) (putP g.1 d.2.1 d.2.2.2, g.2) := by
 refine enter (args := [.pointer (some ⟨bg, 0, none⟩), dtV d]) (As := [E (.pointer (some ⟨bg, 0, none⟩)), E (dtV d)]) Tryz.func78 rfl Tryz.ntmps78 (Nat.le_of_ble_eq_true rfl) ?_ (fun a hf => ?_) (Nat.le_of_ble_eq_true rfl)
 rotate_left
 dsimp only [params, Nat.reduceAdd] at hf
 rotate_right
 ·exact arg2 rfl rfl
 have e := Ext.rfl' W
 have BG := hg.blk; have MV := hg.vs; have ME := hg.es
 repeat refine seq ?_
 refine regn0 ?_
 refine tl_box hf rfl (by decide) fun a b3 w v3 hv3 e' hb3 hs3 B3 hf => ?_
 have hle3 := Nat.le_trans e.size (Nat.le_of_eq hb3.symm)
 have lt3_BG := BG.lt
 replace e := e.tr e'
 replace BG := BG.ext e'
 replace MV := MV.ext e'
 replace ME := ME.ext e'
 refine tl_nil ?_
 cases hv3
 repeat refine seq ?_
 refine reg 11 Mix.mix hf (by decide +kernel) ?_
 refine st (mv rfl) ?_
 refine st (nilE rfl) ?_
 refine st (fldA Tryz.underlying87 rfl T84 (by decide) rfl) ?_
 refine st (ld1 T84 rfl BG rfl) ?_
 refine st (fldA Tryz.underlying46 rfl T3 (by decide) rfl) ?_
 refine st (ld1 T3 rfl B3 rfl) ?_
 refine st (fldA Tryz.underlying46 rfl T5 (by decide) rfl) ?_
 refine st (ld1 T5 rfl B3 rfl) ?_
 refine st (fldA Tryz.underlying46 rfl T3 (by decide) rfl) ?_
 refine st (ld1 T3 rfl B3 rfl) ?_
 refine st (bldV [(0, _), (1, _)] rfl (bTh d.2.2.2)) ?_
 refine en fun a w e' hf => ?_
 replace e := e.tr e'
 replace BG := BG.ext e'
 replace MV := MV.ext e'
 replace ME := ME.ext e'
 replace B3 := B3.ext e'
 clear e'
 replace hf := hf.kp [7, 9, 14]
 refine tl_mputV (V := vKV) (i := d.2.1) (c := d.2.2.2) Tryz.underlying84 hf rfl rfl rfl MV hn h1 h2 fun w hg' MV hf => ?_
 refine tl_nil ?_
 refine ret0n rfl hf ?_
 exact ⟨rfl, (e.chg _).gr hg' (.inl (.inl rfl)), BG.gr hg' hg.n1.1.symm, MV, (ME.gr hg' (fun h => hg.ne (by cases h; rfl))).mono (Nat.le_succ _), hg.ne⟩
theorem join_spec (g : GT) (d : DT) (bg bv be n : Nat) (W : World) (hg : GrR W bg bv be n g) (hn : n < maxLen) (h1 : eKV.ok (Gr.ends d.2.1 d.2.2.1)) (h2 : okT d.2.2.2) :
  Calls Tryz.prog 80 #[.pointer (some ⟨bg, 0, none⟩), dtV d] W fun en w' => en = .returned (.tuple #[]) ∧ Chg (fun b => b = bv ∨ b = be) W w' ∧ GrR w' bg bv be (n + 1) (g.1, putP g.2 (Gr.ends d.2.1 d.2.2.1) d.2.2.2) := by
 refine enter (args := [.pointer (some ⟨bg, 0, none⟩), dtV d]) (As := [E (.pointer (some ⟨bg, 0, none⟩)), E (dtV d)]) Tryz.func80 rfl Tryz.ntmps80 (Nat.le_of_ble_eq_true rfl) ?_ (fun a hf => ?_) (Nat.le_of_ble_eq_true rfl)
 rotate_left
 dsimp only [params, Nat.reduceAdd] at hf
 rotate_right
 ·exact arg2 rfl rfl
 have e := Ext.rfl' W
 have BG := hg.blk; have MV := hg.vs; have ME := hg.es
 repeat refine seq ?_
 refine regn0 ?_
 refine tl_box hf rfl (by decide) fun a b3 w v3 hv3 e' hb3 hs3 B3 hf => ?_
 have hle3 := Nat.le_trans e.size (Nat.le_of_eq hb3.symm)
 have lt3_BG := BG.lt
 replace e := e.tr e'
 replace BG := BG.ext e'
 replace MV := MV.ext e'
 replace ME := ME.ext e'
 refine tl_nil ?_
 cases hv3
 repeat refine seq ?_
 refine reg 14 Mix.mix hf (by decide +kernel) ?_
 refine st (mv rfl) ?_
 refine st (nilE rfl) ?_
 refine st (fldA Tryz.underlying87 rfl T85 (by decide) rfl) ?_
 refine st (ld1 T85 rfl BG rfl) ?_
 refine st (fldA Tryz.underlying46 rfl T3 (by decide) rfl) ?_
 refine st (ld1 T3 rfl B3 rfl) ?_
 refine st (fldA Tryz.underlying46 rfl T3 (by decide) rfl) ?_
 refine st (ld1 T3 rfl B3 rfl) ?_
 refine st (call2 (A := E (enV (Gr.ends d.2.1 d.2.2.1))) En65 rfl rfl (fun v u w he h h' => by cases h; cases h'; exact between_spec d.2.1 d.2.2.1 w)) ?_
 refine st (fldA Tryz.underlying46 rfl T5 (by decide) rfl) ?_
 refine st (ld1 T5 rfl B3 rfl) ?_
 refine st (fldA Tryz.underlying46 rfl T3 (by decide) rfl) ?_
 refine st (ld1 T3 rfl B3 rfl) ?_
 refine st (bldV [(0, _), (1, _)] rfl (bTh d.2.2.2)) ?_
 refine en fun a w e' hf => ?_
 replace e := e.tr e'
 replace BG := BG.ext e'
 replace MV := MV.ext e'
 replace ME := ME.ext e'
 replace B3 := B3.ext e'
 clear e'
 replace hf := hf.kp [7, 12, 17]
 refine tl_mputV (V := eKV) (i := Gr.ends d.2.1 d.2.2.1) (c := d.2.2.2) Tryz.underlying85 hf rfl rfl rfl ME hn h1 h2 fun w hg' ME hf => ?_
 refine tl_nil ?_
 refine ret0n rfl hf ?_
 exact ⟨rfl, (e.chg _).gr hg' (.inl (.inr rfl)), BG.gr hg' hg.n1.2.symm, (MV.gr hg' (fun h => hg.ne (by cases h; rfl))).mono (Nat.le_succ _), ME, hg.ne⟩
def deedsA : Array Value := #[.func (.func 78) #[] #[], .func (.func 79) #[] #[], .func (.func 80) #[] #[], .func (.func 81) #[] #[], .func (.func 82) #[] #[], .func (.func 83) #[] #[], .func (.func 84) #[] #[], .func (.func 85) #[] #[]]
theorem deedsA_one : deedsA.all (·.oneCell') = true := by decide +kernel
theorem bDe : Tryz.prog.built 101 [(0, .func (.func 78) #[] #[]), (1, .func (.func 79) #[] #[]), (2, .func (.func 80) #[] #[]), (3, .func (.func 81) #[] #[]), (4, .func (.func 82) #[] #[]), (5, .func (.func 83) #[] #[]), (6, .func (.func 84) #[] #[]), (7, .func (.func 85) #[] #[])] = some deedsA := by kernel_rfl
theorem deeds_spec (W : World) : Calls Tryz.prog 42 #[] W (Post (E (.agg deedsA)) W) := by
 refine enter (args := []) (As := []) Tryz.func42 rfl Tryz.ntmps42 (Nat.le_of_ble_eq_true rfl) ?_ (fun a hf => ?_) (Nat.le_of_ble_eq_true rfl)
 ·intro i A h; simp at h
 dsimp only [params, Nat.reduceAdd] at hf
 have e := Ext.rfl' W
 repeat refine seq ?_
 refine regn0 ?_
 refine tl_alloc I101 hf (by decide) fun a b0 w e' hb0 hs0 B0 hf => ?_
 have hle0 := Nat.le_trans e.size (Nat.le_of_eq hb0.symm)
 replace e := e.tr e'
 refine tl_nil ?_
 repeat refine seq ?_
 refine regn 1 hf (by decide +kernel) ?_
 refine st (bldV [(0, _), (1, _), (2, _), (3, _), (4, _), (5, _), (6, _), (7, _)] rfl bDe) ?_
 refine en fun a w e' hf => ?_
 replace e := e.tr e'
 replace B0 := B0.ext e'
 clear e'
 haveI hinr : ∀ G0, InR (GB W G0) (some b0) := fun G0 => InR.gb (by omega)
 refine tl_stW T101 hf rfl rfl (deedsA_one) B0 rfl (rfl) fun w hg hsz B0 hf => ?_
 replace e := e.gr hg (by omega)
 clear hg
 refine tl_nil ?_
 refine wret (retc rfl T101 hf rfl B0 rfl ?_)
 exact ⟨_, rfl, e, rfl⟩
end Go.Mono

namespace Go.Mono
open Go Go.Proofs Go.RowKit Go.Gr
def doP (g : GT) (d : DT) : GT := if d.1 = 0 then (putP g.1 d.2.1 d.2.2.2, g.2) else (g.1, putP g.2 (Gr.ends d.2.1 d.2.2.1) d.2.2.2)
def apP (g : GT) (d : DT) : GT := if wrongM g d = 0 then doP g d else g
theorem apply_spec (g : GT) (d : DT) (bg bv be n : Nat) (W : World) (hg : GrR W bg bv be n g) (hn : n < maxLen) (hd : d.1 = 0 ∨ d.1 = 2 ∨ wrongM g d ≠ 0) (hw : (Lit.int .i64 d.2.1).wf = true) (hw2 : (Lit.int .i64 d.2.2.1).wf = true) (ho : okT d.2.2.2) :
  Calls Tryz.prog 13 #[.pointer (some ⟨bg, 0, none⟩), dtV d] W fun en w' => en = .returned (I (wrongM g d)) ∧ Chg (fun b => b = bv ∨ b = be) W w' ∧ GrR w' bg bv be (n + 1) (apP g d) := by
 refine enter (args := [.pointer (some ⟨bg, 0, none⟩), dtV d]) (As := [E (.pointer (some ⟨bg, 0, none⟩)), E (dtV d)]) Tryz.func13 rfl Tryz.ntmps13 (Nat.le_of_ble_eq_true rfl) ?_ (fun a hf => ?_) (Nat.le_of_ble_eq_true rfl)
 rotate_left
 dsimp only [params, Nat.reduceAdd] at hf
 rotate_right
 ·exact arg2 rfl rfl
 have e := Ext.rfl' W
 repeat refine seq ?_
 refine regn0 ?_
 refine tl_box hf rfl (by decide) fun a b3 w v3 hv3 e' hb3 hs3 B3 hf => ?_
 have hle3 := Nat.le_trans e.size (Nat.le_of_eq hb3.symm)
 replace e := e.tr e'
 replace hg := hg.ext e'
 refine tl_as hf rfl (by decide) fun a hf => ?_
 refine tl_nil ?_
 cases hv3
 repeat refine seq ?_
 refine regn 2 hf (by decide +kernel) ?_
 refine st (mv rfl) ?_
 refine st (eqlP Tryz.underlying27 (isE rfl (hg.dv (Nat.le_refl _) (G := Go.Mono.G0) id id id))) ?_
 refine en fun a w e' hf => ?_
 replace e := e.tr e'
 replace hg := hg.ext e'
 replace B3 := B3.ext e'
 refine tl_nil ?_
 repeat refine seq ?_
 refine ifc hf rfl (fun h => by cases h) (fun _ => ?_)
 refine wskip ?_
 try simp only [Exit.then, Exit.inBlock, ↓reduceIte]
 replace hf := hf.kp [0, 3, 4]
 repeat refine seq ?_
 refine regn 3 hf (by decide +kernel) ?_
 refine st (mv rfl) ?_
 refine st ((ldW T46 rfl B3 rfl).eq ((rfl : _ = dtV d))) ?_
 refine st (call2 (A := E (I (wrongM g d))) En41 rfl rfl (fun v u w he h h' => by cases h; cases h'; exact wrong_spec (M := n) (G := Go.Mono.G0) g d _ w ((hg.ext he).dv (Nat.le_refl _) id id id) hw hw2)) ?_
 refine en fun a w e' hf => ?_
 replace e := e.tr e'
 replace hg := hg.ext e'
 replace B3 := B3.ext e'
 refine tl_as hf rfl (by decide) fun a hf => ?_
 refine tl_nil ?_
 repeat refine seq ?_
 refine regn 2 hf (by decide +kernel) ?_
 refine st (mv rfl) ?_
 refine st (neq rfl rfl) ?_
 refine en fun a w e' hf => ?_
 replace e := e.tr e'
 replace hg := hg.ext e'
 replace B3 := B3.ext e'
 refine tl_nil ?_
 repeat refine seq ?_
 refine ifc hf rfl (fun hb => ?_) (fun hb => ?_)
 ·have hb' : ¬ wrongM g d = 0 := by simpa using hb
  repeat refine seq ?_
  refine regn 1 hf (by decide +kernel) ?_
  refine st (mv rfl) ?_
  refine en fun a w e' hf => ?_
  replace e := e.tr e'
  replace hg := hg.ext e'
  replace B3 := B3.ext e'
  refine tl_as hf rfl (by decide) fun a hf => ?_
  refine tl_nil ?_
  refine wret ?_
  try simp only [Exit.then, Exit.inBlock]
  refine ret1 rfl hf rfl ?_
  rintro _ rfl
  exact ⟨rfl, e.chg _, by rw [apP, if_neg hb']; exact hg.mono (Nat.le_succ _)⟩
 ·have hb' : wrongM g d = 0 := by simpa using hb
  refine wskip ?_
  try simp only [Exit.then, Exit.inBlock, ↓reduceIte]
  replace hf := hf.kp [0, 3, 4]
  have fin : apP g d = doP g d := by rw [apP, if_pos hb']
  rcases (show d.1 = 0 ∨ d.1 = 2 from hd.elim .inl (fun h => h.elim .inr (fun h => absurd hb' h))) with hop | hop
  ·repeat refine seq ?_
   refine regZ 7 [false, false, false, false, false, false] (fun b => b = bv ∨ b = be) (fun w => GrR w bg bv be (n + 1) (doP g d)) (fun w w1 k h => h.ext k) Mix.mix hf (by decide +kernel) (by decide +kernel) ?_
   refine za (call0 (A := E (.agg deedsA)) En42 (fun w he => deeds_spec w)) ?_
   refine za (fldA Tryz.underlying46 rfl T3 (by decide) rfl) ?_
   refine za ((ld1 T3 rfl B3 rfl).eq ((congrArg (Value.int .i64) hop : _ = I 0))) ?_
   refine za (idxV Tryz.underlying101 T100 rfl rfl (by decide) rfl) ?_
   refine za (mv rfl) ?_
   refine za ((ldW T46 rfl B3 rfl).eq ((rfl : _ = dtV d))) ?_
   refine zx (xcallV2Z En78 rfl rfl rfl (fun w he => (add_spec g d bg bv be n w (hg.ext he) hn hw ho).mono fun en w' ⟨h1, h2, h3⟩ => ⟨_, h1, h2, by rw [doP, if_pos hop]; exact h3⟩)) ?_
   refine fun a w hc HF hf => ?_
   try dsimp only [push] at hf
   refine tl_nil ?_
   replace hf := hf.kp [4]
   have e3 := Ext.rfl' w
   repeat refine seq ?_
   refine regn0 ?_
   refine tl_as hf rfl (by decide) fun a hf => ?_
   refine tl_nil ?_
   refine wret ?_
   try simp only [Exit.then, Exit.inBlock]
   refine ret1 rfl hf rfl ?_
   rintro _ rfl
   exact ⟨by rw [hb'], (e.chg _).tr hc, by rw [fin]; exact HF⟩
  ·repeat refine seq ?_
   refine regZ 7 [false, false, false, false, false, false] (fun b => b = bv ∨ b = be) (fun w => GrR w bg bv be (n + 1) (doP g d)) (fun w w1 k h => h.ext k) Mix.mix hf (by decide +kernel) (by decide +kernel) ?_
   refine za (call0 (A := E (.agg deedsA)) En42 (fun w he => deeds_spec w)) ?_
   refine za (fldA Tryz.underlying46 rfl T3 (by decide) rfl) ?_
   refine za ((ld1 T3 rfl B3 rfl).eq ((congrArg (Value.int .i64) hop : _ = I 2))) ?_
   refine za (idxV Tryz.underlying101 T100 rfl rfl (by decide) rfl) ?_
   refine za (mv rfl) ?_
   refine za ((ldW T46 rfl B3 rfl).eq ((rfl : _ = dtV d))) ?_
   refine zx (xcallV2Z En80 rfl rfl rfl (fun w he => (join_spec g d bg bv be n w (hg.ext he) hn (ends_ok hw hw2) ho).mono fun en w' ⟨h1, h2, h3⟩ => ⟨_, h1, h2, by rw [doP, if_neg (by rw [hop]; decide)]; exact h3⟩)) ?_
   refine fun a w hc HF hf => ?_
   try dsimp only [push] at hf
   refine tl_nil ?_
   replace hf := hf.kp [4]
   have e3 := Ext.rfl' w
   repeat refine seq ?_
   refine regn0 ?_
   refine tl_as hf rfl (by decide) fun a hf => ?_
   refine tl_nil ?_
   refine wret ?_
   try simp only [Exit.then, Exit.inBlock]
   refine ret1 rfl hf rfl ?_
   rintro _ rfl
   exact ⟨by rw [hb'], (e.chg _).tr hc, by rw [fin]; exact HF⟩
end Go.Mono

namespace Go.Mono
open Go Go.Proofs Go.RowKit Go.Gr
def atE (g : GT) (d : DT) : Int := if Gr.pairs d.1 = true then edgF g.2 d.2.1 d.2.2.1 else -1
def genR (g : GT) (d : DT) : GT := (g.1.filterMap (keepV d), edgesK d (atE g d) 0 g.2)
def doR (g : GT) (d : DT) : GT × Int :=
 if (wrongR g d != 0) = true then (g, wrongR g d)
 else if (d.1 == 0) = true then ((insV g.1 (d.2.1, d.2.2.2), g.2), 0)
 else if (d.1 == 2) = true then ((g.1, insE g.2 (Gr.ends d.2.1 d.2.2.1, d.2.2.2)), 0)
 else (genR g d, 0)
theorem bVt (x : VT) : Tryz.prog.built 48 [(0, .int .i64 x.1), (1, .int .u8 x.2.1), (2, .int .i64 x.2.2)] = some #[.int .i64 x.1, .int .u8 x.2.1, .int .i64 x.2.2] := by kernel_rfl
theorem bEt (x : ET) : Tryz.prog.built 57 [(0, .int .i64 x.1.1), (1, .int .i64 x.1.2), (2, .int .u8 x.2.1), (3, .int .i64 x.2.2)] = some #[.int .i64 x.1.1, .int .i64 x.1.2, .int .u8 x.2.1, .int .i64 x.2.2] := by kernel_rfl
theorem vtV_one (x : VT) : (#[.int .i64 x.1, .int .u8 x.2.1, .int .i64 x.2.2] : Array Value).all (·.oneCell') = true := by simp [Array.all_eq_true_iff_forall_mem]; exact ⟨rfl, rfl, rfl⟩
theorem etV_one (x : ET) : (#[.int .i64 x.1.1, .int .i64 x.1.2, .int .u8 x.2.1, .int .i64 x.2.2] : Array Value).all (·.oneCell') = true := by simp [Array.all_eq_true_iff_forall_mem]; exact ⟨rfl, rfl, rfl, rfl⟩
theorem bG_0 : Tryz.prog.built 25 [] = some #[.slice none 0 0, .slice none 0 0] := by kernel_rfl
theorem do_spec {G : Nat → Prop} (g : GT) (d : DT) (v : Value) (W : World) (h : (Dv gtE G g).p v W) (hG : ∀ b, G b → b < W.heap.size) (hl1 : g.1.length ≤ 100000) (hl2 : g.2.length ≤ 100000) :
  Calls Tryz.prog 43 #[v, dtV d] W (Post (Tup [Dv gtE G (doR g d).1, E (I (doR g d).2)]) W) := by
 obtain ⟨u1, u2, rfl, h1, h2⟩ := Dv.gt.1 h
 obtain ⟨a1, n1, c1, rfl⟩ := Dv.slF h1
 obtain ⟨a2, n2, c2, rfl⟩ := Dv.slF h2
 have hbb := Dv.toB h
 have h1b := Dv.toB h1
 have h2b := Dv.toB h2
 refine enter (args := [.agg #[.slice a1 n1 c1, .slice a2 n2 c2], dtV d]) (As := [E (.agg #[.slice a1 n1 c1, .slice a2 n2 c2]), E (dtV d)]) Tryz.func43 rfl Tryz.ntmps43 (Nat.le_of_ble_eq_true rfl) ?_ (fun a hf => ?_) (Nat.le_of_ble_eq_true rfl)
 rotate_left
 dsimp only [params, Nat.reduceAdd] at hf
 rotate_right
 ·exact arg2 rfl rfl
 have e := Ext.rfl' W
 repeat refine seq ?_
 refine regn0 ?_
 refine tl_box hf rfl (by decide) fun a b2 w v2 hv2 e' hb2 hs2 B2 hf => ?_
 have hle2 := Nat.le_trans e.size (Nat.le_of_eq hb2.symm)
 replace e := e.tr e'
 clear e'
 refine tl_box hf rfl (by decide) fun a b3 w v3 hv3 e' hb3 hs3 B3 hf => ?_
 have hle3 := Nat.le_trans e.size (Nat.le_of_eq hb3.symm)
 have lt3_B2 := B2.lt
 replace e := e.tr e'
 replace B2 := B2.ext e'
 clear e'
 refine tl_alloc I25 hf (by decide) fun a b4 w e' hb4 hs4 B4 hf => ?_
 have hle4 := Nat.le_trans e.size (Nat.le_of_eq hb4.symm)
 have lt4_B2 := B2.lt
 have lt4_B3 := B3.lt
 replace e := e.tr e'
 replace B2 := B2.ext e'
 replace B3 := B3.ext e'
 refine tl_as hf rfl (by decide) fun a hf => ?_
 refine tl_nil ?_
 cases hv2; cases hv3
 have fin : ∀ (w : World) (g' : GT) (c : Int) (z : Value), Ext W w → (Dv gtE G g').p z w → doR g d = (g', c) → (Tup [Dv gtE G (doR g d).1, E (I (doR g d).2)]).p (.tuple #[z, I c]) w := fun w g' c z e hz hd => by rw [hd]; exact Tup.two hz rfl
 have hG4 : ∀ (w : World), b4 < w.heap.size → Ext W w → ∀ b, G1 G b4 b → b < w.heap.size := fun w hb4 e b hb => hb.elim (fun hb => Nat.lt_of_lt_of_le (hG b hb) e.size) (fun hb => by rw [hb]; exact hb4)
 have hg4 : ∀ w, Ext W w → (Dv gtE (G1 G b4) g).p (.agg #[.slice a1 n1 c1, .slice a2 n2 c2]) w := fun w e => Dv.weak (VA.st _ _ _ _ e hbb) fun b _ hq => hq.elim .inl (fun hq => .inr (by rw [hq]; exact hle4))
 repeat refine seq ?_
 refine regn 3 hf (by decide +kernel) ?_
 refine st ((ldW T25 rfl B2 rfl).eq ((rfl : _ = Value.agg #[.slice a1 n1 c1, .slice a2 n2 c2]))) ?_
 refine st ((ldW T104 rfl B3 rfl).eq ((rfl : _ = dtV d))) ?_
 refine st (call2 En86 rfl rfl (fun v u w he k k' => by cases k; cases k'; exact wrongR_spec g d _ w (VA.st _ _ _ _ (Ext.tr e he) h) hl1 hl2)) ?_
 refine en fun a w e' hf => ?_
 replace e := e.tr e'
 replace B2 := B2.ext e'
 replace B3 := B3.ext e'
 replace B4 := B4.ext e'
 refine tl_as hf rfl (by decide) fun a hf => ?_
 refine tl_nil ?_
 repeat refine seq ?_
 refine regn 2 hf (by decide +kernel) ?_
 refine st (mv rfl) ?_
 refine st (neq rfl rfl) ?_
 refine en fun a w e' hf => ?_
 replace e := e.tr e'
 replace B2 := B2.ext e'
 replace B3 := B3.ext e'
 replace B4 := B4.ext e'
 refine tl_nil ?_
 repeat refine seq ?_
 refine ifc hf rfl (fun hb => ?_) (fun hb => ?_)
 ·repeat refine seq ?_
  refine regn 2 hf (by decide +kernel) ?_
  refine st ((ldW T25 rfl B2 rfl).eq ((rfl : _ = Value.agg #[.slice a1 n1 c1, .slice a2 n2 c2]))) ?_
  refine st (mv rfl) ?_
  refine en fun a w e' hf => ?_
  replace e := e.tr e'
  replace B2 := B2.ext e'
  replace B3 := B3.ext e'
  replace B4 := B4.ext e'
  clear e'
  haveI hinr : ∀ G0, InR (GB W G0) (some b4) := fun G0 => InR.gb (by omega)
  refine tl_stW T25 hf rfl rfl (one2 rfl rfl) B4 rfl (rfl) fun w hg hsz B4 hf => ?_
  replace e := e.gr hg (by omega)
  replace B2 := B2.gr hg (by omega)
  replace B3 := B3.gr hg (by omega)
  clear hg
  refine tl_as hf rfl (by decide) fun a hf => ?_
  refine tl_nil ?_
  refine wret (ret2c rfl T25 hf rfl rfl B4 rfl ?_)
  rintro _ rfl
  exact ⟨_, rfl, e, fin _ _ _ _ e (VA.st _ _ _ _ e h) (by rw [doR, if_pos hb])⟩
 refine wskip ?_
 try simp only [Exit.then, Exit.inBlock, ↓reduceIte]
 replace hf := hf.kp [2, 3, 4]
 have h1n := rneg hb; clear hb
 repeat refine seq ?_
 refine regn 3 hf (by decide +kernel) ?_
 refine st (fldA Tryz.underlying104 rfl T3 (by decide) rfl) ?_
 refine st (ld1 T3 rfl B3 rfl) ?_
 refine st (eql rfl rfl) ?_
 refine en fun a w e' hf => ?_
 replace e := e.tr e'
 replace B2 := B2.ext e'
 replace B3 := B3.ext e'
 replace B4 := B4.ext e'
 refine tl_nil ?_
 repeat refine seq ?_
 refine ifc hf rfl (fun hb => ?_) (fun hb => ?_)
 ·have h2p := hb; clear hb
  repeat refine seq ?_
  refine regn 9 hf (by decide +kernel) ?_
  refine st ((ldW T25 rfl B2 rfl).eq ((rfl : _ = Value.agg #[.slice a1 n1 c1, .slice a2 n2 c2]))) ?_
  refine st (fldA Tryz.underlying104 rfl T3 (by decide) rfl) ?_
  refine st (ld1 T3 rfl B3 rfl) ?_
  refine st (fldA Tryz.underlying104 rfl T5 (by decide) rfl) ?_
  refine st (ld1 T5 rfl B3 rfl) ?_
  refine st (fldA Tryz.underlying104 rfl T3 (by decide) rfl) ?_
  refine st (ld1 T3 rfl B3 rfl) ?_
  refine st (bldVt (d.2.1, d.2.2.2) (bVt _) rfl rfl rfl) ?_
  refine st (call2 En87 rfl rfl (fun v u w he k k' => by cases k; cases k'; exact plus_spec (G := G1 G b4) g _ _ w (hg4 w (Ext.tr e he)) (hG4 w (Nat.lt_of_lt_of_le B4.lt he.size) (Ext.tr e he)) hl1)) ?_
  refine en fun a w e' hf => ?_
  replace e := e.tr e'
  replace B2 := B2.ext e'
  replace B3 := B3.ext e'
  replace B4 := B4.ext e'
  clear e'
  obtain ⟨z, hz, hf⟩ := hf.opn 31 rfl
  obtain ⟨z1, z2, rfl, hz1, hz2⟩ := Dv.gt.1 hz
  replace hf := hf.kp [31, 4]
  refine tl_stW T25 hf rfl rfl (one2 (slOne hz1) (slOne hz2)) B4 rfl rfl fun w hg hsz B4 hf => ?_
  replace e := e.gr hg hle4; replace hz := AvR.av (row := some b4) _ _ _ hg hz; clear hg
  refine tl_as hf rfl (by decide) fun a hf => ?_
  refine tl_nil ?_
  refine wret (ret2c rfl T25 hf rfl rfl B4 rfl ?_)
  rintro _ rfl
  exact ⟨_, rfl, e, fin _ _ _ _ e (Dv.weak hz fun b _ => .inl) (by rw [doR, if_neg h1n, if_pos h2p])⟩
 refine wskip ?_
 try simp only [Exit.then, Exit.inBlock, ↓reduceIte]
 replace hf := hf.kp [2, 3, 4]
 have h2n := rneg hb; clear hb
 repeat refine seq ?_
 refine regn 3 hf (by decide +kernel) ?_
 refine st (fldA Tryz.underlying104 rfl T3 (by decide) rfl) ?_
 refine st (ld1 T3 rfl B3 rfl) ?_
 refine st (eql rfl rfl) ?_
 refine en fun a w e' hf => ?_
 replace e := e.tr e'
 replace B2 := B2.ext e'
 replace B3 := B3.ext e'
 replace B4 := B4.ext e'
 refine tl_nil ?_
 repeat refine seq ?_
 refine ifc hf rfl (fun hb => ?_) (fun hb => ?_)
 ·have h3p := hb; clear hb
  repeat refine seq ?_
  refine regn 17 hf (by decide +kernel) ?_
  refine st ((ldW T25 rfl B2 rfl).eq ((rfl : _ = Value.agg #[.slice a1 n1 c1, .slice a2 n2 c2]))) ?_
  refine st (fldA Tryz.underlying104 rfl T3 (by decide) rfl) ?_
  refine st (ld1 T3 rfl B3 rfl) ?_
  refine st (fldA Tryz.underlying104 rfl T3 (by decide) rfl) ?_
  refine st (ld1 T3 rfl B3 rfl) ?_
  refine st (min2 rfl rfl) ?_
  refine st (fldA Tryz.underlying104 rfl T3 (by decide) rfl) ?_
  refine st (ld1 T3 rfl B3 rfl) ?_
  refine st (fldA Tryz.underlying104 rfl T3 (by decide) rfl) ?_
  refine st (ld1 T3 rfl B3 rfl) ?_
  refine st (max2 rfl rfl) ?_
  refine st (fldA Tryz.underlying104 rfl T5 (by decide) rfl) ?_
  refine st (ld1 T5 rfl B3 rfl) ?_
  refine st (fldA Tryz.underlying104 rfl T3 (by decide) rfl) ?_
  refine st (ld1 T3 rfl B3 rfl) ?_
  refine st (bldEt (Gr.ends d.2.1 d.2.2.1, d.2.2.2) (bEt _) rfl rfl rfl rfl) ?_
  refine st (call2 En88 rfl rfl (fun v u w he k k' => by cases k; cases k'; exact joined_spec (G := G1 G b4) g _ _ w (hg4 w (Ext.tr e he)) (hG4 w (Nat.lt_of_lt_of_le B4.lt he.size) (Ext.tr e he)) hl2)) ?_
  refine en fun a w e' hf => ?_
  replace e := e.tr e'
  replace B2 := B2.ext e'
  replace B3 := B3.ext e'
  replace B4 := B4.ext e'
  clear e'
  obtain ⟨z, hz, hf⟩ := hf.opn 51 rfl
  obtain ⟨z1, z2, rfl, hz1, hz2⟩ := Dv.gt.1 hz
  replace hf := hf.kp [51, 4]
  refine tl_stW T25 hf rfl rfl (one2 (slOne hz1) (slOne hz2)) B4 rfl rfl fun w hg hsz B4 hf => ?_
  replace e := e.gr hg hle4; replace hz := AvR.av (row := some b4) _ _ _ hg hz; clear hg
  refine tl_as hf rfl (by decide) fun a hf => ?_
  refine tl_nil ?_
  refine wret (ret2c rfl T25 hf rfl rfl B4 rfl ?_)
  rintro _ rfl
  exact ⟨_, rfl, e, fin _ _ _ _ e (Dv.weak hz fun b _ => .inl) (by rw [doR, if_neg h1n, if_neg h2n, if_pos h3p])⟩
 refine wskip ?_
 try simp only [Exit.then, Exit.inBlock, ↓reduceIte]
 replace hf := hf.kp [2, 3, 4]
 have h3n := rneg hb; clear hb
 have hdo : doR g d = (genR g d, 0) := by rw [doR, if_neg h1n, if_neg h2n, if_neg h3n]
 repeat refine seq ?_
 refine regn 1 hf (by decide +kernel) ?_
 refine st (bldV [] rfl bG_0) ?_
 refine en fun a w e' hf => ?_
 replace e := e.tr e'
 replace B2 := B2.ext e'
 replace B3 := B3.ext e'
 replace B4 := B4.ext e'
 clear e'
 refine tl_alloc I25 hf (by decide) fun a b7 w e' hb7 hs7 B7 hf => ?_
 have hle7 := Nat.le_trans e.size (Nat.le_of_eq hb7.symm)
 have lt7_B2 := B2.lt
 have lt7_B3 := B3.lt
 have lt7_B4 := B4.lt
 replace e := e.tr e'
 replace B2 := B2.ext e'
 replace B3 := B3.ext e'
 replace B4 := B4.ext e'
 clear e'
 haveI hinr : ∀ G0, InR (GB W G0) (some b7) := fun G0 => InR.gb (by omega)
 refine tl_stW T25 hf rfl rfl (one2 rfl rfl) B7 rfl (rfl) fun w hg hsz B7 hf => ?_
 replace e := e.gr hg (by omega)
 replace B2 := B2.gr hg (by omega)
 replace B3 := B3.gr hg (by omega)
 replace B4 := B4.gr hg (by omega)
 clear hg
 refine tl_nil ?_
 have hlE := fun (k : Nat) => Nat.le_trans (edgesK_len d (atE g d) 0 (g.2.take k)) (List.length_take_le k g.2)
 have hlV := fun (k : Nat) => Nat.le_trans (List.length_filterMap_le (keepV d) (g.1.take k)) (List.length_take_le k g.1)
 replace hf := hf.kp [2, 3, 4, 7]
 repeat refine seq ?_
 refine regn0 ?_
 refine tl_as hf rfl (by decide) fun a hf => ?_
 refine tl_nil ?_
 replace hf := hf.kp [2, 3, 4, 7, 8]
 repeat refine seq ?_
 refine blk (loopN (fun r0 a w => ∃ (k : Nat) (u : Value), r0 = g.1.length - k ∧ k ≤ g.1.length ∧ Fr 183 a w [(2, E (.pointer (some ⟨b2, 0, none⟩))), (3, E (.pointer (some ⟨b3, 0, none⟩))), (4, E (.pointer (some ⟨b4, 0, none⟩))), (7, E (.pointer (some ⟨b7, 0, none⟩))), (8, E (I k))] ∧ Ext W w ∧ Blk w b2 #[.slice a1 n1 c1, .slice a2 n2 c2] 25 ∧ Blk w b3 (dtV d).cells 104 ∧ Blk w b4 #[.slice none 0 0, .slice none 0 0] 25 ∧ Blk w b7 #[u, .slice none 0 0] 25 ∧ OwR vtE 48 (b7 + 1) G w ((g.1.take k).filterMap (keepV d)) u) g.1.length ⟨0, .slice none 0 0, rfl, by omega, hf, e, ⟨B2, B3, B4, B7, OwR.nil vtE _ (by have := B7.lt; omega) fun b hb => Nat.lt_of_lt_of_le (hG b hb) (by omega)⟩⟩ ?_)
 clear hf e; try clear B2; try clear B3; try clear B4; try clear B7; try clear Ho
 rintro r0 a w ⟨k, u, rfl, hk, hf, e, B2, B3, B4, B7, Ho⟩
 repeat refine seq ?_
 refine regn 5 hf (by decide +kernel) ?_
 refine st (mv rfl) ?_
 refine st (fldA Tryz.underlying25 rfl T22 (by decide) rfl) ?_
 refine st (ld1 T22 rfl (by assumption) rfl) ?_
 refine st (lenD Tryz.underlying22 (isE rfl (VA.st _ _ _ _ e h1))) ?_
 refine st (lss rfl rfl) ?_
 refine en fun a w e' hf => ?_
 replace e := e.tr e'
 replace B2 := B2.ext e'
 replace B3 := B3.ext e'
 replace B4 := B4.ext e'
 replace B7 := B7.ext e'
 replace Ho := Ho.ext e'
 refine tl_nil ?_
 repeat refine seq ?_
 refine ifc hf rfl (fun hc => wskip ?_) (fun hc => wexit ?_)
 rotate_left
 rotate_left
 ·have hlt : k < g.1.length := by have := of_decide_eq_true hc; (try dsimp only at this); omega
  clear hc
  replace hf := hf.kp [2, 3, 4, 7, 8]
  repeat refine seq ?_
  refine blk ?_
  have hg := List.getElem?_eq_getElem hlt
  generalize g.1[k] = y at hg
  have hs := keepV_succ d hg
  have hlk := hlV k
  repeat refine seq ?_
  refine regn0 ?_
  refine tl_op hf (by decide) (fldA Tryz.underlying25 rfl T22 (by decide) rfl) fun a w e' hf => ?_
  replace Ho := Ho.ext e'
  replace e := e.tr e'
  replace B2 := B2.ext e'
  replace B3 := B3.ext e'
  replace B4 := B4.ext e'
  replace B7 := B7.ext e'
  clear e'
  refine tl_op hf (by decide) (ld1 T22 rfl B2 rfl) fun a w e' hf => ?_
  replace Ho := Ho.ext e'
  replace e := e.tr e'
  replace B2 := B2.ext e'
  replace B3 := B3.ext e'
  replace B4 := B4.ext e'
  replace B7 := B7.ext e'
  clear e'
  refine tl_op hf (by decide) (mv rfl) fun a w e' hf => ?_
  replace Ho := Ho.ext e'
  replace e := e.tr e'
  replace B2 := B2.ext e'
  replace B3 := B3.ext e'
  replace B4 := B4.ext e'
  replace B7 := B7.ext e'
  clear e'
  refine tl_op hf (by decide) (idxD Tryz.underlying22 S48 (isE rfl (VA.st _ _ _ _ e h1b)) rfl (by omega) (hg)) fun a w e' hf => ?_
  replace Ho := Ho.ext e'
  replace e := e.tr e'
  replace B2 := B2.ext e'
  replace B3 := B3.ext e'
  replace B4 := B4.ext e'
  replace B7 := B7.ext e'
  clear e'
  refine tl_op hf (by decide) (ldVt T48 (isR rfl)) fun a w e' hf => ?_
  replace Ho := Ho.ext e'
  replace e := e.tr e'
  replace B2 := B2.ext e'
  replace B3 := B3.ext e'
  replace B4 := B4.ext e'
  replace B7 := B7.ext e'
  clear e'
  refine tl_alloc I48 hf (by decide) fun a b9 w e' hb9 hs9 B9 hf => ?_
  have hle9 := Nat.le_trans e.size (Nat.le_of_eq hb9.symm)
  have ne9_Ho := Ho.ne_new hb9
  have lt9_B2 := B2.lt
  have lt9_B3 := B3.lt
  have lt9_B4 := B4.lt
  have lt9_B7 := B7.lt
  replace Ho := Ho.ext e'
  replace e := e.tr e'
  replace B2 := B2.ext e'
  replace B3 := B3.ext e'
  replace B4 := B4.ext e'
  replace B7 := B7.ext e'
  clear e'
  have n9 := ne9_Ho
  replace hf := hf.kp [2, 3, 4, 7, 8, 9, 64]
  refine tl_stW T48 hf rfl rfl (vtV_one y) B9 rfl rfl fun w hg' hsz B9 hf => ?_
  replace e := e.gr hg' (by omega); replace B2 := B2.gr hg' (by omega); replace B3 := B3.gr hg' (by omega); replace B4 := B4.gr hg' (by omega); replace B7 := B7.gr hg' (by omega); replace Ho := Ho.grE hg' n9; clear hg'
  refine tl_nil ?_
  replace hf := hf.kp [2, 3, 4, 7, 8, 9]
  repeat refine seq ?_
  refine regn 10 hf (by decide +kernel) ?_
  refine st (fldA Tryz.underlying48 rfl T3 (by decide) rfl) ?_
  refine st (ld1 T3 rfl B9 rfl) ?_
  refine st (fldA Tryz.underlying104 rfl T3 (by decide) rfl) ?_
  refine st (ld1 T3 rfl B3 rfl) ?_
  refine st (eql rfl rfl) ?_
  refine st (mv rfl) ?_
  refine sgE rfl rfl (.k 3 rfl .n) (fun hgd => fldA Tryz.underlying104 rfl T3 (by decide) rfl) ?_
  refine sgE rfl rfl (.c 71 rfl (fun h => h) .n) (fun hgd => ld1 T3 rfl B3 rfl) ?_
  refine sgE rfl rfl (.c 72 rfl (fun h => h) .n) (fun hgd => eql rfl rfl) ?_
  refine st (pkAnd rfl rfl (fun h => by rw [h]; rfl)) ?_
  refine en fun a w e' hf => ?_
  replace Ho := Ho.ext e'
  replace e := e.tr e'
  replace B2 := B2.ext e'
  replace B3 := B3.ext e'
  replace B4 := B4.ext e'
  replace B7 := B7.ext e'
  replace B9 := B9.ext e'
  refine tl_nil ?_
  repeat refine seq ?_
  refine ifc hf rfl (fun hb => ?_) (fun hb => ?_)
  ·refine wexit ?_
   try simp only [Exit.then, Exit.inBlock, ↓reduceIte]
   replace hf := hf.kp [2, 3, 4, 7, 8]
   try simp only [Exit.then, Exit.inBlock, ↓reduceIte]
   repeat refine seq ?_
   refine regn 2 hf (by decide +kernel) ?_
   refine st (mv rfl) ?_
   refine st ((add rfl rfl (by omega)).eq (congrArg (Value.int .i64) (show (k : Int) + 1 = ((k + 1 : Nat) : Int) from rfl))) ?_
   refine en fun a w e' hf => ?_
   replace Ho := Ho.ext e'
   replace e := e.tr e'
   replace B2 := B2.ext e'
   replace B3 := B3.ext e'
   replace B4 := B4.ext e'
   replace B7 := B7.ext e'
   refine tl_as hf rfl (by decide) fun a hf => ?_
   refine tl_nil ?_
   replace hf := hf.kp [2, 3, 4, 7, 8]
   refine ⟨_, ?_, k + 1, u, rfl, by omega, hf, e, ?_⟩
   ·omega
   rw [hs, keepV, if_pos hb]
   exact ⟨B2, B3, B4, B7, by simpa using Ho⟩
  refine wskip ?_
  try simp only [Exit.then, Exit.inBlock, ↓reduceIte]
  have hkv := rneg hb; clear hb
  replace hf := hf.kp [2, 3, 4, 7, 8, 9]
  repeat refine seq ?_
  refine regn 10 hf (by decide +kernel) ?_
  refine st (fldA Tryz.underlying48 rfl T3 (by decide) rfl) ?_
  refine st (ld1 T3 rfl B9 rfl) ?_
  refine st (fldA Tryz.underlying104 rfl T3 (by decide) rfl) ?_
  refine st (ld1 T3 rfl B3 rfl) ?_
  refine st (eql rfl rfl) ?_
  refine st (mv rfl) ?_
  refine sgE rfl rfl (.k 3 rfl .n) (fun hgd => fldA Tryz.underlying104 rfl T3 (by decide) rfl) ?_
  refine sgE rfl rfl (.c 81 rfl (fun h => h) .n) (fun hgd => ld1 T3 rfl B3 rfl) ?_
  refine sgE rfl rfl (.c 82 rfl (fun h => h) .n) (fun hgd => eql rfl rfl) ?_
  refine st (pkAnd rfl rfl (fun h => by rw [h]; rfl)) ?_
  refine en fun a w e' hf => ?_
  replace Ho := Ho.ext e'
  replace e := e.tr e'
  replace B2 := B2.ext e'
  replace B3 := B3.ext e'
  replace B4 := B4.ext e'
  replace B7 := B7.ext e'
  replace B9 := B9.ext e'
  refine tl_nil ?_
  repeat refine seq ?_
  refine cut (J := fun a w => Fr 183 a w [(2, E (.pointer (some ⟨b2, 0, none⟩))), (3, E (.pointer (some ⟨b3, 0, none⟩))), (4, E (.pointer (some ⟨b4, 0, none⟩))), (7, E (.pointer (some ⟨b7, 0, none⟩))), (8, E (I k)), (9, E (.pointer (some ⟨b9, 0, none⟩)))] ∧ Ext W w ∧ Blk w b2 #[.slice a1 n1 c1, .slice a2 n2 c2] 25 ∧ Blk w b3 (dtV d).cells 104 ∧ Blk w b4 #[.slice none 0 0, .slice none 0 0] 25 ∧ Blk w b7 #[u, .slice none 0 0] 25 ∧ Blk w b9 #[.int .i64 y.1, .int .u8 (if (y.1 == d.2.1 && d.1 == 4) = true then d.2.2.2.1 else y.2.1), .int .i64 y.2.2] 48 ∧ OwR vtE 48 (b7 + 1) G w ((g.1.take k).filterMap (keepV d)) u) ?_ (fun a w hJ => ?_)
  ·repeat refine seq ?_
   refine ifc hf rfl (fun hb => ?_) (fun hb => ?_)
   ·replace hf := hf.kp [2, 3, 4, 7, 8, 9]
    repeat refine seq ?_
    refine regn 3 hf (by decide +kernel) ?_
    refine st (fldA Tryz.underlying104 rfl T5 (by decide) rfl) ?_
    refine st (ld1 T5 rfl B3 rfl) ?_
    refine st (fldA Tryz.underlying48 rfl T5 (by decide) rfl) ?_
    refine en fun a w e' hf => ?_
    replace Ho := Ho.ext e'
    replace e := e.tr e'
    replace B2 := B2.ext e'
    replace B3 := B3.ext e'
    replace B4 := B4.ext e'
    replace B7 := B7.ext e'
    replace B9 := B9.ext e'
    clear e'
    refine tl_st1 T5 hf rfl rfl (rfl) B9 (by simp) fun w hg hsz B9 hf => ?_
    replace Ho := Ho.grE hg n9
    replace e := e.gr hg (by omega)
    replace B2 := B2.gr hg (by omega)
    replace B3 := B3.gr hg (by omega)
    replace B4 := B4.gr hg (by omega)
    replace B7 := B7.gr hg (by omega)
    clear hg
    refine tl_nil ?_
    rw [if_pos hb]
    replace hf := hf.kp [2, 3, 4, 7, 8, 9]
    exact ⟨rfl, hf, e, B2, B3, B4, B7, B9, Ho⟩
   ·refine wskip ?_
    rw [if_neg (rneg hb)]
    replace hf := hf.kp [2, 3, 4, 7, 8, 9]
    exact ⟨rfl, hf, e, B2, B3, B4, B7, B9, Ho⟩
  clear hf e B2 B3 B4 B7 B9 Ho
  obtain ⟨hf, e, B2, B3, B4, B7, B9, Ho⟩ := hJ
  try simp only [Exit.then]
  repeat refine seq ?_
  refine regn 10 hf (by decide +kernel) ?_
  refine st (fldA Tryz.underlying48 rfl T3 (by decide) rfl) ?_
  refine st (ld1 T3 rfl B9 rfl) ?_
  refine st (fldA Tryz.underlying104 rfl T3 (by decide) rfl) ?_
  refine st (ld1 T3 rfl B3 rfl) ?_
  refine st (eql rfl rfl) ?_
  refine st (mv rfl) ?_
  refine sgE rfl rfl (.k 3 rfl .n) (fun hgd => fldA Tryz.underlying104 rfl T3 (by decide) rfl) ?_
  refine sgE rfl rfl (.c 94 rfl (fun h => h) .n) (fun hgd => ld1 T3 rfl B3 rfl) ?_
  refine sgE rfl rfl (.c 95 rfl (fun h => h) .n) (fun hgd => eql rfl rfl) ?_
  refine st (pkAnd rfl rfl (fun h => by rw [h]; rfl)) ?_
  refine en fun a w e' hf => ?_
  replace Ho := Ho.ext e'
  replace e := e.tr e'
  replace B2 := B2.ext e'
  replace B3 := B3.ext e'
  replace B4 := B4.ext e'
  replace B7 := B7.ext e'
  replace B9 := B9.ext e'
  refine tl_nil ?_
  repeat refine seq ?_
  refine cut (J := fun a w => Fr 183 a w [(2, E (.pointer (some ⟨b2, 0, none⟩))), (3, E (.pointer (some ⟨b3, 0, none⟩))), (4, E (.pointer (some ⟨b4, 0, none⟩))), (7, E (.pointer (some ⟨b7, 0, none⟩))), (8, E (I k)), (9, E (.pointer (some ⟨b9, 0, none⟩)))] ∧ Ext W w ∧ Blk w b2 #[.slice a1 n1 c1, .slice a2 n2 c2] 25 ∧ Blk w b3 (dtV d).cells 104 ∧ Blk w b4 #[.slice none 0 0, .slice none 0 0] 25 ∧ Blk w b7 #[u, .slice none 0 0] 25 ∧ Blk w b9 #[.int .i64 y.1, .int .u8 (if (y.1 == d.2.1 && d.1 == 4) = true then d.2.2.2.1 else y.2.1), .int .i64 (if (y.1 == d.2.1 && d.1 == 5) = true then d.2.2.2.2 else y.2.2)] 48 ∧ OwR vtE 48 (b7 + 1) G w ((g.1.take k).filterMap (keepV d)) u) ?_ (fun a w hJ => ?_)
  ·repeat refine seq ?_
   refine ifc hf rfl (fun hb => ?_) (fun hb => ?_)
   ·replace hf := hf.kp [2, 3, 4, 7, 8, 9]
    repeat refine seq ?_
    refine regn 3 hf (by decide +kernel) ?_
    refine st (fldA Tryz.underlying104 rfl T3 (by decide) rfl) ?_
    refine st (ld1 T3 rfl B3 rfl) ?_
    refine st (fldA Tryz.underlying48 rfl T3 (by decide) rfl) ?_
    refine en fun a w e' hf => ?_
    replace Ho := Ho.ext e'
    replace e := e.tr e'
    replace B2 := B2.ext e'
    replace B3 := B3.ext e'
    replace B4 := B4.ext e'
    replace B7 := B7.ext e'
    replace B9 := B9.ext e'
    clear e'
    refine tl_st1 T3 hf rfl rfl (rfl) B9 (by simp) fun w hg hsz B9 hf => ?_
    replace Ho := Ho.grE hg n9
    replace e := e.gr hg (by omega)
    replace B2 := B2.gr hg (by omega)
    replace B3 := B3.gr hg (by omega)
    replace B4 := B4.gr hg (by omega)
    replace B7 := B7.gr hg (by omega)
    clear hg
    refine tl_nil ?_
    rw [if_pos hb]
    replace hf := hf.kp [2, 3, 4, 7, 8, 9]
    exact ⟨rfl, hf, e, B2, B3, B4, B7, B9, Ho⟩
   ·refine wskip ?_
    rw [if_neg (rneg hb)]
    replace hf := hf.kp [2, 3, 4, 7, 8, 9]
    exact ⟨rfl, hf, e, B2, B3, B4, B7, B9, Ho⟩
  clear hf e B2 B3 B4 B7 B9 Ho
  obtain ⟨hf, e, B2, B3, B4, B7, B9, Ho⟩ := hJ
  try simp only [Exit.then]
  rw [keepV, if_neg hkv] at hs
  obtain ⟨y', hy'⟩ : ∃ y' : VT, y' = (y.1, (if (y.1 == d.2.1 && d.1 == 4) = true then d.2.2.2.1 else y.2.1), (if (y.1 == d.2.1 && d.1 == 5) = true then d.2.2.2.2 else y.2.2)) := ⟨_, rfl⟩
  replace B9 : Blk w b9 (vtV y').cells 48 := by rw [hy']; exact B9
  rw [← hy'] at hs
  clear hy'
  have n2 := Ho.neLt (b := b2) (by omega); have n3 := Ho.neLt (b := b3) (by omega); have n4 := Ho.neLt (b := b4) (by omega); have n7 := Ho.neLt (b := b7) (by omega)
  repeat refine seq ?_
  refine regn 4 hf (by decide +kernel) ?_
  refine st (fldA Tryz.underlying25 rfl T22 (by decide) rfl) ?_
  refine st ((ld1 T22 rfl (by assumption) rfl).eq ((rfl : _ = u))) ?_
  refine st ((ldW T48 rfl B9 rfl).eq ((rfl : _ = vtV y'))) ?_
  refine st (bsl1 Tryz.underlying22 I48 rfl (by decide) rfl Ho.avs (isVt rfl)) ?_
  refine en fun a w e' hf => ?_
  replace Ho := Ho.ext e'
  replace e := e.tr e'
  replace B2 := B2.ext e'
  replace B3 := B3.ext e'
  replace B4 := B4.ext e'
  replace B7 := B7.ext e'
  replace B9 := B9.ext e'
  clear e'
  haveI hin : ∀ G0, InR (GB W G0) _ := OwR.inGB (W := W) Ho (by omega)
  refine tl_app Tryz.underlying22 I48 rfl rfl hf (by decide) rfl Ho (isR rfl) (by simp only [List.length_singleton]; omega) (by simp only [List.length_singleton, maxLen]; omega) fun a v w hg hat Hn hf => ?_
  replace e := e.gro hg (Ho.row (W := W) (by omega))
  have hrow := Ho.row (W := W) (by omega)
  replace Ho := Hn
  clear hrow
  replace B2 := B2.gro hg (by assumption)
  replace B3 := B3.gro hg (by assumption)
  replace B4 := B4.gro hg (by assumption)
  replace B7 := B7.gro hg (by assumption)
  replace B9 := B9.gro hg (by assumption)
  replace Ho := Hn; clear Hn hg hat hin
  replace hf := hf.kp [2, 3, 4, 7, 8, 105]
  clear n2 n3 n4 n7 n9
  refine tl_op hf (by decide) (fldA Tryz.underlying25 rfl T22 (by decide) rfl) fun a w e' hf => ?_
  replace Ho := Ho.ext e'
  replace e := e.tr e'
  replace B2 := B2.ext e'
  replace B3 := B3.ext e'
  replace B4 := B4.ext e'
  replace B7 := B7.ext e'
  clear e'
  refine tl_st1 T22 hf rfl rfl (slOne Ho.sl) B7 (by simp) fun w hg hsz B7 hf => ?_
  replace Ho := Ho.grE hg (Ho.neLt (by omega))
  replace e := e.gr hg (by omega)
  replace B2 := B2.gr hg (by omega)
  replace B3 := B3.gr hg (by omega)
  replace B4 := B4.gr hg (by omega)
  clear hg
  refine tl_nil ?_
  try simp only [Exit.then, Exit.inBlock, ↓reduceIte]
  repeat refine seq ?_
  refine regn 2 hf (by decide +kernel) ?_
  refine st (mv rfl) ?_
  refine st ((add rfl rfl (by omega)).eq (congrArg (Value.int .i64) (show (k : Int) + 1 = ((k + 1 : Nat) : Int) from rfl))) ?_
  refine en fun a w e' hf => ?_
  replace Ho := Ho.ext e'
  replace e := e.tr e'
  replace B2 := B2.ext e'
  replace B3 := B3.ext e'
  replace B4 := B4.ext e'
  replace B7 := B7.ext e'
  refine tl_as hf rfl (by decide) fun a hf => ?_
  refine tl_nil ?_
  replace hf := hf.kp [2, 3, 4, 7, 8]
  refine ⟨_, ?_, k + 1, v, rfl, by omega, hf, e, ?_⟩
  ·omega
  exact ⟨B2, B3, B4, B7, by rw [hs]; exact Ho⟩
 ·obtain rfl : k = g.1.length := by have := of_decide_eq_false hc; (try dsimp only at this); omega
  clear hc
  simp only [Exit.then, Exit.inBlock, ↓reduceIte]
  rw [List.take_length] at Ho
  obtain ⟨av, nv, cv, rfl⟩ := Dv.slF Ho.sl
  have hown : ∀ bb, (Value.slice av nv cv).ownBlock = some bb → bb < w.heap.size := fun bb h => (Ho.lt h).2
  have HOo := Ho
  repeat refine seq ?_
  refine regn0 ?_
  refine tl_as hf rfl (by decide) fun a hf => ?_
  refine tl_nil ?_
  replace hf := hf.kp [2, 3, 4, 7, 10]
  repeat refine seq ?_
  refine regn 2 hf (by decide +kernel) ?_
  refine st ((ldW T104 rfl B3 rfl).eq ((rfl : _ = dtV d))) ?_
  refine st (call1 En89 rfl (fun v w he h => by cases h; exact pair_spec d w)) ?_
  refine en fun a w e' hf => ?_
  replace Ho := Ho.ext e'
  replace e := e.tr e'
  replace B2 := B2.ext e'
  replace B3 := B3.ext e'
  replace B4 := B4.ext e'
  replace B7 := B7.ext e'
  refine tl_nil ?_
  repeat refine seq ?_
  refine cut (J := fun a w => Fr 183 a w [(2, E (.pointer (some ⟨b2, 0, none⟩))), (3, E (.pointer (some ⟨b3, 0, none⟩))), (4, E (.pointer (some ⟨b4, 0, none⟩))), (7, E (.pointer (some ⟨b7, 0, none⟩))), (10, E (I (atE g d)))] ∧ Ext W w ∧ Blk w b2 #[.slice a1 n1 c1, .slice a2 n2 c2] 25 ∧ Blk w b3 (dtV d).cells 104 ∧ Blk w b4 #[.slice none 0 0, .slice none 0 0] 25 ∧ Blk w b7 #[.slice av nv cv, .slice none 0 0] 25 ∧ OwR vtE 48 (b7 + 1) G w (g.1.filterMap (keepV d)) (.slice av nv cv)) ?_ (fun a w hJ => ?_)
  ·repeat refine seq ?_
   refine ifc hf rfl (fun hb => ?_) (fun hb => ?_)
   ·replace hf := hf.kp [2, 3, 4, 7]
    repeat refine seq ?_
    refine regn 6 hf (by decide +kernel) ?_
    refine st ((ldW T25 rfl B2 rfl).eq ((rfl : _ = Value.agg #[.slice a1 n1 c1, .slice a2 n2 c2]))) ?_
    refine st (fldA Tryz.underlying104 rfl T3 (by decide) rfl) ?_
    refine st (ld1 T3 rfl B3 rfl) ?_
    refine st (fldA Tryz.underlying104 rfl T3 (by decide) rfl) ?_
    refine st (ld1 T3 rfl B3 rfl) ?_
    refine st (call3 (A := E (I (edgF g.2 d.2.1 d.2.2.1))) En90 rfl rfl rfl (fun v u x w he k k' k'' => by cases k; cases k'; cases k''; exact edge_spec g d.2.1 d.2.2.1 _ w (VA.st _ _ _ _ (Ext.tr e he) h) hl2)) ?_
    refine en fun a w e' hf => ?_
    replace Ho := Ho.ext e'
    replace e := e.tr e'
    replace B2 := B2.ext e'
    replace B3 := B3.ext e'
    replace B4 := B4.ext e'
    replace B7 := B7.ext e'
    refine tl_as hf rfl (by decide) fun a hf => ?_
    refine tl_nil ?_
    rw [atE, if_pos hb]
    replace hf := hf.kp [2, 3, 4, 7, 10]
    exact ⟨rfl, hf, e, B2, B3, B4, B7, Ho⟩
   ·refine wskip ?_
    rw [atE, if_neg (rneg hb)]
    replace hf := hf.kp [2, 3, 4, 7, 10]
    exact ⟨rfl, hf, e, B2, B3, B4, B7, Ho⟩
  clear hf e B2 B3 B4 B7 Ho
  obtain ⟨hf, e, B2, B3, B4, B7, Ho⟩ := hJ
  try simp only [Exit.then]
  rw [genR] at hdo
  generalize atE g d = at' at hf hdo hlE
  obtain ⟨NV, hNV⟩ : ∃ NV : Nat → Prop, NV = fun b => (Value.slice av nv cv).ownBlock ≠ some b := ⟨_, rfl⟩
  have HD : (Dv (slE vtE) NV (g.1.filterMap (keepV d))).p (.slice av nv cv) w := Ho.slN fun b hb => by rw [hNV]; exact fun h => h hb
  obtain ⟨N5, hN5⟩ : ∃ N5, N5 = w.heap.size := ⟨_, rfl⟩
  have l7 := B7.lt
  have nV : ∀ bb, (bb ≤ b7 ∨ N5 ≤ bb) → NV bb := fun bb hb => by rw [hNV]; intro h; have h3 := Ho.lt h; omega
  have hNG : ∀ b, G b → NV b := fun b hb => by rw [hNV]; intro h; have h3 := Ho.lt h; have := hG b hb; omega
  have hN7 : b7 < N5 := by rw [hN5]; exact l7
  have hN5s : N5 ≤ w.heap.size := Nat.le_of_eq hN5
  clear hN5 hNV l7 Ho HOo hown
  replace hf := hf.kp [2, 3, 4, 7, 10]
  repeat refine seq ?_
  refine regn0 ?_
  refine tl_as hf rfl (by decide) fun a hf => ?_
  refine tl_nil ?_
  replace hf := hf.kp [2, 3, 4, 7, 10, 11]
  repeat refine seq ?_
  refine blk (loopN (fun r0 a w => ∃ (k : Nat) (u : Value), r0 = g.2.length - k ∧ k ≤ g.2.length ∧ Fr 183 a w [(2, E (.pointer (some ⟨b2, 0, none⟩))), (3, E (.pointer (some ⟨b3, 0, none⟩))), (4, E (.pointer (some ⟨b4, 0, none⟩))), (7, E (.pointer (some ⟨b7, 0, none⟩))), (10, E (I at')), (11, E (I k))] ∧ Ext W w ∧ Blk w b2 #[.slice a1 n1 c1, .slice a2 n2 c2] 25 ∧ Blk w b3 (dtV d).cells 104 ∧ Blk w b4 #[.slice none 0 0, .slice none 0 0] 25 ∧ Blk w b7 #[.slice av nv cv, u] 25 ∧ (Dv (slE vtE) NV (g.1.filterMap (keepV d))).p (.slice av nv cv) w ∧ OwR etE 57 N5 G w (edgesK d at' 0 (g.2.take k)) u ∧ N5 ≤ w.heap.size) g.2.length ⟨0, .slice none 0 0, rfl, by omega, hf, e, ⟨B2, B3, B4, B7, HD, OwR.nil etE _ hN5s fun b hb => Nat.lt_of_lt_of_le (hG b hb) (by omega), hN5s⟩⟩ ?_)
  clear hf e; try clear B2; try clear B3; try clear B4; try clear B7; try clear HD; try clear Ho; try clear hN5s
  rintro r0 a w ⟨k, u, rfl, hk, hf, e, B2, B3, B4, B7, HD, Ho, hN5s⟩
  repeat refine seq ?_
  refine regn 5 hf (by decide +kernel) ?_
  refine st (mv rfl) ?_
  refine st (fldA Tryz.underlying25 rfl T23 (by decide) rfl) ?_
  refine st (ld1 T23 rfl (by assumption) rfl) ?_
  refine st (lenD Tryz.underlying23 (isE rfl (VA.st _ _ _ _ e h2))) ?_
  refine st (lss rfl rfl) ?_
  refine en fun a w e' hf => ?_
  replace HD := VA.st _ _ _ _ e' HD
  replace hN5s := Nat.le_trans hN5s e'.size
  replace e := e.tr e'
  replace B2 := B2.ext e'
  replace B3 := B3.ext e'
  replace B4 := B4.ext e'
  replace B7 := B7.ext e'
  replace Ho := Ho.ext e'
  refine tl_nil ?_
  repeat refine seq ?_
  refine ifc hf rfl (fun hc => wskip ?_) (fun hc => wexit ?_)
  rotate_left
  rotate_left
  ·have hlt : k < g.2.length := by have := of_decide_eq_true hc; (try dsimp only at this); omega
   clear hc
   replace hf := hf.kp [2, 3, 4, 7, 10, 11]
   repeat refine seq ?_
   refine blk ?_
   have hg := List.getElem?_eq_getElem hlt
   generalize g.2[k] = y at hg
   have hs := edgesK_succ d at' hg
   have hlk := hlE k
   repeat refine seq ?_
   refine regn0 ?_
   refine tl_op hf (by decide) (fldA Tryz.underlying25 rfl T23 (by decide) rfl) fun a w e' hf => ?_
   replace HD := VA.st _ _ _ _ e' HD
   replace hN5s := Nat.le_trans hN5s e'.size
   replace Ho := Ho.ext e'
   replace e := e.tr e'
   replace B2 := B2.ext e'
   replace B3 := B3.ext e'
   replace B4 := B4.ext e'
   replace B7 := B7.ext e'
   clear e'
   refine tl_op hf (by decide) (ld1 T23 rfl B2 rfl) fun a w e' hf => ?_
   replace HD := VA.st _ _ _ _ e' HD
   replace hN5s := Nat.le_trans hN5s e'.size
   replace Ho := Ho.ext e'
   replace e := e.tr e'
   replace B2 := B2.ext e'
   replace B3 := B3.ext e'
   replace B4 := B4.ext e'
   replace B7 := B7.ext e'
   clear e'
   refine tl_op hf (by decide) (mv rfl) fun a w e' hf => ?_
   replace HD := VA.st _ _ _ _ e' HD
   replace hN5s := Nat.le_trans hN5s e'.size
   replace Ho := Ho.ext e'
   replace e := e.tr e'
   replace B2 := B2.ext e'
   replace B3 := B3.ext e'
   replace B4 := B4.ext e'
   replace B7 := B7.ext e'
   clear e'
   refine tl_op hf (by decide) (idxD Tryz.underlying23 S57 (isE rfl (VA.st _ _ _ _ e h2b)) rfl (by omega) (hg)) fun a w e' hf => ?_
   replace HD := VA.st _ _ _ _ e' HD
   replace hN5s := Nat.le_trans hN5s e'.size
   replace Ho := Ho.ext e'
   replace e := e.tr e'
   replace B2 := B2.ext e'
   replace B3 := B3.ext e'
   replace B4 := B4.ext e'
   replace B7 := B7.ext e'
   clear e'
   refine tl_op hf (by decide) (ldEt T57 (isR rfl)) fun a w e' hf => ?_
   replace HD := VA.st _ _ _ _ e' HD
   replace hN5s := Nat.le_trans hN5s e'.size
   replace Ho := Ho.ext e'
   replace e := e.tr e'
   replace B2 := B2.ext e'
   replace B3 := B3.ext e'
   replace B4 := B4.ext e'
   replace B7 := B7.ext e'
   clear e'
   refine tl_alloc I57 hf (by decide) fun a b12 w e' hb12 hs12 B12 hf => ?_
   have hle12 := Nat.le_trans e.size (Nat.le_of_eq hb12.symm)
   have lo12_hN5s := Nat.le_trans hN5s (Nat.le_of_eq hb12.symm)
   have ne12_Ho := Ho.ne_new hb12
   have lt12_B2 := B2.lt
   have lt12_B3 := B3.lt
   have lt12_B4 := B4.lt
   have lt12_B7 := B7.lt
   replace HD := VA.st _ _ _ _ e' HD
   replace hN5s := Nat.le_trans hN5s e'.size
   replace Ho := Ho.ext e'
   replace e := e.tr e'
   replace B2 := B2.ext e'
   replace B3 := B3.ext e'
   replace B4 := B4.ext e'
   replace B7 := B7.ext e'
   clear e'
   have n12 := ne12_Ho
   replace hf := hf.kp [2, 3, 4, 7, 10, 11, 12, 126]
   refine tl_stW T57 hf rfl rfl (etV_one y) B12 rfl rfl fun w hg' hsz B12 hf => ?_
   replace e := e.gr hg' (by omega); replace B2 := B2.gr hg' (by omega); replace B3 := B3.gr hg' (by omega); replace B4 := B4.gr hg' (by omega); replace B7 := B7.gr hg' (by omega); replace Ho := Ho.grE hg' n12
   replace HD := Dv.grN HD hg' (fun bb hb => nV bb (by cases hb; omega)); replace hN5s := Nat.le_trans hN5s hg'.size; clear hg'
   refine tl_nil ?_
   replace hf := hf.kp [2, 3, 4, 7, 10, 11, 12]
   repeat refine seq ?_
   refine regn 27 hf (by decide +kernel) ?_
   refine st (fldA Tryz.underlying104 rfl T3 (by decide) rfl) ?_
   refine st (ld1 T3 rfl B3 rfl) ?_
   refine st (eql rfl rfl) ?_
   refine st (mv rfl) ?_
   refine sgE rfl rfl (.k 12 rfl .n) (fun hgd => fldA Tryz.underlying57 rfl T3 (by decide) rfl) ?_
   refine sgE rfl rfl (.c 131 rfl (fun h => h) .n) (fun hgd => ld1 T3 rfl B12 rfl) ?_
   refine sgE rfl rfl (.k 3 rfl .n) (fun hgd => fldA Tryz.underlying104 rfl T3 (by decide) rfl) ?_
   refine sgE rfl rfl (.c 133 rfl (fun h => h) .n) (fun hgd => ld1 T3 rfl B3 rfl) ?_
   refine sgE rfl rfl (.c 132 rfl (fun h => h) (.c 134 rfl (fun h => h) .n)) (fun hgd => eql rfl rfl) ?_
   refine sgE rfl rfl (.c 135 rfl (fun h => h) .n) (fun hgd => mv rfl) ?_
   refine sgC rfl rfl (.k 12 rfl .n) (fun hgd => fldA Tryz.underlying57 rfl T3 (by decide) rfl) ?_
   refine sgC rfl rfl (.c 137 rfl (fun h => h) .n) (fun hgd => ld1 T3 rfl B12 rfl) ?_
   refine sgC rfl rfl (.k 3 rfl .n) (fun hgd => fldA Tryz.underlying104 rfl T3 (by decide) rfl) ?_
   refine sgC rfl rfl (.c 139 rfl (fun h => h) .n) (fun hgd => ld1 T3 rfl B3 rfl) ?_
   refine sgC rfl rfl (.c 138 rfl (fun h => h) (.c 140 rfl (fun h => h) .n)) (fun hgd => eql rfl rfl) ?_
   refine sgE rfl rfl (.c 136 rfl (fun h => h) (.k 141 rfl .n)) (fun hgd => pkOr rfl rfl (fun h => by rw [hgd, h]; rfl)) ?_
   refine st (pkAnd rfl rfl (fun h => by rw [h]; rfl)) ?_
   refine st (mv rfl) ?_
   refine sgE rfl rfl (.k 3 rfl .n) (fun hgd => fldA Tryz.underlying104 rfl T3 (by decide) rfl) ?_
   refine sgE rfl rfl (.c 145 rfl (fun h => h) .n) (fun hgd => ld1 T3 rfl B3 rfl) ?_
   refine sgE rfl rfl (.c 146 rfl (fun h => h) .n) (fun hgd => eql rfl rfl) ?_
   refine sgE rfl rfl (.c 147 rfl (fun h => h) .n) (fun hgd => mv rfl) ?_
   refine sgC rfl rfl (.k 11 rfl .n) (fun hgd => mv rfl) ?_
   refine sgC rfl rfl (.k 10 rfl .n) (fun hgd => mv rfl) ?_
   refine sgC rfl rfl (.c 149 rfl (fun h => h) (.c 150 rfl (fun h => h) .n)) (fun hgd => eql rfl rfl) ?_
   refine sgE rfl rfl (.c 148 rfl (fun h => h) (.k 151 rfl .n)) (fun hgd => pkAnd rfl rfl (fun h => by rw [hgd, h]; rfl)) ?_
   refine st (pkOr rfl rfl (fun h => by rw [h]; rfl)) ?_
   refine en fun a w e' hf => ?_
   replace HD := VA.st _ _ _ _ e' HD
   replace hN5s := Nat.le_trans hN5s e'.size
   replace Ho := Ho.ext e'
   replace e := e.tr e'
   replace B2 := B2.ext e'
   replace B3 := B3.ext e'
   replace B4 := B4.ext e'
   replace B7 := B7.ext e'
   replace B12 := B12.ext e'
   refine tl_nil ?_
   repeat refine seq ?_
   refine ifc hf rfl (fun hb => ?_) (fun hb => ?_)
   ·refine wexit ?_
    try simp only [Exit.then, Exit.inBlock, ↓reduceIte]
    replace hf := hf.kp [2, 3, 4, 7, 10, 11]
    try simp only [Exit.then, Exit.inBlock, ↓reduceIte]
    repeat refine seq ?_
    refine regn 2 hf (by decide +kernel) ?_
    refine st (mv rfl) ?_
    refine st ((add rfl rfl (by omega)).eq (congrArg (Value.int .i64) (show (k : Int) + 1 = ((k + 1 : Nat) : Int) from rfl))) ?_
    refine en fun a w e' hf => ?_
    replace HD := VA.st _ _ _ _ e' HD
    replace hN5s := Nat.le_trans hN5s e'.size
    replace Ho := Ho.ext e'
    replace e := e.tr e'
    replace B2 := B2.ext e'
    replace B3 := B3.ext e'
    replace B4 := B4.ext e'
    replace B7 := B7.ext e'
    refine tl_as hf rfl (by decide) fun a hf => ?_
    refine tl_nil ?_
    replace hf := hf.kp [2, 3, 4, 7, 10, 11]
    refine ⟨_, ?_, k + 1, u, rfl, by omega, hf, e, ?_⟩
    ·omega
    rw [hs, keepE, if_pos hb]
    exact ⟨B2, B3, B4, B7, HD, by simpa using Ho, hN5s⟩
   refine wskip ?_
   try simp only [Exit.then, Exit.inBlock, ↓reduceIte]
   have hkv := rneg hb; clear hb
   replace hf := hf.kp [2, 3, 4, 7, 10, 11, 12]
   repeat refine seq ?_
   refine regn 8 hf (by decide +kernel) ?_
   refine st (mv rfl) ?_
   refine st (mv rfl) ?_
   refine st (eql rfl rfl) ?_
   refine st (mv rfl) ?_
   refine sgE rfl rfl (.k 3 rfl .n) (fun hgd => fldA Tryz.underlying104 rfl T3 (by decide) rfl) ?_
   refine sgE rfl rfl (.c 158 rfl (fun h => h) .n) (fun hgd => ld1 T3 rfl B3 rfl) ?_
   refine sgE rfl rfl (.c 159 rfl (fun h => h) .n) (fun hgd => eql rfl rfl) ?_
   refine st (pkAnd rfl rfl (fun h => by rw [h]; rfl)) ?_
   refine en fun a w e' hf => ?_
   replace HD := VA.st _ _ _ _ e' HD
   replace hN5s := Nat.le_trans hN5s e'.size
   replace Ho := Ho.ext e'
   replace e := e.tr e'
   replace B2 := B2.ext e'
   replace B3 := B3.ext e'
   replace B4 := B4.ext e'
   replace B7 := B7.ext e'
   replace B12 := B12.ext e'
   refine tl_nil ?_
   repeat refine seq ?_
   refine cut (J := fun a w => Fr 183 a w [(2, E (.pointer (some ⟨b2, 0, none⟩))), (3, E (.pointer (some ⟨b3, 0, none⟩))), (4, E (.pointer (some ⟨b4, 0, none⟩))), (7, E (.pointer (some ⟨b7, 0, none⟩))), (10, E (I at')), (11, E (I k)), (12, E (.pointer (some ⟨b12, 0, none⟩)))] ∧ Ext W w ∧ Blk w b2 #[.slice a1 n1 c1, .slice a2 n2 c2] 25 ∧ Blk w b3 (dtV d).cells 104 ∧ Blk w b4 #[.slice none 0 0, .slice none 0 0] 25 ∧ Blk w b7 #[.slice av nv cv, u] 25 ∧ (Dv (slE vtE) NV (g.1.filterMap (keepV d))).p (.slice av nv cv) w ∧ Blk w b12 #[.int .i64 y.1.1, .int .i64 y.1.2, .int .u8 (if ((k : Int) == at' && d.1 == 6) = true then d.2.2.2.1 else y.2.1), .int .i64 y.2.2] 57 ∧ OwR etE 57 N5 G w (edgesK d at' 0 (g.2.take k)) u ∧ N5 ≤ w.heap.size) ?_ (fun a w hJ => ?_)
   ·repeat refine seq ?_
    refine ifc hf rfl (fun hb => ?_) (fun hb => ?_)
    ·replace hf := hf.kp [2, 3, 4, 7, 10, 11, 12]
     repeat refine seq ?_
     refine regn 3 hf (by decide +kernel) ?_
     refine st (fldA Tryz.underlying104 rfl T5 (by decide) rfl) ?_
     refine st (ld1 T5 rfl B3 rfl) ?_
     refine st (fldA Tryz.underlying57 rfl T5 (by decide) rfl) ?_
     refine en fun a w e' hf => ?_
     replace HD := VA.st _ _ _ _ e' HD
     replace hN5s := Nat.le_trans hN5s e'.size
     replace Ho := Ho.ext e'
     replace e := e.tr e'
     replace B2 := B2.ext e'
     replace B3 := B3.ext e'
     replace B4 := B4.ext e'
     replace B7 := B7.ext e'
     replace B12 := B12.ext e'
     clear e'
     refine tl_st1 T5 hf rfl rfl (rfl) B12 (by simp) fun w hg hsz B12 hf => ?_
     replace HD := Dv.grN HD hg (fun bb hb => nV bb (by cases hb; omega))
     replace hN5s := Nat.le_trans hN5s hg.size
     replace Ho := Ho.grE hg n12
     replace e := e.gr hg (by omega)
     replace B2 := B2.gr hg (by omega)
     replace B3 := B3.gr hg (by omega)
     replace B4 := B4.gr hg (by omega)
     replace B7 := B7.gr hg (by omega)
     clear hg
     refine tl_nil ?_
     rw [if_pos hb]
     replace hf := hf.kp [2, 3, 4, 7, 10, 11, 12]
     exact ⟨rfl, hf, e, B2, B3, B4, B7, HD, B12, Ho, hN5s⟩
    ·refine wskip ?_
     rw [if_neg (rneg hb)]
     replace hf := hf.kp [2, 3, 4, 7, 10, 11, 12]
     exact ⟨rfl, hf, e, B2, B3, B4, B7, HD, B12, Ho, hN5s⟩
   clear hf e B2 B3 B4 B7 HD B12 Ho hN5s
   obtain ⟨hf, e, B2, B3, B4, B7, HD, B12, Ho, hN5s⟩ := hJ
   try simp only [Exit.then]
   repeat refine seq ?_
   refine regn 8 hf (by decide +kernel) ?_
   refine st (mv rfl) ?_
   refine st (mv rfl) ?_
   refine st (eql rfl rfl) ?_
   refine st (mv rfl) ?_
   refine sgE rfl rfl (.k 3 rfl .n) (fun hgd => fldA Tryz.underlying104 rfl T3 (by decide) rfl) ?_
   refine sgE rfl rfl (.c 169 rfl (fun h => h) .n) (fun hgd => ld1 T3 rfl B3 rfl) ?_
   refine sgE rfl rfl (.c 170 rfl (fun h => h) .n) (fun hgd => eql rfl rfl) ?_
   refine st (pkAnd rfl rfl (fun h => by rw [h]; rfl)) ?_
   refine en fun a w e' hf => ?_
   replace HD := VA.st _ _ _ _ e' HD
   replace hN5s := Nat.le_trans hN5s e'.size
   replace Ho := Ho.ext e'
   replace e := e.tr e'
   replace B2 := B2.ext e'
   replace B3 := B3.ext e'
   replace B4 := B4.ext e'
   replace B7 := B7.ext e'
   replace B12 := B12.ext e'
   refine tl_nil ?_
   repeat refine seq ?_
   refine cut (J := fun a w => Fr 183 a w [(2, E (.pointer (some ⟨b2, 0, none⟩))), (3, E (.pointer (some ⟨b3, 0, none⟩))), (4, E (.pointer (some ⟨b4, 0, none⟩))), (7, E (.pointer (some ⟨b7, 0, none⟩))), (10, E (I at')), (11, E (I k)), (12, E (.pointer (some ⟨b12, 0, none⟩)))] ∧ Ext W w ∧ Blk w b2 #[.slice a1 n1 c1, .slice a2 n2 c2] 25 ∧ Blk w b3 (dtV d).cells 104 ∧ Blk w b4 #[.slice none 0 0, .slice none 0 0] 25 ∧ Blk w b7 #[.slice av nv cv, u] 25 ∧ (Dv (slE vtE) NV (g.1.filterMap (keepV d))).p (.slice av nv cv) w ∧ Blk w b12 #[.int .i64 y.1.1, .int .i64 y.1.2, .int .u8 (if ((k : Int) == at' && d.1 == 6) = true then d.2.2.2.1 else y.2.1), .int .i64 (if ((k : Int) == at' && d.1 == 7) = true then d.2.2.2.2 else y.2.2)] 57 ∧ OwR etE 57 N5 G w (edgesK d at' 0 (g.2.take k)) u ∧ N5 ≤ w.heap.size) ?_ (fun a w hJ => ?_)
   ·repeat refine seq ?_
    refine ifc hf rfl (fun hb => ?_) (fun hb => ?_)
    ·replace hf := hf.kp [2, 3, 4, 7, 10, 11, 12]
     repeat refine seq ?_
     refine regn 3 hf (by decide +kernel) ?_
     refine st (fldA Tryz.underlying104 rfl T3 (by decide) rfl) ?_
     refine st (ld1 T3 rfl B3 rfl) ?_
     refine st (fldA Tryz.underlying57 rfl T3 (by decide) rfl) ?_
     refine en fun a w e' hf => ?_
     replace HD := VA.st _ _ _ _ e' HD
     replace hN5s := Nat.le_trans hN5s e'.size
     replace Ho := Ho.ext e'
     replace e := e.tr e'
     replace B2 := B2.ext e'
     replace B3 := B3.ext e'
     replace B4 := B4.ext e'
     replace B7 := B7.ext e'
     replace B12 := B12.ext e'
     clear e'
     refine tl_st1 T3 hf rfl rfl (rfl) B12 (by simp) fun w hg hsz B12 hf => ?_
     replace HD := Dv.grN HD hg (fun bb hb => nV bb (by cases hb; omega))
     replace hN5s := Nat.le_trans hN5s hg.size
     replace Ho := Ho.grE hg n12
     replace e := e.gr hg (by omega)
     replace B2 := B2.gr hg (by omega)
     replace B3 := B3.gr hg (by omega)
     replace B4 := B4.gr hg (by omega)
     replace B7 := B7.gr hg (by omega)
     clear hg
     refine tl_nil ?_
     rw [if_pos hb]
     replace hf := hf.kp [2, 3, 4, 7, 10, 11, 12]
     exact ⟨rfl, hf, e, B2, B3, B4, B7, HD, B12, Ho, hN5s⟩
    ·refine wskip ?_
     rw [if_neg (rneg hb)]
     replace hf := hf.kp [2, 3, 4, 7, 10, 11, 12]
     exact ⟨rfl, hf, e, B2, B3, B4, B7, HD, B12, Ho, hN5s⟩
   clear hf e B2 B3 B4 B7 HD B12 Ho hN5s
   obtain ⟨hf, e, B2, B3, B4, B7, HD, B12, Ho, hN5s⟩ := hJ
   try simp only [Exit.then]
   rw [keepE, if_neg hkv] at hs
   obtain ⟨y', hy'⟩ : ∃ y' : ET, y' = (y.1, (if ((k : Int) == at' && d.1 == 6) = true then d.2.2.2.1 else y.2.1), (if ((k : Int) == at' && d.1 == 7) = true then d.2.2.2.2 else y.2.2)) := ⟨_, rfl⟩
   replace B12 : Blk w b12 (etV y').cells 57 := by rw [hy']; exact B12
   rw [← hy'] at hs
   clear hy'
   have n2 := Ho.neLt (b := b2) (by omega); have n3 := Ho.neLt (b := b3) (by omega); have n4 := Ho.neLt (b := b4) (by omega); have n7 := Ho.neLt (b := b7) (by omega)
   repeat refine seq ?_
   refine regn 4 hf (by decide +kernel) ?_
   refine st (fldA Tryz.underlying25 rfl T23 (by decide) rfl) ?_
   refine st ((ld1 T23 rfl (by assumption) rfl).eq ((rfl : _ = u))) ?_
   refine st ((ldW T57 rfl B12 rfl).eq ((rfl : _ = etV y'))) ?_
   refine st (bsl1 Tryz.underlying23 I57 rfl (by decide) rfl Ho.avs (isEt rfl)) ?_
   refine en fun a w e' hf => ?_
   replace HD := VA.st _ _ _ _ e' HD
   replace hN5s := Nat.le_trans hN5s e'.size
   replace Ho := Ho.ext e'
   replace e := e.tr e'
   replace B2 := B2.ext e'
   replace B3 := B3.ext e'
   replace B4 := B4.ext e'
   replace B7 := B7.ext e'
   replace B12 := B12.ext e'
   clear e'
   haveI hin : ∀ G0, InR (GB W G0) _ := OwR.inGB (W := W) Ho (by omega)
   refine tl_app Tryz.underlying23 I57 rfl rfl hf (by decide) rfl Ho (isR rfl) (by simp only [List.length_singleton]; omega) (by simp only [List.length_singleton, maxLen]; omega) fun a v w hg hat Hn hf => ?_
   replace e := e.gro hg (Ho.row (W := W) (by omega))
   have hrow := Ho.row (W := W) (by omega)
   replace HD := Dv.grN HD hg (fun bb hb => nV bb (.inr (Ho.lt hb).1))
   replace hN5s := Nat.le_trans hN5s hg.size
   replace Ho := Hn
   clear hrow
   replace B2 := B2.gro hg (by assumption)
   replace B3 := B3.gro hg (by assumption)
   replace B4 := B4.gro hg (by assumption)
   replace B7 := B7.gro hg (by assumption)
   replace B12 := B12.gro hg (by assumption)
   replace Ho := Hn; clear Hn hg hat hin
   replace hf := hf.kp [2, 3, 4, 7, 10, 11, 180]
   clear n2 n3 n4 n7 n12
   refine tl_op hf (by decide) (fldA Tryz.underlying25 rfl T23 (by decide) rfl) fun a w e' hf => ?_
   replace HD := VA.st _ _ _ _ e' HD
   replace hN5s := Nat.le_trans hN5s e'.size
   replace Ho := Ho.ext e'
   replace e := e.tr e'
   replace B2 := B2.ext e'
   replace B3 := B3.ext e'
   replace B4 := B4.ext e'
   replace B7 := B7.ext e'
   clear e'
   refine tl_st1 T23 hf rfl rfl (slOne Ho.sl) B7 (by simp) fun w hg hsz B7 hf => ?_
   replace HD := Dv.grN HD hg (fun bb hb => nV bb (by cases hb; omega))
   replace hN5s := Nat.le_trans hN5s hg.size
   replace Ho := Ho.grE hg (Ho.neLt (by omega))
   replace e := e.gr hg (by omega)
   replace B2 := B2.gr hg (by omega)
   replace B3 := B3.gr hg (by omega)
   replace B4 := B4.gr hg (by omega)
   clear hg
   refine tl_nil ?_
   try simp only [Exit.then, Exit.inBlock, ↓reduceIte]
   repeat refine seq ?_
   refine regn 2 hf (by decide +kernel) ?_
   refine st (mv rfl) ?_
   refine st ((add rfl rfl (by omega)).eq (congrArg (Value.int .i64) (show (k : Int) + 1 = ((k + 1 : Nat) : Int) from rfl))) ?_
   refine en fun a w e' hf => ?_
   replace HD := VA.st _ _ _ _ e' HD
   replace hN5s := Nat.le_trans hN5s e'.size
   replace Ho := Ho.ext e'
   replace e := e.tr e'
   replace B2 := B2.ext e'
   replace B3 := B3.ext e'
   replace B4 := B4.ext e'
   replace B7 := B7.ext e'
   refine tl_as hf rfl (by decide) fun a hf => ?_
   refine tl_nil ?_
   replace hf := hf.kp [2, 3, 4, 7, 10, 11]
   refine ⟨_, ?_, k + 1, v, rfl, by omega, hf, e, ?_⟩
   ·omega
   exact ⟨B2, B3, B4, B7, HD, by rw [hs]; exact Ho, hN5s⟩
  ·obtain rfl : k = g.2.length := by have := of_decide_eq_false hc; (try dsimp only at this); omega
   clear hc
   simp only [Exit.then, Exit.inBlock, ↓reduceIte]
   rw [List.take_length] at Ho
   replace hf := hf.kp [4, 7]
   repeat refine seq ?_
   refine regn 1 hf (by decide +kernel) ?_
   refine st ((ldW T25 rfl (by assumption) rfl).eq ((rfl : _ = Value.agg #[.slice av nv cv, u]))) ?_
   refine en fun a w e' hf => ?_
   replace HD := VA.st _ _ _ _ e' HD
   replace hN5s := Nat.le_trans hN5s e'.size
   replace Ho := Ho.ext e'
   replace e := e.tr e'
   replace B2 := B2.ext e'
   replace B3 := B3.ext e'
   replace B4 := B4.ext e'
   replace B7 := B7.ext e'
   clear e'
   haveI hinr : ∀ G0, InR (GB W G0) (some b4) := fun G0 => InR.gb (by omega)
   refine tl_stW T25 hf rfl rfl (one2 rfl (slOne Ho.sl)) B4 rfl (rfl) fun w hg hsz B4 hf => ?_
   replace HD := Dv.grN HD hg (fun bb hb => nV bb (by cases hb; omega))
   replace hN5s := Nat.le_trans hN5s hg.size
   replace Ho := Ho.grE hg (Ho.neLt (by omega))
   replace e := e.gr hg (by omega)
   replace B2 := B2.gr hg (by omega)
   replace B3 := B3.gr hg (by omega)
   replace B7 := B7.gr hg (by omega)
   clear hg
   refine tl_as hf rfl (by decide) fun a hf => ?_
   refine tl_nil ?_
   refine wret (ret2c rfl T25 hf rfl rfl B4 rfl ?_)
   rintro _ rfl
   exact ⟨_, rfl, e, fin _ _ _ _ e (Dv.gt.2 ⟨_, _, rfl, Dv.weak HD fun b _ hb => hNG b hb, Ho.sl⟩) hdo⟩
end Go.Mono

namespace Go.Mono
open Go Go.Proofs Go.RowKit Go.Gr
def stepB : Option GT → DT → Option GT
 | none, _ => none
 | some g, d => if wrongM g d = 0 then some (doP g d) else none
def bldM (V : List VT) (E : List ET) : Option GT := (E.map dE).foldl stepB ((V.map dV).foldl stepB (some ([], [])))
theorem foldl_none (l : List DT) : l.foldl stepB none = none := by induction l with
 | nil => rfl
 | cons d r ih => exact ih
theorem fold_take {l : List DT} {k : Nat} {d : DT} (s : Option GT) (h : l[k]? = some d) : (l.take (k + 1)).foldl stepB s = stepB ((l.take k).foldl stepB s) d := by
 rw [take_succ' h, List.foldl_append]; rfl
theorem fold_stop {l : List DT} {k : Nat} {d : DT} (s : Option GT) (h : l[k]? = some d) (hn : stepB ((l.take k).foldl stepB s) d = none) : l.foldl stepB s = none := by
 rw [← List.take_append_drop (k + 1) l, List.foldl_append, fold_take s h, hn, foldl_none]
def okD (d : DT) : Prop := (Lit.int .i64 d.2.1).wf = true ∧ (Lit.int .i64 d.2.2.1).wf = true ∧ okT d.2.2.2
theorem bD4 (x : DT) : Tryz.prog.built 46 [(0, .int .i64 x.1), (1, .int .i64 x.2.1), (3, .int .u8 x.2.2.2.1), (4, .int .i64 x.2.2.2.2)] = some #[.int .i64 x.1, .int .i64 x.2.1, .int .i64 0, .int .u8 x.2.2.2.1, .int .i64 x.2.2.2.2] := by kernel_rfl
theorem bD5 (x : DT) : Tryz.prog.built 46 [(0, .int .i64 x.1), (1, .int .i64 x.2.1), (2, .int .i64 x.2.2.1), (3, .int .u8 x.2.2.2.1), (4, .int .i64 x.2.2.2.2)] = some #[.int .i64 x.1, .int .i64 x.2.1, .int .i64 x.2.2.1, .int .u8 x.2.2.2.1, .int .i64 x.2.2.2.2] := by kernel_rfl
def BldQ (V : List VT) (E : List ET) (W : World) (en : Ending) (w' : World) : Prop :=
 Ext W w' ∧ ((∃ g bg bv be, bldM V E = some g ∧ en = .returned (.tuple #[.pointer (some ⟨bg, 0, none⟩), I 0]) ∧ W.heap.size ≤ bg ∧ W.heap.size ≤ bv ∧ W.heap.size ≤ be ∧ GrR w' bg bv be (V.length + E.length) g) ∨
  (∃ c : Int, c ≠ 0 ∧ bldM V E = none ∧ en = .returned (.tuple #[.pointer none, I c])))
theorem build_spec {G : Nat → Prop} (V : List VT) (E' : List ET) (v u : Value) (W : World) (h1 : (Dv (slE vtE) G V).p v W) (h2 : (Dv (slE etE) G E').p u W) (hl1 : V.length ≤ 100000) (hl2 : E'.length ≤ 100000) (hV : ∀ x ∈ V, okD (dV x)) (hE : ∀ x ∈ E', okD (dE x)) :
  Calls Tryz.prog 15 #[v, u] W (BldQ V E' W) := by
 refine enter (args := [v, u]) (As := [E v, E u]) Tryz.func15 rfl Tryz.ntmps15 (Nat.le_of_ble_eq_true rfl) ?_ (fun a hf => ?_) (Nat.le_of_ble_eq_true rfl)
 rotate_left
 dsimp only [params, Nat.reduceAdd] at hf
 rotate_right
 ·exact arg2 rfl rfl
 have e := Ext.rfl' W
 repeat refine seq ?_
 refine regn0 ?_
 refine tl_as hf rfl (by decide) fun a hf => ?_
 refine tl_as hf rfl (by decide) fun a hf => ?_
 refine tl_nil ?_
 repeat refine seq ?_
 refine regn0 ?_
 refine tl_callE (S := fun b => False) (F := fun z w' => ∃ bg bv be, z = .pointer (some ⟨bg, 0, none⟩) ∧ W.heap.size ≤ bg ∧ W.heap.size ≤ bv ∧ W.heap.size ≤ be ∧ GrR w' bg bv be 0 ([], [])) hf (by decide) En32 (by simp only [List.map_toArray, List.map_nil]; exact (gnewG_spec _).mono fun en w' ⟨bg, bv, be, k1, k2, k3, k4, k5, k6⟩ => ⟨_, k1, k2.chg _, bg, bv, be, rfl, Nat.le_trans e.size k3, Nat.le_trans e.size k4, Nat.le_trans e.size k5, k6⟩) fun a z w hc hF hf => ?_
 obtain ⟨bg, bv, be, rfl, hbg, hbv, hbe, hg⟩ := hF
 replace e := e.ch hc (fun b hb => hb.elim)
 clear hc
 refine tl_as hf rfl (by decide) fun a hf => ?_
 refine tl_nil ?_
 repeat refine seq ?_
 refine regn 3 hf (by decide +kernel) ?_
 refine st (mv rfl) ?_
 refine st (lenD Tryz.underlying52 (isE rfl (VA.st _ _ _ _ e h1))) ?_
 refine st (mv rfl) ?_
 refine en fun a w e' hf => ?_
 replace e := e.tr e'
 replace hg := hg.ext e'
 refine tl_nil ?_
 replace hf := hf.kp [1, 4, 5, 6, 14, 15, 16]
 repeat refine seq ?_
 refine blk (loopN (fun r0 a w => ∃ (k : Nat) (g : GT), r0 = V.length - k ∧ k ≤ V.length ∧ Fr 55 a w [(1, E u), (4, E (.pointer none)), (5, E (I 0)), (6, E (.pointer (some ⟨bg, 0, none⟩))), (14, E v), (15, E (I (V.length : Nat))), (16, E (I k))] ∧ Ext W w ∧ GrR w bg bv be k g ∧ ((V.map dV).take k).foldl stepB (some ([], [])) = some g) V.length ⟨0, ([],  []), rfl, by omega, hf, e, ⟨hg, rfl⟩⟩ ?_)
 clear hf e; try clear hg; try clear hfd
 rintro r0 a w ⟨k, g, rfl, hk, hf, e, hg, hfd⟩
 repeat refine seq ?_
 refine regn 1 hf (by decide +kernel) ?_
 refine st (lss rfl rfl) ?_
 refine en fun a w e' hf => ?_
 replace e := e.tr e'
 replace hg := hg.ext e'
 refine tl_nil ?_
 repeat refine seq ?_
 refine ifc hf rfl (fun hc => wskip ?_) (fun hc => wexit ?_)
 rotate_left
 rotate_left
 ·have hlt : k < V.length := by have := of_decide_eq_true hc; (try dsimp only at this); omega
  clear hc
  replace hf := hf.kp [1, 4, 5, 6, 14, 15, 16]
  repeat refine seq ?_
  refine blk ?_
  have hx := List.getElem?_eq_getElem hlt
  generalize V[k] = x at hx
  have hxd : (V.map dV)[k]? = some (dV x) := by rw [List.getElem?_map, hx]; rfl
  have hok := hV x (List.mem_of_getElem? hx)
  have hk : k < maxLen := by simp only [maxLen]; omega
  replace hf := hf.kp [1, 4, 5, 6, 14, 15, 16]
  repeat refine seq ?_
  refine regn0 ?_
  refine tl_op hf (by decide) (idxD Tryz.underlying52 S54 (isE rfl (VA.st _ _ _ _ e h1)) rfl (by omega) (hx)) fun a w e' hf => ?_
  replace e := e.tr e'
  replace hg := hg.ext e'
  clear e'
  refine tl_op hf (by decide) (ldVt T54 (isR rfl)) fun a w e' hf => ?_
  replace e := e.tr e'
  replace hg := hg.ext e'
  clear e'
  refine tl_alloc I54 hf (by decide) fun a b8 w e' hb8 hs8 B8 hf => ?_
  have hle8 := Nat.le_trans e.size (Nat.le_of_eq hb8.symm)
  replace e := e.tr e'
  replace hg := hg.ext e'
  clear e'
  replace hf := hf.kp [1, 4, 5, 6, 8, 14, 15, 16, 19]
  have nb8 : bg ≠ b8 ∧ bv ≠ b8 ∧ be ≠ b8 := ⟨hg.blk.ne B8 (by decide), hg.vs.neB B8, hg.es.neB B8⟩
  refine tl_stW T54 hf rfl rfl (vtV_one x) B8 rfl rfl fun w hg' hsz B8 hf => ?_
  replace hg : GrR w bg bv be k g := ⟨hg.blk.gr hg' nb8.1, hg.vs.gr hg' (fun h => nb8.2.1 (by cases h; rfl)), hg.es.gr hg' (fun h => nb8.2.2 (by cases h; rfl)), hg.ne⟩
  replace e := e.gr hg' (by omega); clear hg'
  refine tl_nil ?_
  replace hf := hf.kp [1, 4, 5, 6, 8, 14, 15, 16]
  repeat refine seq ?_
  refine regn 8 hf (by decide +kernel) ?_
  refine st (mv rfl) ?_
  refine st (fldA Tryz.underlying54 rfl T3 (by decide) rfl) ?_
  refine st (ld1 T3 rfl B8 rfl) ?_
  refine st (fldA Tryz.underlying54 rfl T5 (by decide) rfl) ?_
  refine st (ld1 T5 rfl B8 rfl) ?_
  refine st (fldA Tryz.underlying54 rfl T3 (by decide) rfl) ?_
  refine st (ld1 T3 rfl B8 rfl) ?_
  refine st (bldD4 (dV x) rfl (bD4 (dV x)) rfl rfl rfl rfl) ?_
  refine en fun a w e' hf => ?_
  replace e := e.tr e'
  replace hg := hg.ext e'
  replace B8 := B8.ext e'
  clear e'
  replace hf := hf.kp [1, 4, 5, 6, 14, 15, 16, 20, 27]
  refine tl_callE (S := fun b => b = bv ∨ b = be) (F := fun z w' => z = I (wrongM g (dV x)) ∧ GrR w' bg bv be (k + 1) (apP g (dV x))) hf (by decide) En13 ?_ fun a z w hc hF hf => ?_
  ·have h9 := apply_spec g (dV x) bg bv be k _ hg hk (.inl rfl) hok.1 hok.2.1 hok.2.2
   have e20 : a.eval (.tmp 20) = .pointer (some ⟨bg, 0, none⟩) := hf.opd (.tmp 20) _ rfl
   have e27 : a.eval (.tmp 27) = dtV (dV x) := hf.opd (.tmp 27) _ rfl
   simp only [List.map_toArray, List.map_cons, List.map_nil, e20, e27]
   exact h9.mono fun en w' ⟨k1, k2, k3⟩ => ⟨_, k1, k2, rfl, k3⟩
  obtain ⟨rfl, hg⟩ := hF
  replace e := e.ch hc (fun b hb => by rcases hb with rfl | rfl <;> assumption)
  clear hc B8
  replace hf := hf.kp [1, 4, 5, 6, 14, 15, 16, 28]
  refine tl_as hf rfl (by decide) fun a hf => ?_
  refine tl_nil ?_
  repeat refine seq ?_
  refine regn 2 hf (by decide +kernel) ?_
  refine st (mv rfl) ?_
  refine st (neq rfl rfl) ?_
  refine en fun a w e' hf => ?_
  replace e := e.tr e'
  replace hg := hg.ext e'
  refine tl_nil ?_
  have hft := fold_take (some ([], [])) hxd
  rw [hfd] at hft
  repeat refine seq ?_
  refine ifc hf rfl (fun hb => ?_) (fun hb => ?_)
  ·have hb' : ¬ wrongM g (dV x) = 0 := by simpa using hb
   have hst : stepB (((V.map dV).take k).foldl stepB (some ([], []))) (dV x) = none := by rw [hfd, stepB, if_neg hb']
   repeat refine seq ?_
   refine regn 1 hf (by decide +kernel) ?_
   refine st (mv rfl) ?_
   refine en fun a w e' hf => ?_
   replace e := e.tr e'
   replace hg := hg.ext e'
   refine tl_as hf rfl (by decide) fun a hf => ?_
   refine tl_as hf rfl (by decide) fun a hf => ?_
   refine tl_nil ?_
   refine wret ?_
   try simp only [Exit.then, Exit.inBlock]
   refine ret2 rfl hf rfl rfl ?_
   rintro _ _ rfl rfl
   exact ⟨e, .inr ⟨_, hb', by rw [bldM, fold_stop _ hxd hst, foldl_none], rfl⟩⟩
  ·have hb' : wrongM g (dV x) = 0 := by simpa using hb
   refine wskip ?_
   try simp only [Exit.then, Exit.inBlock, ↓reduceIte]
   rw [stepB, if_pos hb'] at hft
   rw [apP, if_pos hb'] at hg
   try simp only [Exit.then, Exit.inBlock, ↓reduceIte]
   repeat refine seq ?_
   refine regn 1 hf (by decide +kernel) ?_
   refine st ((add rfl rfl (by omega)).eq (congrArg (Value.int .i64) (show (k : Int) + 1 = ((k + 1 : Nat) : Int) from rfl))) ?_
   refine en fun a w e' hf => ?_
   replace e := e.tr e'
   replace hg := hg.ext e'
   clear e'
   refine tl_op hf (by decide) (mv rfl) fun a w e' hf => ?_
   replace e := e.tr e'
   replace hg := hg.ext e'
   refine tl_nil ?_
   replace hf := hf.kp [1, 4, 5, 6, 14, 15, 16]
   refine ⟨_, ?_, k + 1, doP g (dV x), rfl, by omega, hf, e, ?_⟩
   ·omega
   exact ⟨hg, hft⟩
 ·obtain rfl : k = V.length := by have := of_decide_eq_false hc; (try dsimp only at this); omega
  clear hc
  simp only [Exit.then, Exit.inBlock, ↓reduceIte]
  rw [List.take_of_length_le (by simp)] at hfd
  repeat refine seq ?_
  refine regn 3 hf (by decide +kernel) ?_
  refine st (mv rfl) ?_
  refine st (lenD Tryz.underlying53 (isE rfl (VA.st _ _ _ _ e h2))) ?_
  refine st (mv rfl) ?_
  refine en fun a w e' hf => ?_
  replace e := e.tr e'
  replace hg := hg.ext e'
  refine tl_nil ?_
  replace hf := hf.kp [4, 5, 6, 33, 34, 35]
  repeat refine seq ?_
  refine blk (loopN (fun r0 a w => ∃ (k : Nat) (g : GT), r0 = E'.length - k ∧ k ≤ E'.length ∧ Fr 55 a w [(4, E (.pointer none)), (5, E (I 0)), (6, E (.pointer (some ⟨bg, 0, none⟩))), (33, E u), (34, E (I (E'.length : Nat))), (35, E (I k))] ∧ Ext W w ∧ GrR w bg bv be (V.length + k) g ∧ ((E'.map dE).take k).foldl stepB ((V.map dV).foldl stepB (some ([], []))) = some g) E'.length ⟨0, g, rfl, by omega, hf, e, ⟨hg, hfd⟩⟩ ?_)
  clear hf e; try clear hg; try clear hfd
  rintro r0 a w ⟨k, g, rfl, hk, hf, e, hg, hfd⟩
  repeat refine seq ?_
  refine regn 1 hf (by decide +kernel) ?_
  refine st (lss rfl rfl) ?_
  refine en fun a w e' hf => ?_
  replace e := e.tr e'
  replace hg := hg.ext e'
  refine tl_nil ?_
  repeat refine seq ?_
  refine ifc hf rfl (fun hc => wskip ?_) (fun hc => wexit ?_)
  rotate_left
  rotate_left
  ·have hlt : k < E'.length := by have := of_decide_eq_true hc; (try dsimp only at this); omega
   clear hc
   replace hf := hf.kp [4, 5, 6, 33, 34, 35]
   repeat refine seq ?_
   refine blk ?_
   have hx := List.getElem?_eq_getElem hlt
   generalize E'[k] = x at hx
   have hxd : (E'.map dE)[k]? = some (dE x) := by rw [List.getElem?_map, hx]; rfl
   have hok := hE x (List.mem_of_getElem? hx)
   have hk' : V.length + k < maxLen := by simp only [maxLen]; omega
   replace hf := hf.kp [4, 5, 6, 33, 34, 35]
   repeat refine seq ?_
   refine regn0 ?_
   refine tl_op hf (by decide) (idxD Tryz.underlying53 S56 (isE rfl (VA.st _ _ _ _ e h2)) rfl (by omega) (hx)) fun a w e' hf => ?_
   replace e := e.tr e'
   replace hg := hg.ext e'
   clear e'
   refine tl_op hf (by decide) (ldEt T56 (isR rfl)) fun a w e' hf => ?_
   replace e := e.tr e'
   replace hg := hg.ext e'
   clear e'
   refine tl_alloc I56 hf (by decide) fun a b11 w e' hb11 hs11 B11 hf => ?_
   have hle11 := Nat.le_trans e.size (Nat.le_of_eq hb11.symm)
   replace e := e.tr e'
   replace hg := hg.ext e'
   clear e'
   replace hf := hf.kp [4, 5, 6, 11, 33, 34, 35, 38]
   have nb8 : bg ≠ b11 ∧ bv ≠ b11 ∧ be ≠ b11 := ⟨hg.blk.ne B11 (by decide), hg.vs.neB B11, hg.es.neB B11⟩
   refine tl_stW T56 hf rfl rfl (etV_one x) B11 rfl rfl fun w hg' hsz B11 hf => ?_
   replace hg : GrR w bg bv be (V.length + k) g := ⟨hg.blk.gr hg' nb8.1, hg.vs.gr hg' (fun h => nb8.2.1 (by cases h; rfl)), hg.es.gr hg' (fun h => nb8.2.2 (by cases h; rfl)), hg.ne⟩
   replace e := e.gr hg' (by omega); clear hg'
   refine tl_nil ?_
   replace hf := hf.kp [4, 5, 6, 11, 33, 34, 35]
   repeat refine seq ?_
   refine regn 10 hf (by decide +kernel) ?_
   refine st (mv rfl) ?_
   refine st (fldA Tryz.underlying56 rfl T3 (by decide) rfl) ?_
   refine st (ld1 T3 rfl B11 rfl) ?_
   refine st (fldA Tryz.underlying56 rfl T3 (by decide) rfl) ?_
   refine st (ld1 T3 rfl B11 rfl) ?_
   refine st (fldA Tryz.underlying56 rfl T5 (by decide) rfl) ?_
   refine st (ld1 T5 rfl B11 rfl) ?_
   refine st (fldA Tryz.underlying56 rfl T3 (by decide) rfl) ?_
   refine st (ld1 T3 rfl B11 rfl) ?_
   refine st (bldD5 (dE x) (bD5 (dE x)) rfl rfl rfl rfl rfl) ?_
   refine en fun a w e' hf => ?_
   replace e := e.tr e'
   replace hg := hg.ext e'
   replace B11 := B11.ext e'
   clear e'
   replace hf := hf.kp [4, 5, 6, 33, 34, 35, 39, 48]
   refine tl_callE (S := fun b => b = bv ∨ b = be) (F := fun z w' => z = I (wrongM g (dE x)) ∧ GrR w' bg bv be (V.length + k + 1) (apP g (dE x))) hf (by decide) En13 ?_ fun a z w hc hF hf => ?_
   ·have h9 := apply_spec g (dE x) bg bv be (V.length + k) _ hg hk' (.inr (.inl rfl)) hok.1 hok.2.1 hok.2.2
    have e20 : a.eval (.tmp 39) = .pointer (some ⟨bg, 0, none⟩) := hf.opd (.tmp 39) _ rfl
    have e27 : a.eval (.tmp 48) = dtV (dE x) := hf.opd (.tmp 48) _ rfl
    simp only [List.map_toArray, List.map_cons, List.map_nil, e20, e27]
    exact h9.mono fun en w' ⟨k1, k2, k3⟩ => ⟨_, k1, k2, rfl, k3⟩
   obtain ⟨rfl, hg⟩ := hF
   replace e := e.ch hc (fun b hb => by rcases hb with rfl | rfl <;> assumption)
   clear hc B11
   replace hf := hf.kp [4, 5, 6, 33, 34, 35, 49]
   refine tl_as hf rfl (by decide) fun a hf => ?_
   refine tl_nil ?_
   repeat refine seq ?_
   refine regn 2 hf (by decide +kernel) ?_
   refine st (mv rfl) ?_
   refine st (neq rfl rfl) ?_
   refine en fun a w e' hf => ?_
   replace e := e.tr e'
   replace hg := hg.ext e'
   refine tl_nil ?_
   have hft := fold_take ((V.map dV).foldl stepB (some ([], []))) hxd
   rw [hfd] at hft
   repeat refine seq ?_
   refine ifc hf rfl (fun hb => ?_) (fun hb => ?_)
   ·have hb' : ¬ wrongM g (dE x) = 0 := by simpa using hb
    have hst : stepB (((E'.map dE).take k).foldl stepB ((V.map dV).foldl stepB (some ([], [])))) (dE x) = none := by rw [hfd, stepB, if_neg hb']
    repeat refine seq ?_
    refine regn 1 hf (by decide +kernel) ?_
    refine st (mv rfl) ?_
    refine en fun a w e' hf => ?_
    replace e := e.tr e'
    replace hg := hg.ext e'
    refine tl_as hf rfl (by decide) fun a hf => ?_
    refine tl_as hf rfl (by decide) fun a hf => ?_
    refine tl_nil ?_
    refine wret ?_
    try simp only [Exit.then, Exit.inBlock]
    refine ret2 rfl hf rfl rfl ?_
    rintro _ _ rfl rfl
    exact ⟨e, .inr ⟨_, hb', by rw [bldM, fold_stop _ hxd hst], rfl⟩⟩
   ·have hb' : wrongM g (dE x) = 0 := by simpa using hb
    refine wskip ?_
    try simp only [Exit.then, Exit.inBlock, ↓reduceIte]
    rw [stepB, if_pos hb'] at hft
    rw [apP, if_pos hb'] at hg
    try simp only [Exit.then, Exit.inBlock, ↓reduceIte]
    repeat refine seq ?_
    refine regn 1 hf (by decide +kernel) ?_
    refine st ((add rfl rfl (by omega)).eq (congrArg (Value.int .i64) (show (k : Int) + 1 = ((k + 1 : Nat) : Int) from rfl))) ?_
    refine en fun a w e' hf => ?_
    replace e := e.tr e'
    replace hg := hg.ext e'
    clear e'
    refine tl_op hf (by decide) (mv rfl) fun a w e' hf => ?_
    replace e := e.tr e'
    replace hg := hg.ext e'
    refine tl_nil ?_
    replace hf := hf.kp [4, 5, 6, 33, 34, 35]
    refine ⟨_, ?_, k + 1, doP g (dE x), rfl, by omega, hf, e, ?_⟩
    ·omega
    exact ⟨hg, hft⟩
  ·obtain rfl : k = E'.length := by have := of_decide_eq_false hc; (try dsimp only at this); omega
   clear hc
   simp only [Exit.then, Exit.inBlock, ↓reduceIte]
   rw [List.take_of_length_le (by simp)] at hfd
   repeat refine seq ?_
   refine regn 1 hf (by decide +kernel) ?_
   refine st (mv rfl) ?_
   refine en fun a w e' hf => ?_
   replace e := e.tr e'
   replace hg := hg.ext e'
   refine tl_as hf rfl (by decide) fun a hf => ?_
   refine tl_as hf rfl (by decide) fun a hf => ?_
   refine tl_nil ?_
   refine wret ?_
   try simp only [Exit.then, Exit.inBlock]
   refine ret2 rfl hf rfl rfl ?_
   rintro _ _ rfl rfl
   exact ⟨e, .inl ⟨g, bg, bv, be, hfd, rfl, hbg, hbv, hbe, hg⟩⟩
end Go.Mono

namespace Go.Mono
open Go Go.Proofs Go.RowKit Go.Gr
theorem insW_len {γ : Type} (p : γ → Bool) (x : γ) (l : List γ) : (insW p x l).length = l.length + 1 := by
 have := congrArg List.length (List.takeWhile_append_dropWhile (p := fun y => !p y) (l := l))
 unfold insW
 simp only [List.length_append, List.length_cons] at *
 omega
theorem doR_len (g : GT) (d : DT) : (doR g d).1.1.length ≤ g.1.length + 1 ∧ (doR g d).1.2.length ≤ g.2.length + 1 := by
 unfold doR
 split
 ·simp
 ·split
  ·simp [insV, insW_len]
  ·split
   ·simp [insE, insW_len]
   ·have h1 := List.length_filterMap_le (keepV d) g.1
    have h2 := edgesK_len d (atE g d) 0 g.2
    simp only [genR]
    omega
theorem Dv.gtOne {G : Nat → Prop} {g : GT} {v : Value} {w : World} (h : (Dv gtE G g).p v w) : ∃ cs, v = .agg cs ∧ cs.size = 2 ∧ cs.all (·.oneCell') = true := by
 obtain ⟨u1, u2, rfl, h1, h2⟩ := Dv.gt.1 h
 exact ⟨_, rfl, rfl, one2 (slOne h1) (slOne h2)⟩
end Go.Mono

namespace Go.Mono
open Go Go.Gr
theorem insW_perm {γ : Type} (p : γ → Bool) (x : γ) (l : List γ) : (insW p x l).Perm (x :: l) := by
 unfold insW
 have h := List.takeWhile_append_dropWhile (p := fun y => !p y) (l := l)
 conv => rhs; rw [← h]
 exact List.perm_middle
theorem insW_sorted {γ κ : Type} {lt : κ → κ → Bool} (key : γ → κ) (tr : ∀ {a b c}, lt a b = true → lt b c = true → lt a c = true) (tot : ∀ {a b}, lt a b = false → a ≠ b → lt b a = true) {x : γ} :
  ∀ {l : List γ}, l.Pairwise (fun a b => lt (key a) (key b) = true) → (∀ y ∈ l, key x ≠ key y) → (insW (fun y => lt (key x) (key y)) x l).Pairwise fun a b => lt (key a) (key b) = true
 | [], _, _ => by simp [insW]
 | y :: r, hl, hx => by
  obtain ⟨l1, l2⟩ := List.pairwise_cons.1 hl
  unfold insW
  by_cases hy : lt (key x) (key y) = true
  ·simp only [List.takeWhile_cons, List.dropWhile_cons, hy, Bool.not_true, Bool.false_eq_true, if_false, List.nil_append]
   refine List.pairwise_cons.2 ⟨fun z hz => ?_, hl⟩
   rcases List.mem_cons.1 hz with rfl | hz
   ·exact hy
   ·exact tr hy (l1 z hz)
  ·have hy' : lt (key x) (key y) = false := by simpa using hy
   have ih := insW_sorted (γ := γ) (κ := κ) (lt := lt) key (@tr) (@tot) (l := r) l2 fun z hz => hx z (by simp [hz])
   have hyx := tot hy' (hx y (by simp))
   simp only [List.takeWhile_cons, List.dropWhile_cons, hy', Bool.not_false, if_true, List.cons_append]
   refine List.pairwise_cons.2 ⟨fun z hz => ?_, ih⟩
   have := (insW_perm (fun y => lt (key x) (key y)) x r).mem_iff.1 hz
   rcases List.mem_cons.1 this with rfl | hz'
   ·exact hyx
   ·exact l1 z hz'
theorem fnd_neg {l : List VT} {n : Int} (h : fndF l n < 0) : ∀ y ∈ l, y.1 ≠ n := by
 unfold fndF at h
 split at h
 ·omega
 ·rename_i hn
  rw [List.findIdx?_eq_none_iff] at hn
  intro y hy
  simpa using hn y hy
theorem fnd_pos {l : List VT} {n : Int} (h : ¬ fndF l n < 0) : inV l n = true := by
 unfold fndF at h
 split at h
 ·rename_i i hi
  obtain ⟨h1, h2, _⟩ := List.findIdx?_eq_some_iff_getElem.1 hi
  exact List.any_eq_true.2 ⟨_, List.getElem_mem h1, h2⟩
 ·omega
theorem edg_neg {l : List ET} {m n : Int} (h : edgF l m n < 0) : ∀ y ∈ l, y.1 ≠ ends m n := by
 unfold edgF at h
 split at h
 ·omega
 ·rename_i hn
  rw [List.findIdx?_eq_none_iff] at hn
  intro y hy he
  have h2 := hn y hy
  obtain ⟨⟨p, q⟩, c⟩ := y
  simp only [ends, Prod.mk.injEq] at he
  simp only [isEd] at h2
  by_cases hmn : m ≤ n
  ·rw [Int.min_eq_left hmn, Int.max_eq_right hmn] at he
   rw [he.1, he.2] at h2; simp at h2
  ·rw [Int.min_eq_right (by omega), Int.max_eq_left (by omega)] at he
   rw [he.1, he.2] at h2; simp at h2
theorem inV_mono {l m : List VT} (h : ∀ y ∈ l, ∃ z ∈ m, z.1 = y.1) {n : Int} (hn : inV l n = true) : inV m n = true := by
 obtain ⟨y, hy, hyn⟩ := List.any_eq_true.1 hn
 obtain ⟨z, hz, hzy⟩ := h y hy
 exact List.any_eq_true.2 ⟨z, hz, by rw [hzy]; exact hyn⟩
theorem keepV_key {d : DT} {x y : VT} (h : keepV d x = some y) : y.1 = x.1 := by
 unfold keepV at h; split at h <;> simp at h; rw [← h]
theorem keepE_key {d : DT} {a : Int} {i : Nat} {x y : ET} (h : keepE d a i x = some y) : y.1 = x.1 := by
 unfold keepE at h; split at h <;> simp at h; rw [← h]
theorem edgesK_mem {d : DT} {a : Int} : ∀ {i : Nat} {l : List ET} {y : ET}, y ∈ edgesK d a i l → ∃ j, ∃ x ∈ l, keepE d a j x = some y
 | _, [], y, h => by simp [edgesK] at h
 | i, x :: r, y, h => by
  rw [edgesK, List.mem_append] at h
  rcases h with h | h
  ·exact ⟨i, x, by simp, by simpa using h⟩
  ·obtain ⟨j, z, hz, hj⟩ := edgesK_mem h
   exact ⟨j, z, by simp [hz], hj⟩
theorem edgesK_sorted {d : DT} {a : Int} : ∀ {i : Nat} {l : List ET}, l.Pairwise (fun p q => lt2 p.1 q.1 = true) → (edgesK d a i l).Pairwise fun p q => lt2 p.1 q.1 = true
 | _, [], _ => by simp [edgesK]
 | i, x :: r, h => by
  obtain ⟨h1, h2⟩ := List.pairwise_cons.1 h
  rw [edgesK, List.pairwise_append]
  refine ⟨by cases keepE d a i x <;> simp, edgesK_sorted h2, fun p hp q hq => ?_⟩
  obtain ⟨j, z, hz, hj⟩ := edgesK_mem hq
  have hp' : keepE d a i x = some p := by simpa using hp
  rw [keepE_key hp', keepE_key hj]; exact h1 z hz
theorem ok_do {g : GT} (G : Gr.Ok g) {d : DT} (hd : 0 ≤ d.2.2.2.1 ∧ d.2.2.2.1 < 256) : Gr.Ok (doR g d).1 := by
 unfold doR
 by_cases hw : (wrongR g d != 0) = true
 ·rw [if_pos hw]; exact G
 rw [if_neg hw]
 have hw0 : wrongR g d = 0 := by simpa using hw
 unfold wrongR at hw0
 split at hw0
 ·cases hw0
 rename_i c1
 split at hw0
 ·cases hw0
 rename_i c2
 split at hw0
 ·cases hw0
 rename_i c3
 simp only [Bool.or_eq_true, Bool.and_eq_true, decide_eq_true_eq, not_or, not_and] at c1 c2 c3
 obtain ⟨⟨c2a, c2b⟩, c2c⟩ := c2
 by_cases h0 : (d.1 == 0) = true
 ·rw [if_pos h0]
  rw [if_pos h0] at hw0
  have hd0 : d.1 = 0 := by simpa using h0
  split at hw0
  ·cases hw0
  rename_i c4
  have hnot := fnd_neg (l := g.1) (n := d.2.1) (by simpa using c4)
  have hp := insW_perm (fun y : VT => lt1 d.2.1 y.1) (d.2.1, d.2.2.2) g.1
  have hhv := c2c (by rw [hd0]; decide)
  refine ⟨insW_sorted (γ := VT) (κ := Int) (lt := lt1) (fun y => y.1) (fun h k => lt1_tr h k) (fun h k => lt1_tot h k) (x := (d.2.1, d.2.2.2)) G.sv fun y hy => (hnot y hy).symm, G.se, fun y hy => ?_, fun y hy => ?_, G.ne⟩
  ·rcases List.mem_cons.1 (hp.mem_iff.1 hy) with rfl | hy
   ·refine ⟨by simp [idOk]; omega, hd, by simp only [heavy, Bool.or_eq_false_iff, decide_eq_false_iff_not]; omega⟩
   ·exact G.rv y hy
  ·obtain ⟨k1, k2, k3, k4⟩ := G.re y hy
   have hm : ∀ z ∈ g.1, ∃ z' ∈ insV g.1 (d.2.1, d.2.2.2), z'.1 = z.1 := fun z hz => ⟨z, hp.mem_iff.2 (by simp [hz]), rfl⟩
   exact ⟨k1, inV_mono hm k2, inV_mono hm k3, k4⟩
 rw [if_neg h0]
 rw [if_neg h0] at hw0
 split at hw0
 ·cases hw0
 rename_i c5
 simp only [Bool.or_eq_true, Bool.and_eq_true, decide_eq_true_eq, not_or, not_and] at c5
 by_cases h2 : (d.1 == 2) = true
 ·rw [if_pos h2]
  rw [if_pos h2] at hw0
  have hd2 : d.1 = 2 := by simpa using h2
  split at hw0
  ·cases hw0
  rename_i c6
  split at hw0
  ·cases hw0
  rename_i c7
  have hnot := edg_neg (l := g.2) (m := d.2.1) (n := d.2.2.1) (by simpa using c6)
  have hp := insW_perm (fun y : ET => lt2 (ends d.2.1 d.2.2.1) y.1) (ends d.2.1 d.2.2.1, d.2.2.2) g.2
  have hhv := c2c (by rw [hd2]; decide)
  have hne := c3 (by rw [hd2]; decide)
  have hvv := fnd_pos (c5.2 h2)
  have huv := fnd_pos c5.1
  simp only [beq_iff_eq] at hne
  refine ⟨G.sv, insW_sorted (γ := ET) (κ := Int × Int) (lt := lt2) (fun y => y.1) (fun h k => lt2_tr h k) (fun h k => lt2_tot h k) (x := (ends d.2.1 d.2.2.1, d.2.2.2)) G.se fun y hy => (hnot y hy).symm, G.rv, fun y hy => ?_, ?_⟩
  ·rcases List.mem_cons.1 (hp.mem_iff.1 hy) with rfl | hy
   ·refine ⟨by simp only [ends]; omega, ?_, ?_, hd, by simp only [heavy, Bool.or_eq_false_iff, decide_eq_false_iff_not]; omega⟩
    ·simp only [ends]; by_cases hm : d.2.1 ≤ d.2.2.1
     ·rw [Int.min_eq_left hm]; exact huv
     ·rw [Int.min_eq_right (by omega)]; exact hvv
    ·simp only [ends]; by_cases hm : d.2.1 ≤ d.2.2.1
     ·rw [Int.max_eq_right hm]; exact hvv
     ·rw [Int.max_eq_left (by omega)]; exact huv
   ·exact G.re y hy
  ·simp only [insE, insW_len]
   have : ¬ ((1024 : Int) ≤ (g.2.length : Nat)) := by simpa using c7
   omega
 rw [if_neg h2]
 have hkeep : ∀ y ∈ g.1, d.1 ≠ 1 ∨ y.1 ≠ d.2.1 → ∃ z ∈ g.1.filterMap (keepV d), z.1 = y.1 := fun y hy hc => by
  have hn : ¬ (y.1 == d.2.1 && d.1 == 1) = true := by simp only [Bool.and_eq_true, beq_iff_eq]; omega
  have hk : ∃ z, keepV d y = some z ∧ z.1 = y.1 := ⟨_, if_neg hn, rfl⟩
  obtain ⟨z, hz, hzy⟩ := hk
  exact ⟨z, List.mem_filterMap.2 ⟨y, hy, hz⟩, hzy⟩
 refine ⟨?_, edgesK_sorted G.se, fun y hy => ?_, fun y hy => ?_, Nat.le_trans (edgesK_len _ _ _ _) G.ne⟩
 ·simp only [genR]
  rw [List.pairwise_filterMap]
  exact G.sv.imp fun {a b} h p hp q hq => by rw [keepV_key hp, keepV_key hq]; exact h
 ·obtain ⟨x, hx, hxy⟩ := List.mem_filterMap.1 hy
  obtain ⟨k1, k2, k3⟩ := G.rv x hx
  unfold keepV at hxy
  split at hxy
  ·cases hxy
  ·simp only [Option.some.injEq] at hxy
   rw [← hxy]
   refine ⟨k1, ?_, ?_⟩
   ·simp only; split
    ·exact hd
    ·exact k2
   ·simp only; split
    ·rename_i h5
     have h5' : d.1 = 5 := by simp only [Bool.and_eq_true, beq_iff_eq] at h5; exact h5.2
     have hhv := c2c (by rw [h5']; decide)
     simp only [heavy, Bool.or_eq_false_iff, decide_eq_false_iff_not]; omega
    ·exact k3
 ·obtain ⟨j, x, hx, hxy⟩ := edgesK_mem hy
  obtain ⟨k1, k2, k3, k4, k5⟩ := G.re x hx
  unfold keepE at hxy
  split at hxy
  ·cases hxy
  ·rename_i hno
   simp only [Option.some.injEq] at hxy
   have hno' : d.1 ≠ 1 ∨ (x.1.1 ≠ d.2.1 ∧ x.1.2 ≠ d.2.1) := by
    simp only [Bool.or_eq_true, Bool.and_eq_true, beq_iff_eq, not_or, not_and] at hno
    by_cases h1 : d.1 = 1
    ·exact .inr ⟨fun h => (hno.1 h1).1 h, fun h => (hno.1 h1).2 h⟩
    ·exact .inl h1
   have stay : ∀ n, inV g.1 n = true → (d.1 ≠ 1 ∨ n ≠ d.2.1) → inV (genR g d).1 n = true := fun n hn hc => by
    obtain ⟨y, hy, hyn⟩ := List.any_eq_true.1 hn
    have hyn' : y.1 = n := by simpa using hyn
    obtain ⟨z, hz, hzy⟩ := hkeep y hy (by rw [hyn']; exact hc)
    exact List.any_eq_true.2 ⟨z, hz, by rw [hzy]; exact hyn⟩
   rw [← hxy]
   refine ⟨k1, stay _ k2 (hno'.imp id (·.1)), stay _ k3 (hno'.imp id (·.2)), ?_, ?_⟩
   ·simp only; split
    ·exact hd
    ·exact k4
   ·simp only; split
    ·rename_i h7
     have h7' : d.1 = 7 := by simp only [Bool.and_eq_true, beq_iff_eq] at h7; exact h7.2
     have hhv := c2c (by rw [h7']; decide)
     simp only [heavy, Bool.or_eq_false_iff, decide_eq_false_iff_not]; omega
    ·exact k5
end Go.Mono

namespace Go.Mono
open Go Go.Gr
theorem wf64 {n : Int} (h1 : -9223372036854775808 ≤ n) (h2 : n ≤ 9223372036854775807) : (Lit.int .i64 n).wf = true := by
 have h3 : IntKind.i64.min = -9223372036854775808 := by decide
 have h4 : IntKind.i64.max = 9223372036854775807 := by decide
 simp only [Lit.wf, h3, h4, Bool.and_eq_true, decide_eq_true_eq]
 omega
theorem wf8 {n : Int} (h1 : 0 ≤ n) (h2 : n < 256) : (Lit.int .u8 n).wf = true := by
 have h3 : IntKind.u8.min = 0 := by decide
 have h4 : IntKind.u8.max = 255 := by decide
 simp only [Lit.wf, h3, h4, Bool.and_eq_true, decide_eq_true_eq]
 omega
theorem idOk_r {n : Int} (h : idOk n = true) : 0 ≤ n ∧ n < 1024 := by simpa [idOk] using h
theorem inV_r {g : GT} (G : Gr.Ok g) {n : Int} (h : inV g.1 n = true) : 0 ≤ n ∧ n < 1024 := by
 obtain ⟨y, hy, hyn⟩ := List.any_eq_true.1 h
 have := idOk_r (G.rv y hy).1
 have hyn' : y.1 = n := by simpa using hyn
 rwa [hyn'] at this
theorem heavy_r {n : Int} (h : Gr.heavy n = false) : -1048576 ≤ n ∧ n ≤ 1048576 := by
 simp only [heavy, Bool.or_eq_false_iff, decide_eq_false_iff_not] at h; omega
theorem okD_V {g : GT} (G : Gr.Ok g) : ∀ x ∈ g.1, okD (dV x) := fun x hx => by
 obtain ⟨h1, h2, h3⟩ := G.rv x hx
 have := idOk_r h1; have := heavy_r h3
 exact ⟨wf64 (by simp only [dV]; omega) (by simp only [dV]; omega), wf64 (by simp only [dV]; omega) (by simp only [dV]; omega), wf8 h2.1 h2.2, wf64 (by simp only [dV]; omega) (by simp only [dV]; omega)⟩
theorem okD_E {g : GT} (G : Gr.Ok g) : ∀ x ∈ g.2, okD (dE x) := fun x hx => by
 obtain ⟨h1, h2, h3, h4, h5⟩ := G.re x hx
 have := inV_r G h2; have := inV_r G h3; have := heavy_r h5
 exact ⟨wf64 (by simp only [dE]; omega) (by simp only [dE]; omega), wf64 (by simp only [dE]; omega) (by simp only [dE]; omega), wf8 h4.1 h4.2, wf64 (by simp only [dE]; omega) (by simp only [dE]; omega)⟩
theorem wrongM_perm {g h : GT} (h1 : g.1.Perm h.1) (h2 : g.2.Perm h.2) (d : DT) : wrongM g d = wrongM h d := by
 unfold wrongM tests
 have e1 : ∀ n, inV g.1 n = inV h.1 n := fun n => h1.any_eq
 have e2 : ∀ m n, inE g.2 m n = inE h.2 m n := fun m n => h2.any_eq
 simp only [e1, e2, h2.length_eq]
theorem putP_last {α β : Type} [DecidableEq α] {l m : List (α × β)} {k : α} {c : β} (h : l.Perm m) (hk : ∀ y ∈ m, y.1 ≠ k) : (putP l k c).Perm (m ++ [(k, c)]) := by
 unfold putP
 have : l.filter (fun p => !decide (p.1 = k)) = l := List.filter_eq_self.2 fun p hp => by simpa using hk p (h.mem_iff.1 hp)
 rw [this]
 exact (h.cons _).trans (List.perm_append_singleton _ _).symm
theorem fold_V {g : GT} (G : Gr.Ok g) : ∀ i, i ≤ g.1.length → ∃ h : GT, ((g.1.map dV).take i).foldl stepB (some ([], [])) = some h ∧ h.1.Perm (g.1.take i) ∧ h.2 = []
 | 0, _ => ⟨([], []), by simp, by simp, rfl⟩
 | i + 1, hi => by
  obtain ⟨h, k1, k2, k3⟩ := fold_V G i (by omega)
  have hx := List.getElem?_eq_getElem (show i < g.1.length by omega)
  generalize g.1[i] = x at hx
  have hxd : (g.1.map dV)[i]? = some (dV x) := by rw [List.getElem?_map, hx]; rfl
  have hw := (stepV G hx).1
  have hb := before G.sv hx
  have hpw : wrongM h (dV x) = 0 := by rw [wrongM_perm (h := (g.1.take i, [])) k2 (by rw [k3])]; exact hw
  refine ⟨doP h (dV x), by rw [fold_take _ hxd, k1, stepB, if_pos hpw], ?_, ?_⟩
  ·rw [take_succ' hx]
   show (putP h.1 x.1 x.2).Perm _
   exact putP_last k2 fun y hy => (lt1_asy (hb y hy)).2
  ·exact k3
theorem fold_E {g : GT} (G : Gr.Ok g) {h0 : GT} (p1 : h0.1.Perm g.1) (p2 : h0.2 = []) : ∀ i, i ≤ g.2.length → ∃ h : GT, ((g.2.map dE).take i).foldl stepB (some h0) = some h ∧ h.1.Perm g.1 ∧ h.2.Perm (g.2.take i)
 | 0, _ => ⟨h0, by simp, p1, by rw [p2]; simp⟩
 | i + 1, hi => by
  obtain ⟨h, k1, k2, k3⟩ := fold_E G p1 p2 i (by omega)
  have hx := List.getElem?_eq_getElem (show i < g.2.length by omega)
  generalize g.2[i] = x at hx
  have hxd : (g.2.map dE)[i]? = some (dE x) := by rw [List.getElem?_map, hx]; rfl
  have hw := (stepE G hx).1
  have hb := before G.se hx
  have hpw : wrongM h (dE x) = 0 := by rw [wrongM_perm (h := (g.1, g.2.take i)) k2 k3]; exact hw
  have he : ends x.1.1 x.1.2 = x.1 := ends_lt (G.re x (List.mem_of_getElem? hx)).1
  refine ⟨doP h (dE x), by rw [fold_take _ hxd, k1, stepB, if_pos hpw], k2, ?_⟩
  rw [take_succ' hx]
  show (putP h.2 (ends x.1.1 x.1.2) x.2).Perm _
  rw [he]
  exact putP_last k3 fun y hy => (lt2_asy (hb y hy)).2
theorem bld_ok {g : GT} (G : Gr.Ok g) : ∃ g', bldM g.1 g.2 = some g' ∧ g'.1.Perm g.1 ∧ g'.2.Perm g.2 := by
 obtain ⟨h, k1, k2, k3⟩ := fold_V G g.1.length (Nat.le_refl _)
 rw [List.take_of_length_le (by simp)] at k1
 rw [List.take_length] at k2
 obtain ⟨h', l1, l2, l3⟩ := fold_E G k2 k3 g.2.length (Nat.le_refl _)
 rw [List.take_of_length_le (by simp)] at l1
 rw [List.take_length] at l3
 exact ⟨h', by rw [bldM, k1, l1], l2, l3⟩
end Go.Mono
