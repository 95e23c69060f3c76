/-
  Walks and plain facts, in this order: MonoH, LawBL, Bal7, Bal8, Bal9, R45, R45b, Plain2, BalV, Gra, Grb, Grc, Grd, MonoM, MonoK, Grf, Grg, MonoJ, Grh, Gri.
  No condition.
-/
import Derived.Test.YtdkfcgjjjlifaaaGreatDoorVD
import Derived.Test.YtdkfcgjjjlifaaaGreatDoorVB
import Derived.Test.YtdkfcgjjjlifaaaGreatDoorVA
import Derived.Test.YtdkfcgjjjlifaaaGreatDoorVC
import Derived.Maps.Range
import Derived.DeepKeys4
set_option linter.unusedVariables false
set_option linter.unusedSimpArgs false
namespace Go.Mono
open Go Go.RowKit Go.Gr
def u8E : Enc Int := flat 1 false (fun n => [.int .u8 n]) (by decide) (fun _ => rfl) (fun _ => rfl) (fun x u hu => by simp at hu; subst hu; rfl)
instance : FlE u8E := ⟨fun h => h⟩
def thE : Enc (Int × Int) := prE u8E intE
def vtE : Enc VT := prE intE thE
def edE : Enc (Int × Int) := prE intE intE
def etE : Enc ET := prE edE thE
def dtE : Enc DT := prE intE (prE intE (prE intE thE))
def gtE : Enc GT := prE (slE vtE) (slE etE)
instance : FlE thE := inferInstanceAs (FlE (prE u8E intE))
instance : FlE vtE := inferInstanceAs (FlE (prE intE thE))
instance : FlE edE := inferInstanceAs (FlE (prE intE intE))
instance : FlE etE := inferInstanceAs (FlE (prE edE thE))
instance : FlE dtE := inferInstanceAs (FlE (prE intE (prE intE (prE intE thE))))
def vtV (x : VT) : Value := .agg #[.int .i64 x.1, .int .u8 x.2.1, .int .i64 x.2.2]
def etV (x : ET) : Value := .agg #[.int .i64 x.1.1, .int .i64 x.1.2, .int .u8 x.2.1, .int .i64 x.2.2]
def dtV (x : DT) : Value := .agg #[.int .i64 x.1, .int .i64 x.2.1, .int .i64 x.2.2.1, .int .u8 x.2.2.2.1, .int .i64 x.2.2.2.2]
section
variable {G : Nat → Prop} {v : Value} {w : World}
theorem Dv.u8 {n : Int} : (Dv u8E G n).p v w ↔ v = .int .u8 n := ⟨fun ⟨cs, h, hv⟩ => by cases h; exact hv, fun h => ⟨_, rfl, h⟩⟩
theorem Dv.vt {x : VT} : (Dv vtE G x).p v w ↔ v = vtV x :=
  ⟨fun ⟨cs, ⟨c, d, h, h1, c2, d2, h2, h3, h4⟩, hv⟩ => by cases h1; cases h3; cases h4; subst h2; subst h; exact hv, fun h => ⟨_, ⟨_, _, rfl, rfl, _, _, rfl, rfl, rfl⟩, h⟩⟩
theorem Dv.et {x : ET} : (Dv etE G x).p v w ↔ v = etV x :=
  ⟨fun ⟨cs, ⟨c, d, h, ⟨c1, d1, h1, h1a, h1b⟩, c2, d2, h2, h3, h4⟩, hv⟩ => by cases h1a; cases h1b; cases h3; cases h4; subst h1; subst h2; subst h; exact hv, fun h => ⟨_, ⟨_, _, rfl, ⟨_, _, rfl, rfl, rfl⟩, _, _, rfl, rfl, rfl⟩, h⟩⟩
theorem Dv.dt {x : DT} : (Dv dtE G x).p v w ↔ v = dtV x :=
  ⟨fun ⟨cs, ⟨c, d, h, h1, c2, d2, h2, h3, c3, d3, h4, h5, c4, d4, h6, h7, h8⟩, hv⟩ => by cases h1; cases h3; cases h5; cases h7; cases h8; subst h6; subst h4; subst h2; subst h; exact hv, fun h => ⟨_, ⟨_, _, rfl, rfl, _, _, rfl, rfl, _, _, rfl, rfl, _, _, rfl, rfl, rfl⟩, h⟩⟩
/-- a reference graph: two slices -/
theorem Dv.gt {g : GT} : (Dv gtE G g).p v w ↔ ∃ u1 u2, v = .agg #[u1, u2] ∧ (Dv (slE vtE) G g.1).p u1 w ∧ (Dv (slE etE) G g.2).p u2 w := by
  constructor
  · rintro ⟨cs, ⟨c, d, h, h1, h2⟩, hv⟩
    have l1 := (slE vtE).len h1
    have l2 := (slE etE).len h2
    match c, l1, d, l2 with
    | [u1], _, [u2], _ => exact ⟨u1, u2, by subst h; exact hv, ⟨_, h1, rfl⟩, ⟨_, h2, rfl⟩⟩
  · rintro ⟨u1, u2, rfl, h1, h2⟩
    exact ⟨[u1, u2], ⟨[u1], [u2], rfl, Dv.r1 rfl h1, Dv.r1 rfl h2⟩, rfl⟩
end
section
variable {P : Program} {w0 : World} {L : Env} {dst : Option Tmp} {ty : TypeId} {pos : String} {aft : Array Edge} {g : Option (Nat × Bool)} {t : TypeId} {G : Nat → Prop} {x : Operand}
theorem ldVt {n : VT} (ht : TI P t true 3) (hx : Is L w0 x (Dv (ptE vtE) G (some n))) : OpC P w0 L ⟨dst, .load t x, ty, pos, aft, g⟩ (E (vtV n)) := (ldD (e := vtE) ht hx).conv fun v w => Dv.vt.1
theorem ldEt {n : ET} (ht : TI P t true 4) (hx : Is L w0 x (Dv (ptE etE) G (some n))) : OpC P w0 L ⟨dst, .load t x, ty, pos, aft, g⟩ (E (etV n)) := (ldD (e := etE) ht hx).conv fun v w => Dv.et.1
theorem ldDt {n : DT} (ht : TI P t true 5) (hx : Is L w0 x (Dv (ptE dtE) G (some n))) : OpC P w0 L ⟨dst, .load t x, ty, pos, aft, g⟩ (E (dtV n)) := (ldD (e := dtE) ht hx).conv fun v w => Dv.dt.1
theorem isVt {n : VT} (h : opd L x = some (E (vtV n))) : Is L w0 x (Dv vtE G n) := isE h (Dv.vt.2 rfl)
theorem isEt {n : ET} (h : opd L x = some (E (etV n))) : Is L w0 x (Dv etE G n) := isE h (Dv.et.2 rfl)
/-- a struct of known values -/
theorem bldV {fs : Array (Nat × Operand)} (vs : List (Nat × Value)) {cs : Array Value} (hv : fs.toList.map (fun p => (p.1, opd L p.2)) = vs.map (fun p => (p.1, some (E p.2)))) (hb : P.built t vs = some cs) :
    OpC P w0 L ⟨dst, .build t fs, ty, pos, aft, g⟩ (E (.agg cs)) :=
  opc_pure fun ρ w _ h => by
    have key : ∀ (l : List (Nat × Operand)) (us : List (Nat × Value)), (∀ p ∈ l, p ∈ fs) → l.map (fun p => (p.1, opd L p.2)) = us.map (fun p => (p.1, some (E p.2))) → l.map (fun p => (p.1, ρ p.2)) = us := by
      intro l
      induction l with
      | nil => intro us _ hu; cases us with
        | nil => rfl
        | cons _ _ => simp at hu
      | cons p r ih =>
        intro us hm hu
        cases us with
        | nil => simp at hu
        | cons q us =>
          simp only [List.map_cons, List.cons.injEq, Prod.mk.injEq] at hu
          obtain ⟨⟨h1, h2⟩, h3⟩ := hu
          have hp : p.2 ∈ (Op.build t fs).operands := by simp only [Op.operands, List.mem_toArray, List.mem_map]; exact ⟨p, by simpa using hm p (by simp), rfl⟩
          have h4 : ρ p.2 = q.2 := h p.2 hp _ h2
          rw [List.map_cons, ih us (fun z hz => hm z (by simp [hz])) h3, h1, h4]
    have hk : (fs.map fun p => (p.1, ρ p.2)).toList = vs := by rw [Array.toList_map]; exact key fs.toList vs (fun p hp => by simpa using hp) hv
    exact ⟨_, by simp only [execOp, Sem.run_bind, run_build w t _ cs (by rw [hk]; exact hb), Result.andThen_ok, Sem.run_pure], rfl⟩
variable {i0 i1 i2 i3 i4 : Operand}
theorem bldVt (x : VT) (hb : P.built t [(0, .int .i64 x.1), (1, .int .u8 x.2.1), (2, .int .i64 x.2.2)] = some #[.int .i64 x.1, .int .u8 x.2.1, .int .i64 x.2.2]) (h0 : opd L i0 = some (E (.int .i64 x.1))) (h1 : opd L i1 = some (E (.int .u8 x.2.1))) (h2 : opd L i2 = some (E (.int .i64 x.2.2))) :
    OpC P w0 L ⟨dst, .build t #[(0, i0), (1, i1), (2, i2)], ty, pos, aft, g⟩ (E (vtV x)) := bldV _ (by simp only [List.map_cons, List.map_nil, h0, h1, h2]) hb
theorem bldEt (x : ET) (hb : P.built t [(0, .int .i64 x.1.1), (1, .int .i64 x.1.2), (2, .int .u8 x.2.1), (3, .int .i64 x.2.2)] = some #[.int .i64 x.1.1, .int .i64 x.1.2, .int .u8 x.2.1, .int .i64 x.2.2]) (h0 : opd L i0 = some (E (.int .i64 x.1.1))) (h1 : opd L i1 = some (E (.int .i64 x.1.2))) (h2 : opd L i2 = some (E (.int .u8 x.2.1))) (h3 : opd L i3 = some (E (.int .i64 x.2.2))) :
    OpC P w0 L ⟨dst, .build t #[(0, i0), (1, i1), (2, i2), (3, i3)], ty, pos, aft, g⟩ (E (etV x)) := bldV _ (by simp only [List.map_cons, List.map_nil, h0, h1, h2, h3]) hb
/-- an edit of a vertex: the second number is left out -/
theorem bldD4 (x : DT) (hx : x.2.2.1 = 0) (hb : P.built t [(0, .int .i64 x.1), (1, .int .i64 x.2.1), (3, .int .u8 x.2.2.2.1), (4, .int .i64 x.2.2.2.2)] = some #[.int .i64 x.1, .int .i64 x.2.1, .int .i64 0, .int .u8 x.2.2.2.1, .int .i64 x.2.2.2.2]) (h0 : opd L i0 = some (E (.int .i64 x.1))) (h1 : opd L i1 = some (E (.int .i64 x.2.1))) (h2 : opd L i2 = some (E (.int .u8 x.2.2.2.1))) (h3 : opd L i3 = some (E (.int .i64 x.2.2.2.2))) :
    OpC P w0 L ⟨dst, .build t #[(0, i0), (1, i1), (3, i2), (4, i3)], ty, pos, aft, g⟩ (E (dtV x)) := by
  have : dtV x = .agg #[.int .i64 x.1, .int .i64 x.2.1, .int .i64 0, .int .u8 x.2.2.2.1, .int .i64 x.2.2.2.2] := by rw [dtV, hx]
  rw [this]
  exact bldV _ (by simp only [List.map_cons, List.map_nil, h0, h1, h2, h3]) hb
theorem bldD5 (x : DT) (hb : P.built t [(0, .int .i64 x.1), (1, .int .i64 x.2.1), (2, .int .i64 x.2.2.1), (3, .int .u8 x.2.2.2.1), (4, .int .i64 x.2.2.2.2)] = some #[.int .i64 x.1, .int .i64 x.2.1, .int .i64 x.2.2.1, .int .u8 x.2.2.2.1, .int .i64 x.2.2.2.2]) (h0 : opd L i0 = some (E (.int .i64 x.1))) (h1 : opd L i1 = some (E (.int .i64 x.2.1))) (h2 : opd L i2 = some (E (.int .i64 x.2.2.1))) (h3 : opd L i3 = some (E (.int .u8 x.2.2.2.1))) (h4 : opd L i4 = some (E (.int .i64 x.2.2.2.2))) :
    OpC P w0 L ⟨dst, .build t #[(0, i0), (1, i1), (2, i2), (3, i3), (4, i4)], ty, pos, aft, g⟩ (E (dtV x)) := bldV _ (by simp only [List.map_cons, List.map_nil, h0, h1, h2, h3, h4]) hb
end
theorem OwR.neLt {α : Type} {e : Enc α} {ty : TypeId} {B : Nat} {G : Nat → Prop} {w : World} {xs : List α} {v : Value} (h : OwR e ty B G w xs v) {b : Nat} (hb : b < B) : v.ownBlock ≠ some b := fun hv => by
  have := (h.lt hv).1; omega
/-- a slot's value gets a name -/
theorem FrD.opn {n : Nat} {ds : List Deferred} {a : Act} {w : World} {L : Env} {A : VA} (h : FrD n ds a w L) (k : Nat) (hk : look L k = some A) : ∃ v, A.p v w ∧ FrD n ds a w ((k, E v) :: L) :=
  ⟨a.eval (.tmp k), h.val k A hk, ⟨h.size, h.defers, fun t B ht => by
    by_cases hkt : k = t
    · subst hkt; rw [look_cons_same] at ht; obtain rfl := Option.some.inj ht; rfl
    · rw [look_cons_ne _ _ hkt] at ht; exact h.val t B ht⟩⟩
theorem Dv.grN {α : Type} {e : Enc α} {G : Nat → Prop} {x : α} {v : Value} {w w' : World} {row : Option Nat} (h : (Dv e G x).p v w) (hg : w.grownBy w' row) (hG : ∀ b, row = some b → G b) : (Dv e G x).p v w' := by
  obtain ⟨cs, h1, h2⟩ := h
  exact ⟨cs, Enc.gro h1 hg hG, h2⟩
theorem OwR.low {α : Type} {e : Enc α} {ty : TypeId} {B B' : Nat} {G : Nat → Prop} {w : World} {xs : List α} {v : Value} (h : OwR e ty B G w xs v) (hB : B' ≤ B) (hG : ∀ b, G b → b < B') : OwR e ty B' G w xs v := by
  obtain ⟨⟨cs, ⟨h1, h2⟩, h3⟩, h4, h5⟩ := h
  refine ⟨⟨cs, ⟨h1, ?_⟩, h3⟩, hG, Nat.le_trans hB h5⟩
  rcases h2 with h2 | ⟨g, cap, cur, k1, k2, k3⟩
  · exact .inl h2
  · exact .inr ⟨g, cap, cur, k1, Nat.le_trans hB k2, k3⟩
end Go.Mono

namespace Go.Mono
open Go Go.Proofs Go.RowKit

theorem cut_spec {G : Nat → Prop} (t : List (Int × BS)) (v : Value) (W : World) (h : (Dv treeE G t).p v W) : Calls Tryz.prog 22 #[v] W (Post (Dv treeE G (t.take 40)) W) := by
  refine enter (args := [v]) (As := [Dv treeE G t]) Tryz.func22 rfl Tryz.ntmps22 (Nat.le_of_ble_eq_true rfl) ?_ (fun a hf => ?_) (Nat.le_of_ble_eq_true rfl)
  rotate_left
  dsimp only [params, Nat.reduceAdd] at hf
  rotate_right
  · exact arg1 h
  have e := Ext.rfl' W
  have hm : min ((t.length : Nat) : Int) 40 = ((min t.length 40 : Nat) : Int) := by omega
  have ht : t.take (min t.length 40) = t.take 40 := by
    rcases Nat.le_total t.length 40 with h | h
    · rw [Nat.min_eq_left h, List.take_length, List.take_of_length_le h]
    · rw [Nat.min_eq_right h]
  repeat refine seq ?_
  refine regn0 ?_
  refine tl_as hf rfl (by decide) fun a hf => ?_
  refine tl_nil ?_
  repeat refine seq ?_
  refine regn 5 hf (by decide +kernel) ?_
  refine st (mv rfl) ?_
  refine st (mv rfl) ?_
  refine st (lenD Tryz.underlying23 (isR rfl)) ?_
  refine st ((min2 rfl rfl).eq (congrArg (Value.int .i64) hm)) ?_
  refine st ((slcD (i := min t.length 40) Tryz.underlying23 S70 (isR rfl) rfl (Nat.min_le_left _ _)).dv (ht)) ?_
  refine en fun a w e' hf => ?_
  replace e := Ext.tr e e'
  clear e'
  refine tl_as hf rfl (by decide) fun a hf => ?_
  refine tl_nil ?_
  refine wret ?_
  try simp only [Exit.then, Exit.inBlock]
  refine ret1 rfl hf rfl ?_
  intro v hv
  exact ⟨_, rfl, e, hv⟩

end Go.Mono

namespace Go.Mono

section
variable {fs : List BS} {T : Tr}
end
end Go.Mono

namespace Go.Mono

theorem countP_min (n : Nat) : ∀ m, (List.range m).countP (fun i => decide (i < n)) = min m n
  | 0 => by simp
  | m + 1 => by
    rw [List.range_succ, List.countP_append, countP_min n m]
    by_cases h : m < n
    · simp [h]; omega
    · simp [h]; omega
theorem card_below (n : Nat) (hn : n ≤ 1024) : card (belowB n) = n := by
  have : card (belowB n) = (List.range 1024).countP (fun i => decide (i < n)) := List.countP_congr fun i _ => by
    rw [below_bit' n i hn, decide_eq_true_eq]
  rw [this, countP_min]; omega

section
variable {t : List (Int × BS)} {T : Tr}
theorem parts0_ok (F : Fo (adjL t) T) (h0 : 0 < t.length) : (parts0 t).length = t.length ∧ (parts0 t)[0]? = some (-1, belowB t.length) ∧ ∀ i x, (parts0 t)[i]? = some x → BNd (adjL t) T (parts0 t) i x.1 x.2 ∧ (0 < i → Ab (adjL t) (parts0 t) i x.1 x.2) := by
  obtain ⟨hp, hc⟩ := Pt.all F h0
  have hle := F.le
  have hn : T.n = t.length := by rw [← F.len, adjL_len]
  obtain ⟨seg, h1, h2, h3, h4⟩ := balL_ok F t.length (belowB t.length) (-1) [] hp hc
  have e : parts0 t = seg := by rw [parts0, h1]; rfl
  rw [e]
  refine ⟨by rw [h2, card_below _ (by omega)], h3, fun i x hx => ?_⟩
  have := h4 i x hx
  simpa using this
/-- the new bag and the one above of node i -/
theorem bal_bg {i : Nat} {x : Int × BS} (h : (parts0 t)[i]? = some x) : bg ((parts0 t).map (bagOf (adjL t) t)) i = bagOf (adjL t) t x := by
  rw [bg, List.getElem?_map, h]; rfl
theorem bal_get {i : Nat} (F : Fo (adjL t) T) (h0 : 0 < t.length) (h : i < t.length) : ∃ x, (parts0 t)[i]? = some x := by
  rw [← (parts0_ok F h0).1] at h
  exact ⟨_, List.getElem?_eq_getElem h⟩
theorem bagOf_fst (fs : List BS) (t : List (Int × BS)) (x : Int × BS) : (bagOf fs t x).1 = x.1 := by simp only [bagOf]
theorem bagOf_snd (fs : List BS) (t : List (Int × BS)) (x : Int × BS) : (bagOf fs t x).2 = hasTo t (splitter fs x.2) (elems (outM fs x.2)) := by simp only [bagOf, hasB]
theorem balT_len (F : Fo (adjL t) T) (h : chkR (toT t) = 0) : (balT t).length = t.length := by
  obtain ⟨h0, _⟩ := chkR_ok.1 h
  rw [toT_len] at h0
  rw [balT, if_pos h, List.length_map, (parts0_ok F h0).1]
/-! ### each bag is a splitter -/
theorem reach (F : Fo (adjL t) T) (h0 : 0 < t.length) : ∀ (m i : Nat) (x : Int × BS), (parts0 t)[i]? = some x → card x.2 ≤ m → ∀ y, x.2.getLsbD y = true → ∃ (k : Nat) (z : Int × BS), (parts0 t)[k]? = some z ∧ splitter (adjL t) z.2 = y := by
  obtain ⟨hl, hz, hn⟩ := parts0_ok F h0
  intro m
  induction m with
  | zero => intro i x hx hc y hy; have := card_pos hy; omega
  | succ m ih =>
    intro i x hx hc y hy
    have hp := (hn i x hx).1.pt
    by_cases hys : splitter (adjL t) x.2 = y
    · exact ⟨i, x, hx, hys⟩
    · have hle := F.le
      have hsn := hp.inn _ (hp.spl F).mem
      have hyd : (del x.2 (splitter (adjL t) x.2 : Int)).getLsbD y = true := (bit_del x.2 (by omega)).2 ⟨hy, fun e => hys e.symm⟩
      have hCm := (parts_some F (del_in (part := x.2) hp.inn (splitter (adjL t) x.2 : Int))).2.2.2 y hyd
      have hself := comp_self F (del_in (part := x.2) hp.inn (splitter (adjL t) x.2 : Int)) hyd
      obtain ⟨k, _, hk⟩ := (hn i x hx).1.kid _ hCm
      have := (hp.step F hCm).2
      exact ih k _ hk (by simp only; omega) y hself
theorem reach0 (F : Fo (adjL t) T) (h0 : 0 < t.length) {y : Nat} (hy : y < t.length) : ∃ (k : Nat) (z : Int × BS), (parts0 t)[k]? = some z ∧ splitter (adjL t) z.2 = y := by
  obtain ⟨hl, hz, hn⟩ := parts0_ok F h0
  have hle := F.le
  have hTn : T.n = t.length := by rw [← F.len, adjL_len]
  exact reach F h0 _ 0 _ hz (Nat.le_refl _) y ((below_bit' _ y (by omega)).2 hy)
end
end Go.Mono

namespace Go.Mono

inductive Und (o : List (Int × BS)) : Nat → Nat → Prop
  | refl (k : Nat) : Und o k k
  | step {k p i : Nat} (h : (bg o k).1 = (p : Int)) (hu : Und o p i) : Und o k i
theorem Und.trans {o : List (Int × BS)} {k j i : Nat} (h : Und o k j) (h' : Und o j i) : Und o k i := by
  induction h with
  | refl => exact h'
  | step h _ ih => exact .step h (ih h')
/-- the one above has a smaller number -/
def Dec (o : List (Int × BS)) : Prop := ∀ j, j < o.length → -1 ≤ (bg o j).1 ∧ (bg o j).1 < (j : Int)
section
variable {t : List (Int × BS)} {T : Tr}
theorem bal_dec (F : Fo (adjL t) T) (h : chkR (toT t) = 0) : Dec (balT t) := by
  obtain ⟨h0, _⟩ := chkR_ok.1 h
  rw [toT_len] at h0
  obtain ⟨hl, hz, hn⟩ := parts0_ok F h0
  have e : balT t = (parts0 t).map (bagOf (adjL t) t) := by rw [balT, if_pos h]
  intro j hj
  rw [balT_len F h] at hj
  obtain ⟨x, hx⟩ := bal_get F h0 hj
  rw [e, bal_bg hx, bagOf_fst]
  by_cases hj0 : 0 < j
  · obtain ⟨p, u, Q, e1, e2, _⟩ := (hn j x hx).2 hj0
    rw [e1]
    exact ⟨by omega, by omega⟩
  · obtain rfl : j = 0 := by omega
    rw [hz] at hx
    have : x.1 = -1 := by cases hx; rfl
    rw [this]
    exact ⟨by omega, by omega⟩
theorem bal_up (h : chkR (toT t) = 0) {j : Nat} {x : Int × BS} (hx : (parts0 t)[j]? = some x) : (bg (balT t) j).1 = x.1 := by
  have e : balT t = (parts0 t).map (bagOf (adjL t) t) := by rw [balT, if_pos h]
  rw [e, bal_bg hx, bagOf_fst]
theorem und_sub (F : Fo (adjL t) T) (h : chkR (toT t) = 0) {k i : Nat} (hu : Und (balT t) k i) : ∀ x z, (parts0 t)[k]? = some x → (parts0 t)[i]? = some z → ∀ y, x.2.getLsbD y = true → z.2.getLsbD y = true := by
  obtain ⟨h0, _⟩ := chkR_ok.1 h
  rw [toT_len] at h0
  obtain ⟨hl, hz, hn⟩ := parts0_ok F h0
  induction hu with
  | refl k => intro x z hx hz y hy; rw [hx] at hz; cases hz; exact hy
  | @step k p i hp hu ih =>
    intro x z hx hzz y hy
    rw [bal_up h hx] at hp
    have hk0 : 0 < k := by
      apply Classical.byContradiction
      intro hh
      obtain rfl : k = 0 := by omega
      rw [hz] at hx
      have : x.1 = -1 := by cases hx; rfl
      omega
    obtain ⟨p', u, Q, e1, e2, e3, e4⟩ := (hn k x hx).2 hk0
    have : p' = p := by rw [hp] at e1; exact (Int.ofNat.inj e1).symm
    subst this
    exact ih _ z e3 hzz y (((hn p' _ e3).1.pt.sub F e4).sub y hy).1
theorem und_reach (F : Fo (adjL t) T) (h : chkR (toT t) = 0) : ∀ (m i : Nat) (x : Int × BS), (parts0 t)[i]? = some x → card x.2 ≤ m → ∀ y, x.2.getLsbD y = true → ∃ (k : Nat) (z : Int × BS), (parts0 t)[k]? = some z ∧ splitter (adjL t) z.2 = y ∧ Und (balT t) k i := by
  obtain ⟨h0, _⟩ := chkR_ok.1 h
  rw [toT_len] at h0
  obtain ⟨hl, hz, hn⟩ := parts0_ok F h0
  intro m
  induction m with
  | zero => intro i x hx hc y hy; have := card_pos hy; omega
  | succ m ih =>
    intro i x hx hc y hy
    have hp := (hn i x hx).1.pt
    by_cases hys : splitter (adjL t) x.2 = y
    · exact ⟨i, x, hx, hys, .refl i⟩
    · have hle := F.le
      have hsn := hp.inn _ (hp.spl F).mem
      have hyd : (del x.2 (splitter (adjL t) x.2 : Int)).getLsbD y = true := (bit_del x.2 (by omega)).2 ⟨hy, fun e => hys e.symm⟩
      have hCm := (parts_some F (del_in (part := x.2) hp.inn (splitter (adjL t) x.2 : Int))).2.2.2 y hyd
      have hself := comp_self F (del_in (part := x.2) hp.inn (splitter (adjL t) x.2 : Int)) hyd
      obtain ⟨k, _, hk⟩ := (hn i x hx).1.kid _ hCm
      have := (hp.step F hCm).2
      obtain ⟨j, z, j1, j2, j3⟩ := ih k _ hk (by simp only; omega) y hself
      exact ⟨j, z, j1, j2, j3.trans (.step (bal_up h hk) (.refl i))⟩
/-! ### each once -/
theorem sum_one {c : Nat → Nat} : ∀ (n : Nat), (∀ i, i < n → 1 ≤ c i) → n ≤ ((List.range n).map c).sum ∧ (((List.range n).map c).sum = n → ∀ i, i < n → c i = 1)
  | 0, _ => ⟨by simp, fun _ i hi => by omega⟩
  | n + 1, h => by
    obtain ⟨h1, h2⟩ := sum_one n fun i hi => h i (by omega)
    have hn := h n (by omega)
    rw [List.range_succ, List.map_append, List.sum_append]
    simp only [List.map_cons, List.map_nil, List.sum_cons, List.sum_nil, Nat.add_zero]
    refine ⟨by omega, fun he i hi => ?_⟩
    by_cases hin : i = n
    · subst hin; omega
    · exact h2 (by omega) i (by omega)
theorem count_two {l : List Nat} {i j y : Nat} (hi : l[i]? = some y) (hj : l[j]? = some y) (hlt : j < i) : 2 ≤ l.count y := by
  rw [← List.take_append_drop i l, List.count_append]
  have h1 : y ∈ l.take i := List.mem_of_getElem? (i := j) (by rw [List.getElem?_take, if_pos hlt]; exact hj)
  have h2 : y ∈ l.drop i := List.mem_of_getElem? (i := 0) (by rw [List.getElem?_drop]; exact hi)
  have := List.count_pos_iff.2 h1
  have := List.count_pos_iff.2 h2
  omega
theorem at_once (F : Fo (adjL t) T) (h : chkR (toT t) = 0) {i j : Nat} {x z : Int × BS} (hx : (parts0 t)[i]? = some x) (hz : (parts0 t)[j]? = some z) (hlt : j < i) : splitter (adjL t) x.2 ≠ splitter (adjL t) z.2 := by
  intro he
  obtain ⟨h0, _⟩ := chkR_ok.1 h
  rw [toT_len] at h0
  obtain ⟨hl, _, hn⟩ := parts0_ok F h0
  have hTn : T.n = t.length := by rw [← F.len, adjL_len]
  obtain ⟨l, hlE⟩ : ∃ l, l = (parts0 t).map fun x => splitter (adjL t) x.2 := ⟨_, rfl⟩
  have hll : l.length = t.length := by rw [hlE, List.length_map, hl]
  have hlt' : ∀ y ∈ l, y < t.length := fun y hy => by
    rw [hlE, List.mem_map] at hy
    obtain ⟨w, hw, rfl⟩ := hy
    obtain ⟨k, hk⟩ := List.getElem?_of_mem hw
    have hp := (hn k w hk).1.pt
    have := hp.inn _ (hp.spl F).mem
    omega
  have hc : ∀ y, y < t.length → 1 ≤ l.count y := fun y hy => by
    obtain ⟨k, w, hk, hs⟩ := reach0 F h0 hy
    refine List.count_pos_iff.2 ?_
    rw [hlE, List.mem_map]
    exact ⟨w, List.mem_of_getElem? hk, hs⟩
  have hsum := len_count hlt'
  rw [hll] at hsum
  have h1 := (sum_one (c := fun y => l.count y) t.length hc).2 hsum.symm
  have gi : l[i]? = some (splitter (adjL t) x.2) := by rw [hlE, List.getElem?_map, hx]; rfl
  have gj : l[j]? = some (splitter (adjL t) x.2) := by rw [hlE, List.getElem?_map, hz, he]; rfl
  have h2 := count_two gi gj hlt
  have h3 := h1 _ (hlt' _ (List.mem_of_getElem? gi))
  omega
end
end Go.Mono

namespace Go.Mono
open Go Go.Proofs Go.RowKit

theorem Vals.hi {xs : List RB} (V : Vals xs) : ∀ i, i < xs.length → up xs i < xs.length := fun i hi => (V.range i hi).2

end Go.Mono

namespace Go.Mono
open Go Go.Proofs Go.RowKit

end Go.Mono

namespace Go.Mono

theorem Vals.uni {xs : List RB} (V : Vals xs) : Uni xs := (uni_R (bare_vals V.range V.root V.loop)).1 V.dup
end Go.Mono

namespace Go.Mono

theorem hasTo_bit (t : List (Int × BS)) (c i : Nat) (s : List Nat) : (hasTo t c s).getLsbD i = true ↔ (bg t c).2.getLsbD i = true ∨ ∃ x ∈ s, (bg t x).2.getLsbD i = true := by
  have : ∀ (s : List Nat) (S : BS), (s.foldl (fun h n => h ||| (bg t n).2) S).getLsbD i = true ↔ S.getLsbD i = true ∨ ∃ x ∈ s, (bg t x).2.getLsbD i = true := by
    intro s
    induction s with
    | nil => intro S; simp
    | cons x s ih => intro S; rw [List.foldl_cons, ih, bit_or, or_assoc]; simp
  exact this s _
theorem topB_bit {t : List (Int × BS)} (hr : Rng t) {i k : Nat} (hi : i < t.length) (hk : k < 1024) : topB (toT t) (k : Nat) i = true ↔ (bg t i).2.getLsbD k = true ∧ ∀ p : Nat, (bg t i).1 = (p : Int) → ¬(bg t p).2.getLsbD k = true := by
  have hri := hr i hi
  have fit : fitsB (k : Nat) = true := fitsB_iff.2 ⟨by omega, by omega⟩
  have hh : ∀ S : BS, has S (k : Nat) = S.getLsbD k := fun S => by rw [has, fit, Int.toNat_natCast]; rfl
  rw [topB, toT_hs hi, hasL_toL, hh, toT_up hi, Bool.and_eq_true, Bool.or_eq_true, decide_eq_true_eq]
  constructor
  · rintro ⟨h1, h2⟩
    refine ⟨h1, fun p hp h3 => ?_⟩
    rcases h2 with h2 | h2
    · omega
    · rw [hp, Int.toNat_natCast, toT_hs (by omega), hasL_toL, hh, h3] at h2; cases h2
  · rintro ⟨h1, h2⟩
    refine ⟨h1, ?_⟩
    by_cases h3 : (bg t i).1 < 0
    · exact .inl h3
    · right
      have := h2 (bg t i).1.toNat (by omega)
      rw [toT_hs (by omega), hasL_toL, hh]
      simpa using this
theorem rng_of {t : List (Int × BS)} (V : Vals (toT t)) : Rng t := fun i hi => by
  have := V.range i (by rw [toT_len]; exact hi)
  rw [toT_up hi, toT_len] at this
  exact this
/-- the bags that hold a vertex lie within a part whose neighbours do not hold it -/
theorem tv_in {t : List (Int × BS)} (hl : t.length ≤ 1000) (V : Vals (toT t)) {P : BS} (hin : ∀ i, P.getLsbD i = true → i < t.length) {k : Nat} (hk : k < 1024)
    (hout : ∀ c, (outM (adjL t) P).getLsbD c = true → ¬(bg t c).2.getLsbD k = true) {s : Nat} (hs : P.getLsbD s = true) (hsk : (bg t s).2.getLsbD k = true) : ∀ c, c < t.length → (bg t c).2.getLsbD k = true → P.getLsbD c = true := by
  have F := fo_tree hl V
  have hn : (trOf (toT t) V).n = t.length := toT_len t
  have hr := rng_of V
  have hin' : ∀ i, P.getLsbD i = true → i < (trOf (toT t) V).n := fun i hi => by rw [hn]; exact hin i hi
  have key : ∀ c, c < (trOf (toT t) V).n → (bg t c).2.getLsbD k = true → ∃ q, q < t.length ∧ topB (toT t) (k : Nat) q = true ∧ (P.getLsbD c = true ↔ P.getLsbD q = true) := by
    refine Tr.ind fun c hc ih hck => ?_
    rw [hn] at hc
    by_cases htop : topB (toT t) (k : Nat) c = true
    · exact ⟨c, hc, htop, Iff.rfl⟩
    · have : ∃ p : Nat, (bg t c).1 = (p : Int) ∧ (bg t p).2.getLsbD k = true := by
        apply Classical.byContradiction
        intro hno
        exact htop ((topB_bit hr hc hk).2 ⟨hck, fun p hp hpk => hno ⟨p, hp, hpk⟩⟩)
      obtain ⟨p, hp, hpk⟩ := this
      have hpn : p < t.length := by have := hr c hc; omega
      have hpar : (trOf (toT t) V).par c = some p := (trOf_par V (by rw [toT_len]; exact hc)).2 (by rw [toT_up hc]; exact hp)
      obtain ⟨q, q1, q2, q3⟩ := ih p hpar hpk
      refine ⟨q, q1, q2, Iff.trans ?_ q3⟩
      constructor
      · intro h
        apply Classical.byContradiction
        intro hno
        exact hout p ((out_bit F hin' p).2 ⟨by rw [hn]; exact hpn, hno, c, h, .inl hpar⟩) hpk
      · intro h
        apply Classical.byContradiction
        intro hno
        exact hout c ((out_bit F hin' c).2 ⟨by rw [hn]; exact hc, hno, p, h, .inr hpar⟩) hck
  intro c hc hck
  obtain ⟨q, q1, q2, q3⟩ := key c (by rw [hn]; exact hc) hck
  obtain ⟨r, r1, r2, r3⟩ := key s (hin' s hs) hsk
  have hqr : q = r := by
    rcases Nat.lt_trichotomy q r with h | h | h
    · exact absurd ⟨r2, q2⟩ (V.uni (k : Nat) q r h (by rw [toT_len]; exact r1))
    · exact h
    · exact absurd ⟨q2, r2⟩ (V.uni (k : Nat) r q h (by rw [toT_len]; exact q1))
  subst hqr
  exact q3.2 (r3.1 hs)
section
variable {t : List (Int × BS)} {T : Tr}
theorem bal_bit {i : Nat} {x : Int × BS} (h : chkR (toT t) = 0) (hx : (parts0 t)[i]? = some x) (k : Nat) : (bg (balT t) i).2.getLsbD k = true ↔ (bg t (splitter (adjL t) x.2)).2.getLsbD k = true ∨ ∃ c, (outM (adjL t) x.2).getLsbD c = true ∧ (bg t c).2.getLsbD k = true := by
  have e : balT t = (parts0 t).map (bagOf (adjL t) t) := by rw [balT, if_pos h]
  rw [e, bal_bg hx, bagOf_snd, hasTo_bit]
  constructor
  · rintro (h | ⟨c, hc, h⟩)
    · exact .inl h
    · exact .inr ⟨c, (mem_elems.1 hc).2, h⟩
  · rintro (h | ⟨c, hc, h⟩)
    · exact .inl h
    · exact .inr ⟨c, mem_elems.2 ⟨bit_lt hc, hc⟩, h⟩
theorem abv_dec {xs : List RB} (h : ∀ i, i < xs.length → up xs i < (i : Int)) : ∀ (f : Nat) (a : Int), a < (f : Int) → a < (xs.length : Int) → (abv xs f a).isSome = true
  | 0, a, h1, _ => by rw [abv, if_pos (by omega)]; rfl
  | f + 1, a, h1, h2 => by
    rw [abv]
    by_cases ha : a < 0
    · rw [if_pos ha]; rfl
    · rw [if_neg ha, Option.isSome_map]
      have := h a.toNat (by omega)
      exact abv_dec h f _ (by omega) (by omega)
/-- the highest bags with a vertex: all of the old bags that hold it lie within the part -/
theorem bal_top (hl : t.length ≤ 1000) (h : chkR (toT t) = 0) {i : Nat} {x : Int × BS} (hx : (parts0 t)[i]? = some x) {k : Nat} (hk : k < 1024) (ht : topB (toT (balT t)) (k : Nat) i = true) :
    (bg t (splitter (adjL t) x.2)).2.getLsbD k = true ∧ ∀ c, c < t.length → (bg t c).2.getLsbD k = true → x.2.getLsbD c = true := by
  obtain ⟨h0, V⟩ := chkR_ok.1 h
  rw [toT_len] at h0
  have F := fo_tree hl V
  have hTn : (trOf (toT t) V).n = t.length := toT_len t
  obtain ⟨hpl, hz, hn⟩ := parts0_ok F h0
  have hD := bal_dec F h
  have hbl := balT_len F h
  have hilt : i < t.length := by rw [← hpl]; exact (List.getElem?_eq_some_iff.1 hx).1
  have hrB : Rng (balT t) := fun j hj => by have := hD j hj; omega
  have hp := (hn i x hx).1.pt
  obtain ⟨t1, t2⟩ := (topB_bit hrB (by rw [hbl]; exact hilt) hk).1 ht
  have noOut : ∀ c, (outM (adjL t) x.2).getLsbD c = true → ¬(bg t c).2.getLsbD k = true := by
    by_cases hi0 : i = 0
    · subst hi0
      rw [hz] at hx
      cases hx
      intro c hc
      have := (out_bit F hp.inn c).1 hc
      exact absurd ((below_bit' _ c (by omega)).2 (by omega)) this.2.1
    · obtain ⟨p, u, Q, e1, e2, e3, e4⟩ := (hn i x hx).2 (by omega)
      have hup := t2 p (by rw [bal_up h hx]; exact e1)
      have hpQ := (hn p _ e3).1.pt
      intro c hc hck
      refine hup ((bal_bit h e3 k).2 ?_)
      rcases sub_out F hpQ.inn (hpQ.sub F e4) hc with he | hc2
      · left; rw [← he]; exact hck
      · exact .inr ⟨c, hc2, hck⟩
  have hs : (bg t (splitter (adjL t) x.2)).2.getLsbD k = true := by
    rcases (bal_bit h hx k).1 t1 with h1 | ⟨c, hc, h1⟩
    · exact h1
    · exact absurd h1 (noOut c hc)
  exact ⟨hs, tv_in hl V (fun i hi => by rw [← hTn]; exact hp.inn i hi) hk noOut (hp.spl F).mem hs⟩
/-- THE BALANCED TREE IS VALID -/
theorem bal_valid (hl : t.length ≤ 1000) (h : chkR (toT t) = 0) : chkR (toT (balT t)) = 0 := by
  obtain ⟨h0, V⟩ := chkR_ok.1 h
  rw [toT_len] at h0
  have F := fo_tree hl V
  have hTn : (trOf (toT t) V).n = t.length := toT_len t
  obtain ⟨hpl, hz, hn⟩ := parts0_ok F h0
  have hD := bal_dec F h
  have hbl := balT_len F h
  have hlen : (toT (balT t)).length = t.length := by rw [toT_len, hbl]
  have up1 : ∀ i, i < t.length → up (toT (balT t)) i = (bg (balT t) i).1 := fun i hi => toT_up (by rw [hbl]; exact hi)
  have r1 : ∀ i, i < (toT (balT t)).length → -1 ≤ up (toT (balT t)) i ∧ up (toT (balT t)) i < (toT (balT t)).length := fun i hi => by
    rw [hlen] at hi ⊢
    have := hD i (by rw [hbl]; exact hi)
    rw [up1 i hi]; omega
  have pos : ∀ i, i < t.length → 0 < i → 0 ≤ up (toT (balT t)) i := fun i hi hi0 => by
    obtain ⟨x, hx⟩ := bal_get F h0 hi
    obtain ⟨p, u, Q, e1, _⟩ := (hn i x hx).2 hi0
    rw [up1 i hi, bal_up h hx, e1]; omega
  have r2 : (selN (fun i => decide (up (toT (balT t)) i < 0)) (toT (balT t)).length).length = 1 := by
    have le := (selN_two (p := fun i => decide (up (toT (balT t)) i < 0)) (n := (toT (balT t)).length)).2 fun j i hji hi ⟨q1, _⟩ => by
      have := pos i (by omega) (by omega)
      have := of_decide_eq_true q1
      omega
    have ge : 1 ≤ (selN (fun i => decide (up (toT (balT t)) i < 0)) (toT (balT t)).length).length := by
      have : ((0 : Nat) : Int) ∈ selN (fun i => decide (up (toT (balT t)) i < 0)) (toT (balT t)).length := mem_selN.2 ⟨0, by omega, decide_eq_true (by rw [up1 0 h0, bal_up h hz]; show (-1 : Int) < 0; decide), rfl⟩
      exact List.length_pos_of_mem this
    omega
  have r3 : ∀ i, i < (toT (balT t)).length → (above (toT (balT t)) i).isSome = true := fun i hi => by
    have hd : ∀ i, i < (toT (balT t)).length → up (toT (balT t)) i < (i : Int) := fun i hi => by
      rw [hlen] at hi
      have := hD i (by rw [hbl]; exact hi)
      rw [up1 i hi]; omega
    have := hd i hi
    rw [above]
    exact abv_dec hd _ _ (by omega) (by omega)
  refine chkR_ok.2 ⟨by rw [hlen]; exact h0, r1, r2, r3, (uni_R (bare_vals r1 r2 r3)).2 fun id j i hji hi ⟨q1, q2⟩ => ?_⟩
  rw [hlen] at hi
  obtain ⟨k, hk, rfl⟩ := topB_fits (by rw [hbl]; exact hi) q1
  obtain ⟨x, hx⟩ := bal_get F h0 hi
  obtain ⟨z, hz2⟩ := bal_get F h0 (Nat.lt_trans hji hi)
  obtain ⟨a1, a2⟩ := bal_top hl h hx hk q1
  obtain ⟨b1, b2⟩ := bal_top hl h hz2 hk q2
  have hpx := (hn i x hx).1.pt
  have hpz := (hn j z hz2).1.pt
  have sx := hpx.inn _ (hpx.spl F).mem
  have sz := hpz.inn _ (hpz.spl F).mem
  rw [hTn] at sx sz
  have onlyI : ∀ {k w}, (parts0 t)[k]? = some w → splitter (adjL t) w.2 = splitter (adjL t) x.2 → k = i := fun {k w} hw he => by
    rcases Nat.lt_trichotomy k i with h1 | h1 | h1
    · exact absurd he.symm (at_once F h hx hw h1)
    · exact h1
    · exact absurd he (at_once F h hw hx h1)
  have onlyJ : ∀ {k w}, (parts0 t)[k]? = some w → splitter (adjL t) w.2 = splitter (adjL t) z.2 → k = j := fun {k w} hw he => by
    rcases Nat.lt_trichotomy k j with h1 | h1 | h1
    · exact absurd he.symm (at_once F h hz2 hw h1)
    · exact h1
    · exact absurd he (at_once F h hw hz2 h1)
  obtain ⟨m1, w1, c1, c2, c3⟩ := und_reach F h _ j z hz2 (Nat.le_refl _) _ (b2 _ sx a1)
  obtain ⟨m2, w2, d1, d2, d3⟩ := und_reach F h _ i x hx (Nat.le_refl _) _ (a2 _ sz b1)
  obtain rfl := onlyI c1 c2
  obtain rfl := onlyJ d1 d2
  have s1 := und_sub F h c3 x z hx hz2
  have s2 := und_sub F h d3 z x hz2 hx
  have hxz : x.2 = z.2 := set_ext' fun y => ⟨s1 y, s2 y⟩
  exact at_once F h hx hz2 hji (by rw [hxz])
/-- each old bag lies within a new one -/
theorem bal_sub (hl : t.length ≤ 1000) (h : chkR (toT t) = 0) {c : Nat} (hc : c < t.length) : ∃ i, i < (balT t).length ∧ ∀ k, (bg t c).2.getLsbD k = true → (bg (balT t) i).2.getLsbD k = true := by
  obtain ⟨h0, V⟩ := chkR_ok.1 h
  rw [toT_len] at h0
  have F := fo_tree hl V
  obtain ⟨hpl, hz, hn⟩ := parts0_ok F h0
  obtain ⟨i, z, hi, hs⟩ := reach0 F h0 hc
  refine ⟨i, by rw [balT_len F h, ← hpl]; exact (List.getElem?_eq_some_iff.1 hi).1, fun k hk => (bal_bit h hi k).2 (.inl (by rw [hs]; exact hk))⟩
end
end Go.Mono

namespace Go.Mono
open Go Go.Proofs Go.RowKit Go.Gr
/-- where a vertex stands, from place k on -/
def fndF (l : List VT) (n : Int) : Int := match l.findIdx? (fun y => decide (y.1 = n)) with
  | some i => (i : Int)
  | none => -1
def isEd (y : ET) (u v : Int) : Bool := (y.1.1 == u && y.1.2 == v) || (y.1.1 == v && y.1.2 == u)
def edgF (l : List ET) (u v : Int) : Int := match l.findIdx? (fun y => isEd y u v) with
  | some i => (i : Int)
  | none => -1
theorem findIdx_at {α : Type} {p : α → Bool} {l : List α} {k : Nat} {x : α} (h : ∀ y ∈ l.take k, p y = false) (hx : l[k]? = some x) (hp : p x = true) : l.findIdx? p = some k := by
  rw [List.findIdx?_eq_some_iff_getElem]
  obtain ⟨hk, rfl⟩ := List.getElem?_eq_some_iff.1 hx
  refine ⟨hk, hp, fun j hj => ?_⟩
  have := h (l[j]'(by omega)) (by rw [List.mem_take_iff_getElem]; exact ⟨j, by omega, rfl⟩)
  simp [this]
theorem findIdx_no {α : Type} {p : α → Bool} {l : List α} (h : ∀ y ∈ l.take l.length, p y = false) : l.findIdx? p = none := by
  rw [List.findIdx?_eq_none_iff]
  intro y hy
  rw [List.take_length] at h
  simp [h y hy]
theorem no_succ {α : Type} {p : α → Bool} {l : List α} {k : Nat} {x : α} (h : ∀ y ∈ l.take k, p y = false) (hx : l[k]? = some x) (hp : p x = false) : ∀ y ∈ l.take (k + 1), p y = false := by
  rw [take_succ_get hx]
  intro y hy
  rcases List.mem_append.1 hy with h1 | h1
  · exact h y h1
  · rw [List.mem_singleton] at h1; rw [h1]; exact hp
theorem find_spec {G : Nat → Prop} (g : GT) (n : Int) (v : Value) (W : World) (h : (Dv gtE G g).p v W) (hl : g.1.length ≤ 100000) :
    Calls Tryz.prog 129 #[v, I n] W (Post (E (I (fndF g.1 n))) W) := by
  refine enter (args := [v, I n]) (As := [Dv gtE G0 g, E (I n)]) Tryz.func129 rfl Tryz.ntmps129 (Nat.le_of_ble_eq_true rfl) ?_ (fun a hf => ?_) (Nat.le_of_ble_eq_true rfl)
  rotate_left
  dsimp only [params, Nat.reduceAdd] at hf
  rotate_right
  · exact arg2 (Dv.weak h fun b _ hb => hb.elim) rfl
  have e := Ext.rfl' W
  repeat refine seq ?_
  refine regn0 ?_
  refine tl_boxP hf rfl (by decide) (fun _ h => h.elim) fun a w e' hf => ?_
  replace e := Ext.tr e e'
  clear e'
  refine tl_as hf rfl (by decide) fun a hf => ?_
  refine tl_nil ?_
  repeat refine seq ?_
  refine regn0 ?_
  refine tl_as hf rfl (by decide) fun a hf => ?_
  refine tl_nil ?_
  replace hf := hf.keep [1, 2, 4, 5]
  dsimp only [keep, List.filterMap, look, Nat.beq, Option.map] at hf
  repeat refine seq ?_
  refine blk (loopN (fun r0 a w => ∃ (k : Nat) , r0 = g.1.length - k ∧ k ≤ g.1.length ∧ Fr 22 a w [(1, E (I n)), (2, Dv (ptE gtE) G0 (some g)), (4, E (I 0)), (5, E (I k))] ∧ Ext W w ∧ (∀ y ∈ g.1.take k, decide (y.1 = n) = false)) g.1.length ⟨0, rfl, by omega, hf, e, (by simp)⟩ ?_)
  clear hf e; try clear hn
  rintro r0 a w ⟨k, rfl, hk, hf, e, hn⟩
  repeat refine seq ?_
  refine regn 5 hf (by decide +kernel) ?_
  refine st (mv rfl) ?_
  refine st (fldD Tryz.underlying36 rfl T33 (by decide) (Fld.fst Fld.refl) (isR rfl)) ?_
  refine st (ldD T33 (isR rfl)) ?_
  refine st (lenD Tryz.underlying33 (isR rfl)) ?_
  refine st (lss rfl rfl) ?_
  refine en fun a w e' hf => ?_
  replace e := Ext.tr e e'
  clear e'
  refine tl_nil ?_
  repeat refine seq ?_
  refine ifc hf rfl (fun hc => wskip ?_) (fun hc => wexit ?_)
  rotate_left
  rotate_left
  · have hlt : k < g.1.length := by have := of_decide_eq_true hc; (try dsimp only at this); omega
    clear hc
    replace hf := hf.keep [1, 2, 4, 5]
    dsimp only [keep, List.filterMap, look, Nat.beq, Option.map] at hf
    repeat refine seq ?_
    refine blk ?_
    have hg := List.getElem?_eq_getElem hlt
    generalize g.1[k] = x at hg
    repeat refine seq ?_
    refine regn 8 hf (by decide +kernel) ?_
    refine st (fldD Tryz.underlying36 rfl T33 (by decide) (Fld.fst Fld.refl) (isR rfl)) ?_
    refine st (ldD T33 (isR rfl)) ?_
    refine st (mv rfl) ?_
    refine st (idxD Tryz.underlying33 S83 (isR rfl) rfl (by omega) (hg)) ?_
    refine st (fldD Tryz.underlying83 rfl T3 (by decide) (Fld.fst Fld.refl) (isR rfl)) ?_
    refine st (ldI T3 (isR rfl)) ?_
    refine st (mv rfl) ?_
    refine st (eql rfl rfl) ?_
    refine en fun a w e' hf => ?_
    replace e := Ext.tr e e'
    clear e'
    refine tl_nil ?_
    repeat refine seq ?_
    refine ifc hf rfl (fun hb => ?_) (fun hb => ?_)
    · repeat refine seq ?_
      refine regn 1 hf (by decide +kernel) ?_
      refine st (mv rfl) ?_
      refine en fun a w e' hf => ?_
      replace e := Ext.tr e e'
      clear e'
      refine tl_as hf rfl (by decide) fun a hf => ?_
      refine tl_nil ?_
      refine wret ?_
      try simp only [Exit.then, Exit.inBlock]
      refine ret1 rfl hf rfl ?_
      rintro _ rfl
      exact ⟨_, rfl, e, (congrArg I (by rw [fndF, findIdx_at hn hg (by simpa using hb)]))⟩
    · refine wskip ?_
      try simp only [Exit.then, Exit.inBlock, ↓reduceIte]
      try simp only [Exit.then, Exit.inBlock, ↓reduceIte]
      repeat refine seq ?_
      refine regn 2 hf (by decide +kernel) ?_
      refine st (mv rfl) ?_
      refine st ((add rfl rfl (by omega)).eq (congrArg (Value.int .i64) (show (k : Int) + 1 = ((k + 1 : Nat) : Int) from rfl))) ?_
      refine en fun a w e' hf => ?_
      replace e := Ext.tr e e'
      clear e'
      refine tl_as hf rfl (by decide) fun a hf => ?_
      refine tl_nil ?_
      replace hf := hf.keep [1, 2, 4, 5]
      dsimp only [keep, List.filterMap, look, Nat.beq, Option.map] at hf
      refine ⟨_, ?_, k + 1, rfl, by omega, hf, e, ?_⟩
      · omega
      exact no_succ hn hg (by simpa using hb)
  · obtain rfl : k = g.1.length := by have := of_decide_eq_false hc; (try dsimp only at this); omega
    clear hc
    simp only [Exit.then, Exit.inBlock, ↓reduceIte]
    repeat refine seq ?_
    refine regn0 ?_
    refine tl_as hf rfl (by decide) fun a hf => ?_
    refine tl_nil ?_
    refine wret ?_
    try simp only [Exit.then, Exit.inBlock]
    refine ret1 rfl hf rfl ?_
    rintro _ rfl
    exact ⟨_, rfl, e, (congrArg I (by rw [fndF, findIdx_no hn]))⟩
theorem edge_spec {G : Nat → Prop} (g : GT) (m n : Int) (v : Value) (W : World) (h : (Dv gtE G g).p v W) (hl : g.2.length ≤ 100000) :
    Calls Tryz.prog 97 #[v, I m, I n] W (Post (E (I (edgF g.2 m n))) W) := by
  refine enter (args := [v, I m, I n]) (As := [Dv gtE G0 g, E (I m), E (I n)]) Tryz.func97 rfl Tryz.ntmps97 (Nat.le_of_ble_eq_true rfl) ?_ (fun a hf => ?_) (Nat.le_of_ble_eq_true rfl)
  rotate_left
  dsimp only [params, Nat.reduceAdd] at hf
  rotate_right
  · exact arg3 (Dv.weak h fun b _ hb => hb.elim) rfl rfl
  have e := Ext.rfl' W
  repeat refine seq ?_
  refine regn0 ?_
  refine tl_boxP hf rfl (by decide) (fun _ h => h.elim) fun a w e' hf => ?_
  replace e := Ext.tr e e'
  clear e'
  refine tl_as hf rfl (by decide) fun a hf => ?_
  refine tl_nil ?_
  repeat refine seq ?_
  refine regn0 ?_
  refine tl_as hf rfl (by decide) fun a hf => ?_
  refine tl_nil ?_
  replace hf := hf.keep [1, 2, 3, 6, 7]
  dsimp only [keep, List.filterMap, look, Nat.beq, Option.map] at hf
  repeat refine seq ?_
  refine blk (loopN (fun r0 a w => ∃ (k : Nat) , r0 = g.2.length - k ∧ k ≤ g.2.length ∧ Fr 54 a w [(1, E (I m)), (2, E (I n)), (3, Dv (ptE gtE) G0 (some g)), (6, E (I 0)), (7, E (I k))] ∧ Ext W w ∧ (∀ y ∈ g.2.take k, isEd y m n = false)) g.2.length ⟨0, rfl, by omega, hf, e, (by simp)⟩ ?_)
  clear hf e; try clear hn
  rintro r0 a w ⟨k, rfl, hk, hf, e, hn⟩
  repeat refine seq ?_
  refine regn 5 hf (by decide +kernel) ?_
  refine st (mv rfl) ?_
  refine st (fldD Tryz.underlying36 rfl T34 (by decide) (Fld.snd Fld.refl rfl) (isR rfl)) ?_
  refine st (ldD T34 (isR rfl)) ?_
  refine st (lenD Tryz.underlying34 (isR rfl)) ?_
  refine st (lss rfl rfl) ?_
  refine en fun a w e' hf => ?_
  replace e := Ext.tr e e'
  clear e'
  refine tl_nil ?_
  repeat refine seq ?_
  refine ifc hf rfl (fun hc => wskip ?_) (fun hc => wexit ?_)
  rotate_left
  rotate_left
  · have hlt : k < g.2.length := by have := of_decide_eq_true hc; (try dsimp only at this); omega
    clear hc
    replace hf := hf.keep [1, 2, 3, 6, 7]
    dsimp only [keep, List.filterMap, look, Nat.beq, Option.map] at hf
    repeat refine seq ?_
    refine blk ?_
    have hg := List.getElem?_eq_getElem hlt
    generalize g.2[k] = x at hg
    repeat refine seq ?_
    refine regn 38 hf (by decide +kernel) ?_
    refine st (fldD Tryz.underlying36 rfl T34 (by decide) (Fld.snd Fld.refl rfl) (isR rfl)) ?_
    refine st (ldD T34 (isR rfl)) ?_
    refine st (mv rfl) ?_
    refine st (idxD Tryz.underlying34 S86 (isR rfl) rfl (by omega) (hg)) ?_
    refine st (fldD Tryz.underlying86 rfl T3 (by decide) (Fld.fst (Fld.fst Fld.refl)) (isR rfl)) ?_
    refine st (ldI T3 (isR rfl)) ?_
    refine st (mv rfl) ?_
    refine st (eql rfl rfl) ?_
    refine st (mv rfl) ?_
    refine sgE rfl rfl (.k 3 rfl .n) (fun hgd => fldD Tryz.underlying36 rfl T34 (by decide) (Fld.snd Fld.refl rfl) (isR rfl)) ?_
    refine sgE rfl rfl (.c 24 rfl (fun h => h) .n) (fun hgd => ldD T34 (isR rfl)) ?_
    refine sgE rfl rfl (.k 7 rfl .n) (fun hgd => mv rfl) ?_
    refine sgE rfl rfl (.c 25 rfl (fun h => h) (.c 26 rfl (fun h => h) .n)) (fun hgd => idxD Tryz.underlying34 S86 (isR rfl) rfl rfl (hg)) ?_
    refine sgE rfl rfl (.c 27 rfl (fun h => h) .n) (fun hgd => fldD Tryz.underlying86 rfl T3 (by decide) (Fld.fst (Fld.snd Fld.refl rfl)) (isR rfl)) ?_
    refine sgE rfl rfl (.c 28 rfl (fun h => h) .n) (fun hgd => ldI T3 (isR rfl)) ?_
    refine sgE rfl rfl (.k 2 rfl .n) (fun hgd => mv rfl) ?_
    refine sgE rfl rfl (.c 29 rfl (fun h => h) (.c 30 rfl (fun h => h) .n)) (fun hgd => eql rfl rfl) ?_
    refine st (pkAnd rfl rfl (fun h => by rw [h]; rfl)) ?_
    refine st (mv rfl) ?_
    refine sgE rfl rfl (.k 3 rfl .n) (fun hgd => fldD Tryz.underlying36 rfl T34 (by decide) (Fld.snd Fld.refl rfl) (isR rfl)) ?_
    refine sgE rfl rfl (.c 34 rfl (fun h => h) .n) (fun hgd => ldD T34 (isR rfl)) ?_
    refine sgE rfl rfl (.k 7 rfl .n) (fun hgd => mv rfl) ?_
    refine sgE rfl rfl (.c 35 rfl (fun h => h) (.c 36 rfl (fun h => h) .n)) (fun hgd => idxD Tryz.underlying34 S86 (isR rfl) rfl rfl (hg)) ?_
    refine sgE rfl rfl (.c 37 rfl (fun h => h) .n) (fun hgd => fldD Tryz.underlying86 rfl T3 (by decide) (Fld.fst (Fld.fst Fld.refl)) (isR rfl)) ?_
    refine sgE rfl rfl (.c 38 rfl (fun h => h) .n) (fun hgd => ldI T3 (isR rfl)) ?_
    refine sgE rfl rfl (.k 2 rfl .n) (fun hgd => mv rfl) ?_
    refine sgE rfl rfl (.c 39 rfl (fun h => h) (.c 40 rfl (fun h => h) .n)) (fun hgd => eql rfl rfl) ?_
    refine sgE rfl rfl (.c 41 rfl (fun h => h) .n) (fun hgd => mv rfl) ?_
    refine sgC rfl rfl (.k 3 rfl .n) (fun hgd => fldD Tryz.underlying36 rfl T34 (by decide) (Fld.snd Fld.refl rfl) (isR rfl)) ?_
    refine sgC rfl rfl (.c 43 rfl (fun h => h) .n) (fun hgd => ldD T34 (isR rfl)) ?_
    refine sgC rfl rfl (.k 7 rfl .n) (fun hgd => mv rfl) ?_
    refine sgC rfl rfl (.c 44 rfl (fun h => h) (.c 45 rfl (fun h => h) .n)) (fun hgd => idxD Tryz.underlying34 S86 (isR rfl) rfl rfl (hg)) ?_
    refine sgC rfl rfl (.c 46 rfl (fun h => h) .n) (fun hgd => fldD Tryz.underlying86 rfl T3 (by decide) (Fld.fst (Fld.snd Fld.refl rfl)) (isR rfl)) ?_
    refine sgC rfl rfl (.c 47 rfl (fun h => h) .n) (fun hgd => ldI T3 (isR rfl)) ?_
    refine sgC rfl rfl (.k 1 rfl .n) (fun hgd => mv rfl) ?_
    refine sgC rfl rfl (.c 48 rfl (fun h => h) (.c 49 rfl (fun h => h) .n)) (fun hgd => eql rfl rfl) ?_
    refine sgE rfl rfl (.c 42 rfl (fun h => h) (.k 50 rfl .n)) (fun hgd => pkAnd rfl rfl (fun h => by rw [hgd, h]; rfl)) ?_
    refine st (pkOr rfl rfl (fun h => by rw [h]; rfl)) ?_
    refine en fun a w e' hf => ?_
    replace e := Ext.tr e e'
    clear e'
    refine tl_nil ?_
    repeat refine seq ?_
    refine ifc hf rfl (fun hb => ?_) (fun hb => ?_)
    · repeat refine seq ?_
      refine regn 1 hf (by decide +kernel) ?_
      refine st (mv rfl) ?_
      refine en fun a w e' hf => ?_
      replace e := Ext.tr e e'
      clear e'
      refine tl_as hf rfl (by decide) fun a hf => ?_
      refine tl_nil ?_
      refine wret ?_
      try simp only [Exit.then, Exit.inBlock]
      refine ret1 rfl hf rfl ?_
      rintro _ rfl
      exact ⟨_, rfl, e, (congrArg I (by rw [edgF, findIdx_at hn hg hb]))⟩
    · refine wskip ?_
      try simp only [Exit.then, Exit.inBlock, ↓reduceIte]
      try simp only [Exit.then, Exit.inBlock, ↓reduceIte]
      repeat refine seq ?_
      refine regn 2 hf (by decide +kernel) ?_
      refine st (mv rfl) ?_
      refine st ((add rfl rfl (by omega)).eq (congrArg (Value.int .i64) (show (k : Int) + 1 = ((k + 1 : Nat) : Int) from rfl))) ?_
      refine en fun a w e' hf => ?_
      replace e := Ext.tr e e'
      clear e'
      refine tl_as hf rfl (by decide) fun a hf => ?_
      refine tl_nil ?_
      replace hf := hf.keep [1, 2, 3, 6, 7]
      dsimp only [keep, List.filterMap, look, Nat.beq, Option.map] at hf
      refine ⟨_, ?_, k + 1, rfl, by omega, hf, e, ?_⟩
      · omega
      exact no_succ hn hg hb
  · obtain rfl : k = g.2.length := by have := of_decide_eq_false hc; (try dsimp only at this); omega
    clear hc
    simp only [Exit.then, Exit.inBlock, ↓reduceIte]
    repeat refine seq ?_
    refine regn0 ?_
    refine tl_as hf rfl (by decide) fun a hf => ?_
    refine tl_nil ?_
    refine wret ?_
    try simp only [Exit.then, Exit.inBlock]
    refine ret1 rfl hf rfl ?_
    rintro _ rfl
    exact ⟨_, rfl, e, (congrArg I (by rw [edgF, findIdx_no hn]))⟩
theorem pair_spec (d : DT) (W : World) : Calls Tryz.prog 96 #[dtV d] W (Post (E (.bool (Gr.pairs d.1))) W) := by
  refine enter (args := [dtV d]) (As := [Dv dtE G0 d]) Tryz.func96 rfl Tryz.ntmps96 (Nat.le_of_ble_eq_true rfl) ?_ (fun a hf => ?_) (Nat.le_of_ble_eq_true rfl)
  rotate_left
  dsimp only [params, Nat.reduceAdd] at hf
  rotate_right
  · exact arg1 (Dv.dt.2 rfl)
  have e := Ext.rfl' W
  repeat refine seq ?_
  refine regn0 ?_
  refine tl_boxP hf rfl (by decide) (fun _ h => h.elim) fun a w e' hf => ?_
  replace e := Ext.tr e e'
  clear e'
  refine tl_as hf rfl (by decide) fun a hf => ?_
  refine tl_nil ?_
  repeat refine seq ?_
  refine regn 18 hf (by decide +kernel) ?_
  refine st (fldD Tryz.underlying45 rfl T3 (by decide) (Fld.fst Fld.refl) (isR rfl)) ?_
  refine st (ldI T3 (isR rfl)) ?_
  refine st (eql rfl rfl) ?_
  refine st (mv rfl) ?_
  refine sgE rfl rfl (.k 1 rfl .n) (fun hgd => fldD Tryz.underlying45 rfl T3 (by decide) (Fld.fst Fld.refl) (isR rfl)) ?_
  refine sgE rfl rfl (.c 7 rfl (fun h => h) .n) (fun hgd => ldI T3 (isR rfl)) ?_
  refine sgE rfl rfl (.c 8 rfl (fun h => h) .n) (fun hgd => eql rfl rfl) ?_
  refine st (pkOr rfl rfl (fun h => by rw [h]; rfl)) ?_
  refine st (mv rfl) ?_
  refine sgE rfl rfl (.k 1 rfl .n) (fun hgd => fldD Tryz.underlying45 rfl T3 (by decide) (Fld.fst Fld.refl) (isR rfl)) ?_
  refine sgE rfl rfl (.c 12 rfl (fun h => h) .n) (fun hgd => ldI T3 (isR rfl)) ?_
  refine sgE rfl rfl (.c 13 rfl (fun h => h) .n) (fun hgd => eql rfl rfl) ?_
  refine st (pkOr rfl rfl (fun h => by rw [h]; rfl)) ?_
  refine st (mv rfl) ?_
  refine sgE rfl rfl (.k 1 rfl .n) (fun hgd => fldD Tryz.underlying45 rfl T3 (by decide) (Fld.fst Fld.refl) (isR rfl)) ?_
  refine sgE rfl rfl (.c 17 rfl (fun h => h) .n) (fun hgd => ldI T3 (isR rfl)) ?_
  refine sgE rfl rfl (.c 18 rfl (fun h => h) .n) (fun hgd => eql rfl rfl) ?_
  refine st (pkOr rfl rfl (fun h => by rw [h]; rfl)) ?_
  refine en fun a w e' hf => ?_
  replace e := Ext.tr e e'
  clear e'
  refine tl_as hf rfl (by decide) fun a hf => ?_
  refine tl_nil ?_
  refine wret ?_
  try simp only [Exit.then, Exit.inBlock]
  refine ret1 rfl hf rfl ?_
  rintro _ rfl
  exact ⟨_, rfl, e, rfl⟩
theorem heavy_spec (d : DT) (W : World) : Calls Tryz.prog 128 #[dtV d] W (Post (E (.bool (Gr.weighs d.1))) W) := by
  refine enter (args := [dtV d]) (As := [Dv dtE G0 d]) Tryz.func128 rfl Tryz.ntmps128 (Nat.le_of_ble_eq_true rfl) ?_ (fun a hf => ?_) (Nat.le_of_ble_eq_true rfl)
  rotate_left
  dsimp only [params, Nat.reduceAdd] at hf
  rotate_right
  · exact arg1 (Dv.dt.2 rfl)
  have e := Ext.rfl' W
  repeat refine seq ?_
  refine regn0 ?_
  refine tl_boxP hf rfl (by decide) (fun _ h => h.elim) fun a w e' hf => ?_
  replace e := Ext.tr e e'
  clear e'
  refine tl_as hf rfl (by decide) fun a hf => ?_
  refine tl_nil ?_
  repeat refine seq ?_
  refine regn 18 hf (by decide +kernel) ?_
  refine st (fldD Tryz.underlying45 rfl T3 (by decide) (Fld.fst Fld.refl) (isR rfl)) ?_
  refine st (ldI T3 (isR rfl)) ?_
  refine st (eql rfl rfl) ?_
  refine st (mv rfl) ?_
  refine sgE rfl rfl (.k 1 rfl .n) (fun hgd => fldD Tryz.underlying45 rfl T3 (by decide) (Fld.fst Fld.refl) (isR rfl)) ?_
  refine sgE rfl rfl (.c 7 rfl (fun h => h) .n) (fun hgd => ldI T3 (isR rfl)) ?_
  refine sgE rfl rfl (.c 8 rfl (fun h => h) .n) (fun hgd => eql rfl rfl) ?_
  refine st (pkOr rfl rfl (fun h => by rw [h]; rfl)) ?_
  refine st (mv rfl) ?_
  refine sgE rfl rfl (.k 1 rfl .n) (fun hgd => fldD Tryz.underlying45 rfl T3 (by decide) (Fld.fst Fld.refl) (isR rfl)) ?_
  refine sgE rfl rfl (.c 12 rfl (fun h => h) .n) (fun hgd => ldI T3 (isR rfl)) ?_
  refine sgE rfl rfl (.c 13 rfl (fun h => h) .n) (fun hgd => eql rfl rfl) ?_
  refine st (pkOr rfl rfl (fun h => by rw [h]; rfl)) ?_
  refine st (mv rfl) ?_
  refine sgE rfl rfl (.k 1 rfl .n) (fun hgd => fldD Tryz.underlying45 rfl T3 (by decide) (Fld.fst Fld.refl) (isR rfl)) ?_
  refine sgE rfl rfl (.c 17 rfl (fun h => h) .n) (fun hgd => ldI T3 (isR rfl)) ?_
  refine sgE rfl rfl (.c 18 rfl (fun h => h) .n) (fun hgd => eql rfl rfl) ?_
  refine st (pkOr rfl rfl (fun h => by rw [h]; rfl)) ?_
  refine en fun a w e' hf => ?_
  replace e := Ext.tr e e'
  clear e'
  refine tl_as hf rfl (by decide) fun a hf => ?_
  refine tl_nil ?_
  refine wret ?_
  try simp only [Exit.then, Exit.inBlock]
  refine ret1 rfl hf rfl ?_
  rintro _ rfl
  exact ⟨_, rfl, e, rfl⟩
end Go.Mono

namespace Go.Mono
open Go Go.Proofs Go.RowKit Go.Gr
def wrongR (g : GT) (d : DT) : Int :=
  if (decide (d.1 < 0) || decide (7 < d.1)) = true then 11
  else if (((decide (d.2.1 < 0) || decide (1023 < d.2.1)) || (Gr.pairs d.1 && (decide (d.2.2.1 < 0) || decide (1023 < d.2.2.1)))) || (Gr.weighs d.1 && (decide (d.2.2.2.2 < -1048576) || decide (1048576 < d.2.2.2.2)))) = true then 2
  else if (Gr.pairs d.1 && d.2.1 == d.2.2.1) = true then 15
  else if (d.1 == 0) = true then (if decide (0 ≤ fndF g.1 d.2.1) = true then 7 else 0)
  else if (decide (fndF g.1 d.2.1 < 0) || (d.1 == 2 && decide (fndF g.1 d.2.2.1 < 0))) = true then 9
  else if (d.1 == 2) = true then (if decide (0 ≤ edgF g.2 d.2.1 d.2.2.1) = true then 7 else if decide ((1024 : Int) ≤ (g.2.length : Nat)) = true then 8 else 0)
  else if (Gr.pairs d.1 && decide (edgF g.2 d.2.1 d.2.2.1 < 0)) = true then 9 else 0
theorem rneg {b : Bool} (h : b = false) : ¬ (b = true) := by rw [h]; decide
theorem wrongR_spec {G : Nat → Prop} (g : GT) (d : DT) (v : Value) (W : World) (h : (Dv gtE G g).p v W) (hl1 : g.1.length ≤ 100000) (hl2 : g.2.length ≤ 100000) :
    Calls Tryz.prog 93 #[v, dtV d] W (Post (E (I (wrongR g d))) W) := by
  refine enter (args := [v, dtV d]) (As := [Dv gtE G0 g, Dv dtE G0 d]) Tryz.func93 rfl Tryz.ntmps93 (Nat.le_of_ble_eq_true rfl) ?_ (fun a hf => ?_) (Nat.le_of_ble_eq_true rfl)
  rotate_left
  dsimp only [params, Nat.reduceAdd] at hf
  rotate_right
  · exact arg2 (Dv.weak h fun b _ hb => hb.elim) (Dv.dt.2 rfl)
  have e := Ext.rfl' W
  have hp : ∀ (v : Value) (w : World), Ext W w → v = dtV d → Calls Tryz.prog 96 #[v] w (Post (E (.bool (Gr.pairs d.1))) w) := fun v w _ hv => by cases hv; exact pair_spec d w
  have hh : ∀ (v : Value) (w : World), Ext W w → v = dtV d → Calls Tryz.prog 128 #[v] w (Post (E (.bool (Gr.weighs d.1))) w) := fun v w _ hv => by cases hv; exact heavy_spec d w
  have hF : ∀ (n : Int) (v u : Value) (w : World), (Dv gtE G0 g).p v w → u = I n → Calls Tryz.prog 129 #[v, u] w (Post (E (I (fndF g.1 n))) w) := fun n v u w h1 h2 => by cases h2; exact find_spec g n v w h1 hl1
  have hE : ∀ (m n : Int) (v u x : Value) (w : World), (Dv gtE G0 g).p v w → u = I m → x = I n → Calls Tryz.prog 97 #[v, u, x] w (Post (E (I (edgF g.2 m n))) w) := fun m n v u x w h1 h2 h3 => by cases h2; cases h3; exact edge_spec g m n v w h1 hl2
  repeat refine seq ?_
  refine regn0 ?_
  refine tl_boxP hf rfl (by decide) (fun _ h => h.elim) fun a w e' hf => ?_
  replace e := Ext.tr e e'
  clear e'
  refine tl_boxP hf rfl (by decide) (fun _ h => h.elim) fun a w e' hf => ?_
  replace e := Ext.tr e e'
  clear e'
  refine tl_as hf rfl (by decide) fun a hf => ?_
  refine tl_nil ?_
  repeat refine seq ?_
  refine regn 8 hf (by decide +kernel) ?_
  refine st (fldD Tryz.underlying45 rfl T3 (by decide) (Fld.fst Fld.refl) (isR rfl)) ?_
  refine st (ldI T3 (isR rfl)) ?_
  refine st (lss rfl rfl) ?_
  refine st (mv rfl) ?_
  refine sgE rfl rfl (.k 3 rfl .n) (fun hgd => fldD Tryz.underlying45 rfl T3 (by decide) (Fld.fst Fld.refl) (isR rfl)) ?_
  refine sgE rfl rfl (.c 9 rfl (fun h => h) .n) (fun hgd => ldI T3 (isR rfl)) ?_
  refine sgE rfl rfl (.c 10 rfl (fun h => h) .n) (fun hgd => gtr rfl rfl) ?_
  refine st (pkOr rfl rfl (fun h => by rw [h]; rfl)) ?_
  refine en fun a w e' hf => ?_
  replace e := Ext.tr e e'
  clear e'
  refine tl_nil ?_
  repeat refine seq ?_
  refine ifc hf rfl (fun hb => ?_) (fun hb => ?_)
  · repeat refine seq ?_
    refine regn0 ?_
    refine tl_as hf rfl (by decide) fun a hf => ?_
    refine tl_nil ?_
    refine wret ?_
    try simp only [Exit.then, Exit.inBlock]
    refine ret1 rfl hf rfl ?_
    rintro _ rfl
    exact ⟨_, rfl, e, (congrArg I (by rw [wrongR, if_pos hb]))⟩
  refine wskip ?_
  try simp only [Exit.then, Exit.inBlock, ↓reduceIte]
  replace hf := hf.keep [2, 3, 4]
  dsimp only [keep, List.filterMap, look, Nat.beq, Option.map] at hf
  have h1 := hb; clear hb
  repeat refine seq ?_
  refine regn 36 hf (by decide +kernel) ?_
  refine st (fldD Tryz.underlying45 rfl T3 (by decide) (Fld.snd (Fld.fst Fld.refl) rfl) (isR rfl)) ?_
  refine st (ldI T3 (isR rfl)) ?_
  refine st (lss rfl rfl) ?_
  refine st (mv rfl) ?_
  refine sgE rfl rfl (.k 3 rfl .n) (fun hgd => fldD Tryz.underlying45 rfl T3 (by decide) (Fld.snd (Fld.fst Fld.refl) rfl) (isR rfl)) ?_
  refine sgE rfl rfl (.c 17 rfl (fun h => h) .n) (fun hgd => ldI T3 (isR rfl)) ?_
  refine sgE rfl rfl (.c 18 rfl (fun h => h) .n) (fun hgd => gtr rfl rfl) ?_
  refine st (pkOr rfl rfl (fun h => by rw [h]; rfl)) ?_
  refine st (mv rfl) ?_
  refine sgE rfl rfl (.k 3 rfl .n) (fun hgd => ldDt T45 (isR rfl)) ?_
  refine sgE rfl rfl (.c 22 rfl (fun h => h) .n) (fun hgd => call1 En96 rfl (fun v w he h => hp v w (Ext.tr e he) h)) ?_
  refine sgE rfl rfl (.c 23 rfl (fun h => h) .n) (fun hgd => mv rfl) ?_
  refine sgC rfl rfl (.k 3 rfl .n) (fun hgd => fldD Tryz.underlying45 rfl T3 (by decide) (Fld.snd (Fld.snd (Fld.fst Fld.refl) rfl) rfl) (isR rfl)) ?_
  refine sgC rfl rfl (.c 25 rfl (fun h => h) .n) (fun hgd => ldI T3 (isR rfl)) ?_
  refine sgC rfl rfl (.c 26 rfl (fun h => h) .n) (fun hgd => lss rfl rfl) ?_
  refine sgC rfl rfl (.c 27 rfl (fun h => h) .n) (fun hgd => mv rfl) ?_
  refine sgC rfl rfl (.k 3 rfl .n) (fun hgd => fldD Tryz.underlying45 rfl T3 (by decide) (Fld.snd (Fld.snd (Fld.fst Fld.refl) rfl) rfl) (isR rfl)) ?_
  refine sgC rfl rfl (.c 29 rfl (fun h => h) .n) (fun hgd => ldI T3 (isR rfl)) ?_
  refine sgC rfl rfl (.c 30 rfl (fun h => h) .n) (fun hgd => gtr rfl rfl) ?_
  refine sgC rfl rfl (.c 28 rfl (fun h => h) (.k 31 rfl .n)) (fun hgd => pkOr rfl rfl (fun h => by rw [hgd, h]; rfl)) ?_
  refine sgE rfl rfl (.c 24 rfl (fun h => h) (.k 32 rfl .n)) (fun hgd => pkAnd rfl rfl (fun h => by rw [hgd, h]; rfl)) ?_
  refine st (pkOr rfl rfl (fun h => by rw [h]; rfl)) ?_
  refine st (mv rfl) ?_
  refine sgE rfl rfl (.k 3 rfl .n) (fun hgd => ldDt T45 (isR rfl)) ?_
  refine sgE rfl rfl (.c 36 rfl (fun h => h) .n) (fun hgd => call1 En128 rfl (fun v w he h => hh v w (Ext.tr e he) h)) ?_
  refine sgE rfl rfl (.c 37 rfl (fun h => h) .n) (fun hgd => mv rfl) ?_
  refine sgC rfl rfl (.k 3 rfl .n) (fun hgd => fldD Tryz.underlying45 rfl T3 (by decide) (Fld.snd (Fld.snd (Fld.snd (Fld.snd Fld.refl rfl) rfl) rfl) rfl) (isR rfl)) ?_
  refine sgC rfl rfl (.c 39 rfl (fun h => h) .n) (fun hgd => ldI T3 (isR rfl)) ?_
  refine sgC rfl rfl (.c 40 rfl (fun h => h) .n) (fun hgd => lss rfl rfl) ?_
  refine sgC rfl rfl (.c 41 rfl (fun h => h) .n) (fun hgd => mv rfl) ?_
  refine sgC rfl rfl (.k 3 rfl .n) (fun hgd => fldD Tryz.underlying45 rfl T3 (by decide) (Fld.snd (Fld.snd (Fld.snd (Fld.snd Fld.refl rfl) rfl) rfl) rfl) (isR rfl)) ?_
  refine sgC rfl rfl (.c 43 rfl (fun h => h) .n) (fun hgd => ldI T3 (isR rfl)) ?_
  refine sgC rfl rfl (.c 44 rfl (fun h => h) .n) (fun hgd => gtr rfl rfl) ?_
  refine sgC rfl rfl (.c 42 rfl (fun h => h) (.k 45 rfl .n)) (fun hgd => pkOr rfl rfl (fun h => by rw [hgd, h]; rfl)) ?_
  refine sgE rfl rfl (.c 38 rfl (fun h => h) (.k 46 rfl .n)) (fun hgd => pkAnd rfl rfl (fun h => by rw [hgd, h]; rfl)) ?_
  refine st (pkOr rfl rfl (fun h => by rw [h]; rfl)) ?_
  refine en fun a w e' hf => ?_
  replace e := Ext.tr e e'
  clear e'
  refine tl_nil ?_
  repeat refine seq ?_
  refine ifc hf rfl (fun hb => ?_) (fun hb => ?_)
  · repeat refine seq ?_
    refine regn0 ?_
    refine tl_as hf rfl (by decide) fun a hf => ?_
    refine tl_nil ?_
    refine wret ?_
    try simp only [Exit.then, Exit.inBlock]
    refine ret1 rfl hf rfl ?_
    rintro _ rfl
    exact ⟨_, rfl, e, (congrArg I (by rw [wrongR, if_neg (rneg h1), if_pos hb]))⟩
  refine wskip ?_
  try simp only [Exit.then, Exit.inBlock, ↓reduceIte]
  replace hf := hf.keep [2, 3, 4]
  dsimp only [keep, List.filterMap, look, Nat.beq, Option.map] at hf
  have h2 := hb; clear hb
  repeat refine seq ?_
  refine regn 9 hf (by decide +kernel) ?_
  refine st (ldDt T45 (isR rfl)) ?_
  refine st (call1 En96 rfl (fun v w he h => hp v w (Ext.tr e he) h)) ?_
  refine st (mv rfl) ?_
  refine sgE rfl rfl (.k 3 rfl .n) (fun hgd => fldD Tryz.underlying45 rfl T3 (by decide) (Fld.snd (Fld.fst Fld.refl) rfl) (isR rfl)) ?_
  refine sgE rfl rfl (.c 52 rfl (fun h => h) .n) (fun hgd => ldI T3 (isR rfl)) ?_
  refine sgE rfl rfl (.k 3 rfl .n) (fun hgd => fldD Tryz.underlying45 rfl T3 (by decide) (Fld.snd (Fld.snd (Fld.fst Fld.refl) rfl) rfl) (isR rfl)) ?_
  refine sgE rfl rfl (.c 54 rfl (fun h => h) .n) (fun hgd => ldI T3 (isR rfl)) ?_
  refine sgE rfl rfl (.c 53 rfl (fun h => h) (.c 55 rfl (fun h => h) .n)) (fun hgd => eql rfl rfl) ?_
  refine st (pkAnd rfl rfl (fun h => by rw [h]; rfl)) ?_
  refine en fun a w e' hf => ?_
  replace e := Ext.tr e e'
  clear e'
  refine tl_nil ?_
  repeat refine seq ?_
  refine ifc hf rfl (fun hb => ?_) (fun hb => ?_)
  · repeat refine seq ?_
    refine regn0 ?_
    refine tl_as hf rfl (by decide) fun a hf => ?_
    refine tl_nil ?_
    refine wret ?_
    try simp only [Exit.then, Exit.inBlock]
    refine ret1 rfl hf rfl ?_
    rintro _ rfl
    exact ⟨_, rfl, e, (congrArg I (by rw [wrongR, if_neg (rneg h1), if_neg (rneg h2), if_pos hb]))⟩
  refine wskip ?_
  try simp only [Exit.then, Exit.inBlock, ↓reduceIte]
  replace hf := hf.keep [2, 3, 4]
  dsimp only [keep, List.filterMap, look, Nat.beq, Option.map] at hf
  have h3 := hb; clear hb
  repeat refine seq ?_
  refine regn 3 hf (by decide +kernel) ?_
  refine st (fldD Tryz.underlying45 rfl T3 (by decide) (Fld.fst Fld.refl) (isR rfl)) ?_
  refine st (ldI T3 (isR rfl)) ?_
  refine st (eql rfl rfl) ?_
  refine en fun a w e' hf => ?_
  replace e := Ext.tr e e'
  clear e'
  refine tl_nil ?_
  repeat refine seq ?_
  refine ifc hf rfl (fun hb => ?_) (fun hb => ?_)
  · have h4 := hb; clear hb
    repeat refine seq ?_
    refine regn 5 hf (by decide +kernel) ?_
    refine st (ldD T36 (isR rfl)) ?_
    refine st (fldD Tryz.underlying45 rfl T3 (by decide) (Fld.snd (Fld.fst Fld.refl) rfl) (isR rfl)) ?_
    refine st (ldI T3 (isR rfl)) ?_
    refine st (call2 En129 rfl rfl (fun v u w he h h' => hF _ v u w h h')) ?_
    refine st (geq rfl rfl) ?_
    refine en fun a w e' hf => ?_
    replace e := Ext.tr e e'
    clear e'
    refine tl_nil ?_
    repeat refine seq ?_
    refine ifc hf rfl (fun hb => ?_) (fun hb => ?_)
    · repeat refine seq ?_
      refine regn0 ?_
      refine tl_as hf rfl (by decide) fun a hf => ?_
      refine tl_nil ?_
      refine wret ?_
      try simp only [Exit.then, Exit.inBlock]
      refine ret1 rfl hf rfl ?_
      rintro _ rfl
      exact ⟨_, rfl, e, (congrArg I (by rw [wrongR, if_neg (rneg h1), if_neg (rneg h2), if_neg (rneg h3), if_pos h4, if_pos hb]))⟩
    refine wskip ?_
    try simp only [Exit.then, Exit.inBlock, ↓reduceIte]
    repeat refine seq ?_
    refine regn0 ?_
    refine tl_as hf rfl (by decide) fun a hf => ?_
    refine tl_nil ?_
    refine wret ?_
    try simp only [Exit.then, Exit.inBlock]
    refine ret1 rfl hf rfl ?_
    rintro _ rfl
    exact ⟨_, rfl, e, (congrArg I (by rw [wrongR, if_neg (rneg h1), if_neg (rneg h2), if_neg (rneg h3), if_pos h4, if_neg (rneg hb)]))⟩
  refine wskip ?_
  try simp only [Exit.then, Exit.inBlock, ↓reduceIte]
  replace hf := hf.keep [2, 3, 4]
  dsimp only [keep, List.filterMap, look, Nat.beq, Option.map] at hf
  have h4 := hb; clear hb
  repeat refine seq ?_
  refine regn 17 hf (by decide +kernel) ?_
  refine st (ldD T36 (isR rfl)) ?_
  refine st (fldD Tryz.underlying45 rfl T3 (by decide) (Fld.snd (Fld.fst Fld.refl) rfl) (isR rfl)) ?_
  refine st (ldI T3 (isR rfl)) ?_
  refine st (call2 En129 rfl rfl (fun v u w he h h' => hF _ v u w h h')) ?_
  refine st (lss rfl rfl) ?_
  refine st (mv rfl) ?_
  refine sgE rfl rfl (.k 3 rfl .n) (fun hgd => fldD Tryz.underlying45 rfl T3 (by decide) (Fld.fst Fld.refl) (isR rfl)) ?_
  refine sgE rfl rfl (.c 72 rfl (fun h => h) .n) (fun hgd => ldI T3 (isR rfl)) ?_
  refine sgE rfl rfl (.c 73 rfl (fun h => h) .n) (fun hgd => eql rfl rfl) ?_
  refine sgE rfl rfl (.c 74 rfl (fun h => h) .n) (fun hgd => mv rfl) ?_
  refine sgC rfl rfl (.k 2 rfl .n) (fun hgd => ldD T36 (isR rfl)) ?_
  refine sgC rfl rfl (.k 3 rfl .n) (fun hgd => fldD Tryz.underlying45 rfl T3 (by decide) (Fld.snd (Fld.snd (Fld.fst Fld.refl) rfl) rfl) (isR rfl)) ?_
  refine sgC rfl rfl (.c 77 rfl (fun h => h) .n) (fun hgd => ldI T3 (isR rfl)) ?_
  refine sgC rfl rfl (.c 76 rfl (fun h => h) (.c 78 rfl (fun h => h) .n)) (fun hgd => call2 En129 rfl rfl (fun v u w he h h' => hF _ v u w h h')) ?_
  refine sgC rfl rfl (.c 79 rfl (fun h => h) .n) (fun hgd => lss rfl rfl) ?_
  refine sgE rfl rfl (.c 75 rfl (fun h => h) (.k 80 rfl .n)) (fun hgd => pkAnd rfl rfl (fun h => by rw [hgd, h]; rfl)) ?_
  refine st (pkOr rfl rfl (fun h => by rw [h]; rfl)) ?_
  refine en fun a w e' hf => ?_
  replace e := Ext.tr e e'
  clear e'
  refine tl_nil ?_
  repeat refine seq ?_
  refine ifc hf rfl (fun hb => ?_) (fun hb => ?_)
  · repeat refine seq ?_
    refine regn0 ?_
    refine tl_as hf rfl (by decide) fun a hf => ?_
    refine tl_nil ?_
    refine wret ?_
    try simp only [Exit.then, Exit.inBlock]
    refine ret1 rfl hf rfl ?_
    rintro _ rfl
    exact ⟨_, rfl, e, (congrArg I (by rw [wrongR, if_neg (rneg h1), if_neg (rneg h2), if_neg (rneg h3), if_neg (rneg h4), if_pos hb]))⟩
  refine wskip ?_
  try simp only [Exit.then, Exit.inBlock, ↓reduceIte]
  replace hf := hf.keep [2, 3, 4]
  dsimp only [keep, List.filterMap, look, Nat.beq, Option.map] at hf
  have h5 := hb; clear hb
  repeat refine seq ?_
  refine regn 3 hf (by decide +kernel) ?_
  refine st (fldD Tryz.underlying45 rfl T3 (by decide) (Fld.fst Fld.refl) (isR rfl)) ?_
  refine st (ldI T3 (isR rfl)) ?_
  refine st (eql rfl rfl) ?_
  refine en fun a w e' hf => ?_
  replace e := Ext.tr e e'
  clear e'
  refine tl_nil ?_
  repeat refine seq ?_
  refine ifc hf rfl (fun hb => ?_) (fun hb => ?_)
  · have h6 := hb; clear hb
    repeat refine seq ?_
    refine regn 7 hf (by decide +kernel) ?_
    refine st (ldD T36 (isR rfl)) ?_
    refine st (fldD Tryz.underlying45 rfl T3 (by decide) (Fld.snd (Fld.fst Fld.refl) rfl) (isR rfl)) ?_
    refine st (ldI T3 (isR rfl)) ?_
    refine st (fldD Tryz.underlying45 rfl T3 (by decide) (Fld.snd (Fld.snd (Fld.fst Fld.refl) rfl) rfl) (isR rfl)) ?_
    refine st (ldI T3 (isR rfl)) ?_
    refine st (call3 En97 rfl rfl rfl (fun v u x w he h h' h'' => hE _ _ v u x w h h' h'')) ?_
    refine st (geq rfl rfl) ?_
    refine en fun a w e' hf => ?_
    replace e := Ext.tr e e'
    clear e'
    refine tl_nil ?_
    repeat refine seq ?_
    refine ifc hf rfl (fun hb => ?_) (fun hb => ?_)
    · repeat refine seq ?_
      refine regn0 ?_
      refine tl_as hf rfl (by decide) fun a hf => ?_
      refine tl_nil ?_
      refine wret ?_
      try simp only [Exit.then, Exit.inBlock]
      refine ret1 rfl hf rfl ?_
      rintro _ rfl
      exact ⟨_, rfl, e, (congrArg I (by rw [wrongR, if_neg (rneg h1), if_neg (rneg h2), if_neg (rneg h3), if_neg (rneg h4), if_neg (rneg h5), if_pos h6, if_pos hb]))⟩
    refine wskip ?_
    try simp only [Exit.then, Exit.inBlock, ↓reduceIte]
    have h7 := hb; clear hb
    replace hf := hf.keep [2, 3, 4]
    dsimp only [keep, List.filterMap, look, Nat.beq, Option.map] at hf
    repeat refine seq ?_
    refine regn 4 hf (by decide +kernel) ?_
    refine st (fldD Tryz.underlying36 rfl T34 (by decide) (Fld.snd Fld.refl rfl) (isR rfl)) ?_
    refine st (ldD T34 (isR rfl)) ?_
    refine st (lenD Tryz.underlying34 (isR rfl)) ?_
    refine st (geq rfl rfl) ?_
    refine en fun a w e' hf => ?_
    replace e := Ext.tr e e'
    clear e'
    refine tl_nil ?_
    repeat refine seq ?_
    refine ifc hf rfl (fun hb => ?_) (fun hb => ?_)
    · repeat refine seq ?_
      refine regn0 ?_
      refine tl_as hf rfl (by decide) fun a hf => ?_
      refine tl_nil ?_
      refine wret ?_
      try simp only [Exit.then, Exit.inBlock]
      refine ret1 rfl hf rfl ?_
      rintro _ rfl
      exact ⟨_, rfl, e, (congrArg I (by rw [wrongR, if_neg (rneg h1), if_neg (rneg h2), if_neg (rneg h3), if_neg (rneg h4), if_neg (rneg h5), if_pos h6, if_neg (rneg h7), if_pos hb]))⟩
    refine wskip ?_
    try simp only [Exit.then, Exit.inBlock, ↓reduceIte]
    repeat refine seq ?_
    refine regn0 ?_
    refine tl_as hf rfl (by decide) fun a hf => ?_
    refine tl_nil ?_
    refine wret ?_
    try simp only [Exit.then, Exit.inBlock]
    refine ret1 rfl hf rfl ?_
    rintro _ rfl
    exact ⟨_, rfl, e, (congrArg I (by rw [wrongR, if_neg (rneg h1), if_neg (rneg h2), if_neg (rneg h3), if_neg (rneg h4), if_neg (rneg h5), if_pos h6, if_neg (rneg h7), if_neg (rneg hb)]))⟩
  refine wskip ?_
  try simp only [Exit.then, Exit.inBlock, ↓reduceIte]
  replace hf := hf.keep [2, 3, 4]
  dsimp only [keep, List.filterMap, look, Nat.beq, Option.map] at hf
  have h6 := hb; clear hb
  repeat refine seq ?_
  refine regn 11 hf (by decide +kernel) ?_
  refine st (ldDt T45 (isR rfl)) ?_
  refine st (call1 En96 rfl (fun v w he h => hp v w (Ext.tr e he) h)) ?_
  refine st (mv rfl) ?_
  refine sgE rfl rfl (.k 2 rfl .n) (fun hgd => ldD T36 (isR rfl)) ?_
  refine sgE rfl rfl (.k 3 rfl .n) (fun hgd => fldD Tryz.underlying45 rfl T3 (by decide) (Fld.snd (Fld.fst Fld.refl) rfl) (isR rfl)) ?_
  refine sgE rfl rfl (.c 101 rfl (fun h => h) .n) (fun hgd => ldI T3 (isR rfl)) ?_
  refine sgE rfl rfl (.k 3 rfl .n) (fun hgd => fldD Tryz.underlying45 rfl T3 (by decide) (Fld.snd (Fld.snd (Fld.fst Fld.refl) rfl) rfl) (isR rfl)) ?_
  refine sgE rfl rfl (.c 103 rfl (fun h => h) .n) (fun hgd => ldI T3 (isR rfl)) ?_
  refine sgE rfl rfl (.c 100 rfl (fun h => h) (.c 102 rfl (fun h => h) (.c 104 rfl (fun h => h) .n))) (fun hgd => call3 En97 rfl rfl rfl (fun v u x w he h h' h'' => hE _ _ v u x w h h' h'')) ?_
  refine sgE rfl rfl (.c 105 rfl (fun h => h) .n) (fun hgd => lss rfl rfl) ?_
  refine st (pkAnd rfl rfl (fun h => by rw [h]; rfl)) ?_
  refine en fun a w e' hf => ?_
  replace e := Ext.tr e e'
  clear e'
  refine tl_nil ?_
  repeat refine seq ?_
  refine ifc hf rfl (fun hb => ?_) (fun hb => ?_)
  · repeat refine seq ?_
    refine regn0 ?_
    refine tl_as hf rfl (by decide) fun a hf => ?_
    refine tl_nil ?_
    refine wret ?_
    try simp only [Exit.then, Exit.inBlock]
    refine ret1 rfl hf rfl ?_
    rintro _ rfl
    exact ⟨_, rfl, e, (congrArg I (by rw [wrongR, if_neg (rneg h1), if_neg (rneg h2), if_neg (rneg h3), if_neg (rneg h4), if_neg (rneg h5), if_neg (rneg h6), if_pos hb]))⟩
  refine wskip ?_
  try simp only [Exit.then, Exit.inBlock, ↓reduceIte]
  repeat refine seq ?_
  refine regn0 ?_
  refine tl_as hf rfl (by decide) fun a hf => ?_
  refine tl_nil ?_
  refine wret ?_
  try simp only [Exit.then, Exit.inBlock]
  refine ret1 rfl hf rfl ?_
  rintro _ rfl
  exact ⟨_, rfl, e, (congrArg I (by rw [wrongR, if_neg (rneg h1), if_neg (rneg h2), if_neg (rneg h3), if_neg (rneg h4), if_neg (rneg h5), if_neg (rneg h6), if_neg (rneg hb)]))⟩
end Go.Mono

namespace Go.Mono
open Go Go.Proofs Go.RowKit Go.Gr
theorem bG_E (ao : Option Addr) (n c : Nat) : Tryz.prog.built 36 [(1, .slice ao n c)] = some #[.slice none 0 0, .slice ao n c] := by kernel_rfl
theorem bG_V (ao : Option Addr) (n c : Nat) : Tryz.prog.built 36 [(0, .slice ao n c)] = some #[.slice ao n c, .slice none 0 0] := by kernel_rfl
theorem slOne {α : Type} {e : Enc α} {G : Nat → Prop} {xs : List α} {v : Value} {w : World} (h : (Dv (slE e) G xs).p v w) : v.oneCell' = true := by
  obtain ⟨ao, n, c, rfl⟩ := Dv.slF h; rfl
theorem one2 {u v : Value} (h : u.oneCell' = true) (k : v.oneCell' = true) : (#[u, v] : Array Value).all (·.oneCell') = true := by simp [h, k]
theorem plus_spec {G : Nat → Prop} (g : GT) (x : VT) (v : Value) (W : World) (h : (Dv gtE G g).p v W) (hG : ∀ b, G b → b < W.heap.size) (hl : g.1.length ≤ 100000) :
    Calls Tryz.prog 94 #[v, vtV x] W (Post (Dv gtE G (insV g.1 x, g.2)) W) := by
  obtain ⟨u1, u2, rfl, h1, h2⟩ := Dv.gt.1 h
  obtain ⟨a2, n2, c2, rfl⟩ := Dv.slF h2
  have h1b := Dv.toB h1
  have hl2 := fun k => outW_len (fun y : VT => lt1 x.1 y.1) x g.1 k
  refine enter (args := [.agg #[u1, .slice a2 n2 c2], vtV x]) (As := [E (.agg #[u1, .slice a2 n2 c2]), E (vtV x)]) Tryz.func94 rfl Tryz.ntmps94 (Nat.le_of_ble_eq_true rfl) ?_ (fun a hf => ?_) (Nat.le_of_ble_eq_true rfl)
  rotate_left
  dsimp only [params, Nat.reduceAdd] at hf
  rotate_right
  · exact arg2 rfl rfl
  have e := Ext.rfl' W
  repeat refine seq ?_
  refine regn0 ?_
  refine tl_box hf rfl (by decide) fun a b2 w v2 hv2 e' hb2 hs2 B2 hf => ?_
  have hle2 := Nat.le_trans e.size (Nat.le_of_eq hb2.symm)
  replace e := Ext.tr e e'
  clear e'
  refine tl_box hf rfl (by decide) fun a b3 w v3 hv3 e' hb3 hs3 B3 hf => ?_
  have hle3 := Nat.le_trans e.size (Nat.le_of_eq hb3.symm)
  have lt3_B2 := B2.lt
  replace e := Ext.tr e e'
  replace B2 := B2.ext e'
  clear e'
  refine tl_alloc I36 hf (by decide) fun a b4 w e' hb4 hs4 B4 hf => ?_
  have hle4 := Nat.le_trans e.size (Nat.le_of_eq hb4.symm)
  have lt4_B2 := B2.lt
  have lt4_B3 := B3.lt
  replace e := Ext.tr e e'
  replace B2 := B2.ext e'
  replace B3 := B3.ext e'
  clear e'
  refine tl_nil ?_
  cases hv2; cases hv3
  repeat refine seq ?_
  refine regn 3 hf (by decide +kernel) ?_
  refine st (fldA Tryz.underlying36 rfl T34 (by decide) rfl) ?_
  refine st (ld1 T34 rfl (by assumption) rfl) ?_
  refine st (bldV [(1, _)] rfl (bG_E a2 n2 c2)) ?_
  refine en fun a w e' hf => ?_
  replace e := Ext.tr e e'
  replace B2 := B2.ext e'
  replace B3 := B3.ext e'
  replace B4 := B4.ext e'
  clear e'
  refine tl_alloc I36 hf (by decide) fun a b5 w e' hb5 hs5 B5 hf => ?_
  have hle5 := Nat.le_trans e.size (Nat.le_of_eq hb5.symm)
  have lt5_B2 := B2.lt
  have lt5_B3 := B3.lt
  have lt5_B4 := B4.lt
  replace e := Ext.tr e e'
  replace B2 := B2.ext e'
  replace B3 := B3.ext e'
  replace B4 := B4.ext e'
  clear e'
  haveI hinr : ∀ G0, InR (GB W G0) (some b5) := fun G0 => InR.gb (by omega)
  refine tl_stW T36 hf rfl rfl (one2 rfl rfl) B5 rfl (rfl) fun w hg hsz B5 hf => ?_
  replace e := e.gr hg (by omega)
  replace B2 := B2.gr hg (by omega)
  replace B3 := B3.gr hg (by omega)
  replace B4 := B4.gr hg (by omega)
  clear hg
  refine tl_nil ?_
  repeat refine seq ?_
  refine regn0 ?_
  refine tl_as hf rfl (by decide) fun a hf => ?_
  refine tl_nil ?_
  repeat refine seq ?_
  refine regn0 ?_
  refine tl_as hf rfl (by decide) fun a hf => ?_
  refine tl_nil ?_
  replace hf := hf.keep [2, 3, 4, 5, 6, 7]
  dsimp only [keep, List.filterMap, look, Nat.beq, Option.map] at hf
  repeat refine seq ?_
  refine blk (loopN (fun r0 a w => ∃ (k : Nat) (u : Value) (dn : Bool), r0 = g.1.length - k ∧ k ≤ g.1.length ∧ Fr 56 a w [(2, E (.pointer (some ⟨b2, 0, none⟩))), (3, E (.pointer (some ⟨b3, 0, none⟩))), (4, E (.pointer (some ⟨b4, 0, none⟩))), (5, E (.pointer (some ⟨b5, 0, none⟩))), (6, E (.bool dn)), (7, E (I k))] ∧ Ext W w ∧ Blk w b2 #[u1, .slice a2 n2 c2] 36 ∧ Blk w b3 (vtV x).cells 83 ∧ Blk w b4 #[.slice none 0 0, .slice none 0 0] 36 ∧ Blk w b5 #[u, .slice a2 n2 c2] 36 ∧ OwR vtE 83 (b5 + 1) G w (outW (fun y => lt1 x.1 y.1) x g.1 k) u ∧ dn = (g.1.take k).any (fun y => lt1 x.1 y.1)) g.1.length ⟨0, .slice none 0 0,  false, rfl, by omega, hf, e, ⟨B2, B3, B4, B5, OwR.nil vtE _ (by have := B5.lt; omega) fun b hb => Nat.lt_of_lt_of_le (hG b hb) (by omega), by simp⟩⟩ ?_)
  clear hf e; try clear B2; try clear B3; try clear B4; try clear B5; try clear Ho; try clear hdn
  rintro r0 a w ⟨k, u, dn, rfl, hk, hf, e, B2, B3, B4, B5, Ho, hdn⟩
  repeat refine seq ?_
  refine regn 5 hf (by decide +kernel) ?_
  refine st (mv rfl) ?_
  refine st (fldA Tryz.underlying36 rfl T33 (by decide) rfl) ?_
  refine st (ld1 T33 rfl (by assumption) rfl) ?_
  refine st (lenD Tryz.underlying33 (isE rfl (VA.st _ _ _ _ e h1))) ?_
  refine st (lss rfl rfl) ?_
  refine en fun a w e' hf => ?_
  replace e := Ext.tr e e'
  replace B2 := B2.ext e'
  replace B3 := B3.ext e'
  replace B4 := B4.ext e'
  replace B5 := B5.ext e'
  replace Ho := Ho.ext e'
  clear e'
  refine tl_nil ?_
  repeat refine seq ?_
  refine ifc hf rfl (fun hc => wskip ?_) (fun hc => wexit ?_)
  rotate_left
  rotate_left
  · have hlt : k < g.1.length := by have := of_decide_eq_true hc; (try dsimp only at this); omega
    clear hc
    replace hf := hf.keep [2, 3, 4, 5, 6, 7]
    dsimp only [keep, List.filterMap, look, Nat.beq, Option.map] at hf
    repeat refine seq ?_
    refine blk ?_
    have hg := List.getElem?_eq_getElem hlt
    generalize g.1[k] = y at hg
    have hs := outW_succ (fun y : VT => lt1 x.1 y.1) x g.1 hg
    have ha := any_succ (fun y : VT => lt1 x.1 y.1) g.1 hg
    have hlk := hl2 k
    have hlk' := hl2 (k + 1)
    repeat refine seq ?_
    refine reg 13 Mix.mix hf (by decide +kernel) ?_
    refine st (mv rfl) ?_
    refine st (notp rfl) ?_
    refine st (mv rfl) ?_
    refine sgE rfl rfl (.k 2 rfl .n) (fun hgd => fldA Tryz.underlying36 rfl T33 (by decide) rfl) ?_
    refine sgE rfl rfl (.c 21 rfl (fun h => h) .n) (fun hgd => ld1 T33 rfl B2 rfl) ?_
    refine sgE rfl rfl (.k 7 rfl .n) (fun hgd => mv rfl) ?_
    refine sgE rfl rfl (.c 22 rfl (fun h => h) (.c 23 rfl (fun h => h) .n)) (fun hgd => idxD Tryz.underlying33 S83 (isE rfl (VA.st _ _ _ _ e h1)) rfl rfl (hg)) ?_
    refine sgE rfl rfl (.c 24 rfl (fun h => h) .n) (fun hgd => fldD Tryz.underlying83 rfl T3 (by decide) (Fld.fst Fld.refl) (isR rfl)) ?_
    refine sgE rfl rfl (.c 25 rfl (fun h => h) .n) (fun hgd => ldI T3 (isR rfl)) ?_
    refine sgE rfl rfl (.k 3 rfl .n) (fun hgd => fldA Tryz.underlying83 rfl T3 (by decide) rfl) ?_
    refine sgE rfl rfl (.c 27 rfl (fun h => h) .n) (fun hgd => ld1 T3 rfl B3 rfl) ?_
    refine sgE rfl rfl (.c 26 rfl (fun h => h) (.c 28 rfl (fun h => h) .n)) (fun hgd => (gtr rfl rfl).eq (congrArg Value.bool ((rfl : _ = lt1 x.1 y.1)))) ?_
    refine st (pkAnd rfl rfl (fun h => by rw [h]; rfl)) ?_
    refine en fun a w e' hf => ?_
    replace Ho := Ho.ext e'
    replace e := Ext.tr e e'
    replace B2 := B2.ext e'
    replace B3 := B3.ext e'
    replace B4 := B4.ext e'
    replace B5 := B5.ext e'
    clear e'
    refine tl_nil ?_
    repeat refine seq ?_
    refine ifc hf rfl (fun hb => ?_) (fun hb => ?_)
    · replace hf := hf.keep [2, 3, 4, 5, 6, 7]
      dsimp only [keep, List.filterMap, look, Nat.beq, Option.map] at hf
      rw [← hdn, if_pos hb] at hs
      have hd : (g.1.take (k + 1)).any (fun y => lt1 x.1 y.1) = true := by rw [ha]; simp only [Bool.and_eq_true] at hb; rw [hb.2, Bool.or_true]
      have n2 := Ho.neLt (b := b2) (by omega); have n3 := Ho.neLt (b := b3) (by omega); have n4 := Ho.neLt (b := b4) (by omega); have n5 := Ho.neLt (b := b5) (by omega)
      repeat refine seq ?_
      refine regn 4 hf (by decide +kernel) ?_
      refine st (fldA Tryz.underlying36 rfl T33 (by decide) rfl) ?_
      refine st ((ld1 T33 rfl (by assumption) rfl).eq ((rfl : _ = u))) ?_
      refine st ((ldW T83 rfl (by assumption) rfl).eq ((rfl : _ = vtV x))) ?_
      refine st (bsl1 Tryz.underlying33 I83 rfl (by decide) rfl Ho.avs (isVt rfl)) ?_
      refine en fun a w e' hf => ?_
      replace Ho := Ho.ext e'
      replace e := Ext.tr e e'
      replace B2 := B2.ext e'
      replace B3 := B3.ext e'
      replace B4 := B4.ext e'
      replace B5 := B5.ext e'
      clear e'
      haveI hin : ∀ G0, InR (GB W G0) _ := OwR.inGB (W := W) Ho (by omega)
      refine tl_app Tryz.underlying33 I83 rfl rfl hf (by decide) rfl Ho (isR rfl) (by simp only [List.length_singleton]; omega) (by simp only [List.length_singleton, maxLen]; omega) fun a v w hg hat Hn hf => ?_
      replace e := e.gro hg (Ho.row (W := W) (by omega))
      have hrow := Ho.row (W := W) (by omega)
      replace Ho := Hn
      clear hrow
      replace B2 := B2.gro hg (by assumption)
      replace B3 := B3.gro hg (by assumption)
      replace B4 := B4.gro hg (by assumption)
      replace B5 := B5.gro hg (by assumption)
      replace Ho := Hn; clear Hn hg hat hin
      replace hf := hf.keep [2, 3, 4, 5, 7, 35]
      dsimp only [keep, List.filterMap, look, Nat.beq, Option.map] at hf
      clear n2 n3 n4 n5
      refine tl_op hf (by decide) (fldA Tryz.underlying36 rfl T33 (by decide) rfl) fun a w e' hf => ?_
      replace Ho := Ho.ext e'
      replace e := Ext.tr e e'
      replace B2 := B2.ext e'
      replace B3 := B3.ext e'
      replace B4 := B4.ext e'
      replace B5 := B5.ext e'
      clear e'
      refine tl_st1 T33 hf rfl rfl (slOne Ho.sl) B5 (by simp) fun w hg hsz B5 hf => ?_
      replace Ho := Ho.grE hg (Ho.neLt (by omega))
      replace e := e.gr hg (by omega)
      replace B2 := B2.gr hg (by omega)
      replace B3 := B3.gr hg (by omega)
      replace B4 := B4.gr hg (by omega)
      clear hg
      refine tl_nil ?_
      replace hf := hf.keep [2, 3, 4, 5, 7]
      dsimp only [keep, List.filterMap, look, Nat.beq, Option.map] at hf
      repeat refine seq ?_
      refine regn0 ?_
      refine tl_as hf rfl (by decide) fun a hf => ?_
      refine tl_nil ?_
      replace hf := hf.keep [2, 3, 4, 5, 6, 7]
      dsimp only [keep, List.filterMap, look, Nat.beq, Option.map] at hf
      have n2 := Ho.neLt (b := b2) (by omega); have n3 := Ho.neLt (b := b3) (by omega); have n4 := Ho.neLt (b := b4) (by omega); have n5 := Ho.neLt (b := b5) (by omega)
      repeat refine seq ?_
      refine reg 8 Mix.mix hf (by decide +kernel) ?_
      refine st (fldA Tryz.underlying36 rfl T33 (by decide) rfl) ?_
      refine st ((ld1 T33 rfl (by assumption) rfl).eq ((rfl : _ = v))) ?_
      refine st (fldA Tryz.underlying36 rfl T33 (by decide) rfl) ?_
      refine st (ld1 T33 rfl B2 rfl) ?_
      refine st (mv rfl) ?_
      refine st (idxD Tryz.underlying33 S83 (isE rfl (VA.st _ _ _ _ e h1b)) rfl (by omega) (hg)) ?_
      refine st (ldVt T83 (isR rfl)) ?_
      refine st (bsl1 Tryz.underlying33 I83 rfl (by decide) rfl Ho.avs (isVt rfl)) ?_
      refine en fun a w e' hf => ?_
      replace Ho := Ho.ext e'
      replace e := Ext.tr e e'
      replace B2 := B2.ext e'
      replace B3 := B3.ext e'
      replace B4 := B4.ext e'
      replace B5 := B5.ext e'
      clear e'
      haveI hin : ∀ G0, InR (GB W G0) _ := OwR.inGB (W := W) Ho (by omega)
      refine tl_app Tryz.underlying33 I83 rfl rfl hf (by decide) rfl Ho (isR rfl) (by simp only [List.length_singleton, List.length_append]; omega) (by simp only [List.length_singleton, List.length_append, maxLen]; omega) fun a v w hg hat Hn hf => ?_
      replace e := e.gro hg (Ho.row (W := W) (by omega))
      have hrow := Ho.row (W := W) (by omega)
      replace Ho := Hn
      clear hrow
      replace B2 := B2.gro hg (by assumption)
      replace B3 := B3.gro hg (by assumption)
      replace B4 := B4.gro hg (by assumption)
      replace B5 := B5.gro hg (by assumption)
      replace Ho := Hn; clear Hn hg hat hin
      replace hf := hf.keep [2, 3, 4, 5, 6, 7, 45]
      dsimp only [keep, List.filterMap, look, Nat.beq, Option.map] at hf
      clear n2 n3 n4 n5
      refine tl_op hf (by decide) (fldA Tryz.underlying36 rfl T33 (by decide) rfl) fun a w e' hf => ?_
      replace Ho := Ho.ext e'
      replace e := Ext.tr e e'
      replace B2 := B2.ext e'
      replace B3 := B3.ext e'
      replace B4 := B4.ext e'
      replace B5 := B5.ext e'
      clear e'
      refine tl_st1 T33 hf rfl rfl (slOne Ho.sl) B5 (by simp) fun w hg hsz B5 hf => ?_
      replace Ho := Ho.grE hg (Ho.neLt (by omega))
      replace e := e.gr hg (by omega)
      replace B2 := B2.gr hg (by omega)
      replace B3 := B3.gr hg (by omega)
      replace B4 := B4.gr hg (by omega)
      clear hg
      refine tl_nil ?_
      try simp only [Exit.then, Exit.inBlock, ↓reduceIte]
      repeat refine seq ?_
      refine regn 2 hf (by decide +kernel) ?_
      refine st (mv rfl) ?_
      refine st ((add rfl rfl (by omega)).eq (congrArg (Value.int .i64) (show (k : Int) + 1 = ((k + 1 : Nat) : Int) from rfl))) ?_
      refine en fun a w e' hf => ?_
      replace Ho := Ho.ext e'
      replace e := Ext.tr e e'
      replace B2 := B2.ext e'
      replace B3 := B3.ext e'
      replace B4 := B4.ext e'
      replace B5 := B5.ext e'
      clear e'
      refine tl_as hf rfl (by decide) fun a hf => ?_
      refine tl_nil ?_
      replace hf := hf.keep [2, 3, 4, 5, 6, 7]
      dsimp only [keep, List.filterMap, look, Nat.beq, Option.map] at hf
      refine ⟨_, ?_, k + 1, v, _, rfl, by omega, hf, e, ?_⟩
      · omega
      exact ⟨B2, B3, B4, B5, by rw [hs]; exact Ho, hd.symm⟩
    · replace hf := hf.keep [2, 3, 4, 5, 6, 7]
      dsimp only [keep, List.filterMap, look, Nat.beq, Option.map] at hf
      refine wskip ?_
      try simp only [Exit.then, Exit.inBlock, ↓reduceIte]
      rw [← hdn, if_neg (rneg hb)] at hs
      have hd : (g.1.take (k + 1)).any (fun y => lt1 x.1 y.1) = dn := by
        rw [ha, ← hdn]
        cases hq : dn
        · rw [hq] at hb; simpa using hb
        · rfl
      have n2 := Ho.neLt (b := b2) (by omega); have n3 := Ho.neLt (b := b3) (by omega); have n4 := Ho.neLt (b := b4) (by omega); have n5 := Ho.neLt (b := b5) (by omega)
      repeat refine seq ?_
      refine reg 8 Mix.mix hf (by decide +kernel) ?_
      refine st (fldA Tryz.underlying36 rfl T33 (by decide) rfl) ?_
      refine st ((ld1 T33 rfl (by assumption) rfl).eq ((rfl : _ = u))) ?_
      refine st (fldA Tryz.underlying36 rfl T33 (by decide) rfl) ?_
      refine st (ld1 T33 rfl B2 rfl) ?_
      refine st (mv rfl) ?_
      refine st (idxD Tryz.underlying33 S83 (isE rfl (VA.st _ _ _ _ e h1b)) rfl (by omega) (hg)) ?_
      refine st (ldVt T83 (isR rfl)) ?_
      refine st (bsl1 Tryz.underlying33 I83 rfl (by decide) rfl Ho.avs (isVt rfl)) ?_
      refine en fun a w e' hf => ?_
      replace Ho := Ho.ext e'
      replace e := Ext.tr e e'
      replace B2 := B2.ext e'
      replace B3 := B3.ext e'
      replace B4 := B4.ext e'
      replace B5 := B5.ext e'
      clear e'
      haveI hin : ∀ G0, InR (GB W G0) _ := OwR.inGB (W := W) Ho (by omega)
      refine tl_app Tryz.underlying33 I83 rfl rfl hf (by decide) rfl Ho (isR rfl) (by simp only [List.length_singleton, List.length_append]; omega) (by simp only [List.length_singleton, List.length_append, maxLen]; omega) fun a v w hg hat Hn hf => ?_
      replace e := e.gro hg (Ho.row (W := W) (by omega))
      have hrow := Ho.row (W := W) (by omega)
      replace Ho := Hn
      clear hrow
      replace B2 := B2.gro hg (by assumption)
      replace B3 := B3.gro hg (by assumption)
      replace B4 := B4.gro hg (by assumption)
      replace B5 := B5.gro hg (by assumption)
      replace Ho := Hn; clear Hn hg hat hin
      replace hf := hf.keep [2, 3, 4, 5, 6, 7, 45]
      dsimp only [keep, List.filterMap, look, Nat.beq, Option.map] at hf
      clear n2 n3 n4 n5
      refine tl_op hf (by decide) (fldA Tryz.underlying36 rfl T33 (by decide) rfl) fun a w e' hf => ?_
      replace Ho := Ho.ext e'
      replace e := Ext.tr e e'
      replace B2 := B2.ext e'
      replace B3 := B3.ext e'
      replace B4 := B4.ext e'
      replace B5 := B5.ext e'
      clear e'
      refine tl_st1 T33 hf rfl rfl (slOne Ho.sl) B5 (by simp) fun w hg hsz B5 hf => ?_
      replace Ho := Ho.grE hg (Ho.neLt (by omega))
      replace e := e.gr hg (by omega)
      replace B2 := B2.gr hg (by omega)
      replace B3 := B3.gr hg (by omega)
      replace B4 := B4.gr hg (by omega)
      clear hg
      refine tl_nil ?_
      try simp only [Exit.then, Exit.inBlock, ↓reduceIte]
      repeat refine seq ?_
      refine regn 2 hf (by decide +kernel) ?_
      refine st (mv rfl) ?_
      refine st ((add rfl rfl (by omega)).eq (congrArg (Value.int .i64) (show (k : Int) + 1 = ((k + 1 : Nat) : Int) from rfl))) ?_
      refine en fun a w e' hf => ?_
      replace Ho := Ho.ext e'
      replace e := Ext.tr e e'
      replace B2 := B2.ext e'
      replace B3 := B3.ext e'
      replace B4 := B4.ext e'
      replace B5 := B5.ext e'
      clear e'
      refine tl_as hf rfl (by decide) fun a hf => ?_
      refine tl_nil ?_
      replace hf := hf.keep [2, 3, 4, 5, 6, 7]
      dsimp only [keep, List.filterMap, look, Nat.beq, Option.map] at hf
      refine ⟨_, ?_, k + 1, v, _, rfl, by omega, hf, e, ?_⟩
      · omega
      exact ⟨B2, B3, B4, B5, by rw [hs]; exact Ho, hd.symm⟩
  · obtain rfl : k = g.1.length := by have := of_decide_eq_false hc; (try dsimp only at this); omega
    clear hc
    simp only [Exit.then, Exit.inBlock, ↓reduceIte]
    rw [List.take_length] at hdn
    have hend := outW_end (fun y : VT => lt1 x.1 y.1) x g.1
    rw [← hdn] at hend
    have fin : ∀ (w : World) (z : Value) (L : List VT), Ext W w → OwR vtE 83 (b5 + 1) G w L z → L = insW (fun y => lt1 x.1 y.1) x g.1 → (Dv gtE G (insV g.1 x, g.2)).p (.agg #[z, .slice a2 n2 c2]) w := fun w z L e Ho hL => Dv.gt.2 ⟨_, _, rfl, by rw [insV, ← hL]; exact Ho.sl, VA.st _ _ _ _ e h2⟩
    repeat refine seq ?_
    refine regn 2 hf (by decide +kernel) ?_
    refine st (mv rfl) ?_
    refine st (notp rfl) ?_
    refine en fun a w e' hf => ?_
    replace Ho := Ho.ext e'
    replace e := Ext.tr e e'
    replace B2 := B2.ext e'
    replace B3 := B3.ext e'
    replace B4 := B4.ext e'
    replace B5 := B5.ext e'
    clear e'
    refine tl_nil ?_
    repeat refine seq ?_
    refine ifc hf rfl (fun hb => ?_) (fun hb => ?_)
    · have hd : dn = false := by simpa using hb
      rw [hd, if_neg (by decide)] at hend
      have n2 := Ho.neLt (b := b2) (by omega); have n3 := Ho.neLt (b := b3) (by omega); have n4 := Ho.neLt (b := b4) (by omega); have n5 := Ho.neLt (b := b5) (by omega)
      have hlk := hl2 g.1.length
      repeat refine seq ?_
      refine regn 4 hf (by decide +kernel) ?_
      refine st (fldA Tryz.underlying36 rfl T33 (by decide) rfl) ?_
      refine st ((ld1 T33 rfl (by assumption) rfl).eq ((rfl : _ = u))) ?_
      refine st ((ldW T83 rfl (by assumption) rfl).eq ((rfl : _ = vtV x))) ?_
      refine st (bsl1 Tryz.underlying33 I83 rfl (by decide) rfl Ho.avs (isVt rfl)) ?_
      refine en fun a w e' hf => ?_
      replace Ho := Ho.ext e'
      replace e := Ext.tr e e'
      replace B2 := B2.ext e'
      replace B3 := B3.ext e'
      replace B4 := B4.ext e'
      replace B5 := B5.ext e'
      clear e'
      haveI hin : ∀ G0, InR (GB W G0) _ := OwR.inGB (W := W) Ho (by omega)
      refine tl_app Tryz.underlying33 I83 rfl rfl hf (by decide) rfl Ho (isR rfl) (by simp only [List.length_singleton]; omega) (by simp only [List.length_singleton, maxLen]; omega) fun a v w hg hat Hn hf => ?_
      replace e := e.gro hg (Ho.row (W := W) (by omega))
      have hrow := Ho.row (W := W) (by omega)
      replace Ho := Hn
      clear hrow
      replace B2 := B2.gro hg (by assumption)
      replace B3 := B3.gro hg (by assumption)
      replace B4 := B4.gro hg (by assumption)
      replace B5 := B5.gro hg (by assumption)
      replace Ho := Hn; clear Hn hg hat hin
      replace hf := hf.keep [2, 3, 4, 5, 7, 53]
      dsimp only [keep, List.filterMap, look, Nat.beq, Option.map] at hf
      clear n2 n3 n4 n5
      refine tl_op hf (by decide) (fldA Tryz.underlying36 rfl T33 (by decide) rfl) fun a w e' hf => ?_
      replace Ho := Ho.ext e'
      replace e := Ext.tr e e'
      replace B2 := B2.ext e'
      replace B3 := B3.ext e'
      replace B4 := B4.ext e'
      replace B5 := B5.ext e'
      clear e'
      refine tl_st1 T33 hf rfl rfl (slOne Ho.sl) B5 (by simp) fun w hg hsz B5 hf => ?_
      replace Ho := Ho.grE hg (Ho.neLt (by omega))
      replace e := e.gr hg (by omega)
      replace B2 := B2.gr hg (by omega)
      replace B3 := B3.gr hg (by omega)
      replace B4 := B4.gr hg (by omega)
      clear hg
      refine tl_nil ?_
      replace hf := hf.keep [2, 3, 4, 5, 7]
      dsimp only [keep, List.filterMap, look, Nat.beq, Option.map] at hf
      repeat refine seq ?_
      refine regn 1 hf (by decide +kernel) ?_
      refine st ((ldW T36 rfl (by assumption) rfl).eq ((rfl : _ = Value.agg #[v, .slice a2 n2 c2]))) ?_
      refine en fun a w e' hf => ?_
      replace Ho := Ho.ext e'
      replace e := Ext.tr e e'
      replace B2 := B2.ext e'
      replace B3 := B3.ext e'
      replace B4 := B4.ext e'
      replace B5 := B5.ext e'
      clear e'
      haveI hinr : ∀ G0, InR (GB W G0) (some b4) := fun G0 => InR.gb (by omega)
      refine tl_stW T36 hf rfl rfl (one2 (slOne Ho.sl) rfl) B4 rfl (rfl) fun w hg hsz B4 hf => ?_
      replace Ho := Ho.grE hg (Ho.neLt (by omega))
      replace e := e.gr hg (by omega)
      replace B2 := B2.gr hg (by omega)
      replace B3 := B3.gr hg (by omega)
      replace B5 := B5.gr hg (by omega)
      clear hg
      refine tl_nil ?_
      refine wret (retc rfl T36 hf rfl B4 rfl ?_)
      exact ⟨_, rfl, e, fin _ _ _ e Ho hend⟩
    · have hd : dn = true := by simpa using hb
      rw [hd, if_pos rfl] at hend
      refine wskip ?_
      try simp only [Exit.then, Exit.inBlock, ↓reduceIte]
      replace hf := hf.keep [2, 3, 4, 5, 7]
      dsimp only [keep, List.filterMap, look, Nat.beq, Option.map] at hf
      repeat refine seq ?_
      refine regn 1 hf (by decide +kernel) ?_
      refine st ((ldW T36 rfl (by assumption) rfl).eq ((rfl : _ = Value.agg #[u, .slice a2 n2 c2]))) ?_
      refine en fun a w e' hf => ?_
      replace Ho := Ho.ext e'
      replace e := Ext.tr e e'
      replace B2 := B2.ext e'
      replace B3 := B3.ext e'
      replace B4 := B4.ext e'
      replace B5 := B5.ext e'
      clear e'
      haveI hinr : ∀ G0, InR (GB W G0) (some b4) := fun G0 => InR.gb (by omega)
      refine tl_stW T36 hf rfl rfl (one2 (slOne Ho.sl) rfl) B4 rfl (rfl) fun w hg hsz B4 hf => ?_
      replace Ho := Ho.grE hg (Ho.neLt (by omega))
      replace e := e.gr hg (by omega)
      replace B2 := B2.gr hg (by omega)
      replace B3 := B3.gr hg (by omega)
      replace B5 := B5.gr hg (by omega)
      clear hg
      refine tl_nil ?_
      refine wret (retc rfl T36 hf rfl B4 rfl ?_)
      exact ⟨_, rfl, e, fin _ _ _ e Ho hend⟩
end Go.Mono

namespace Go.Mono
open Go Go.Proofs Go.RowKit Go.Gr
theorem joined_spec {G : Nat → Prop} (g : GT) (x : ET) (v : Value) (W : World) (h : (Dv gtE G g).p v W) (hG : ∀ b, G b → b < W.heap.size) (hl : g.2.length ≤ 100000) :
    Calls Tryz.prog 95 #[v, etV x] W (Post (Dv gtE G (g.1, insE g.2 x)) W) := by
  obtain ⟨u1, u2, rfl, h1, h2⟩ := Dv.gt.1 h
  obtain ⟨a2, n2, c2, rfl⟩ := Dv.slF h1
  have h1b := Dv.toB h2
  have hl2 := fun k => outW_len (fun y : ET => lt2 x.1 y.1) x g.2 k
  refine enter (args := [.agg #[.slice a2 n2 c2, u2], etV x]) (As := [E (.agg #[.slice a2 n2 c2, u2]), E (etV x)]) Tryz.func95 rfl Tryz.ntmps95 (Nat.le_of_ble_eq_true rfl) ?_ (fun a hf => ?_) (Nat.le_of_ble_eq_true rfl)
  rotate_left
  dsimp only [params, Nat.reduceAdd] at hf
  rotate_right
  · exact arg2 rfl rfl
  have e := Ext.rfl' W
  repeat refine seq ?_
  refine regn0 ?_
  refine tl_box hf rfl (by decide) fun a b2 w v2 hv2 e' hb2 hs2 B2 hf => ?_
  have hle2 := Nat.le_trans e.size (Nat.le_of_eq hb2.symm)
  replace e := Ext.tr e e'
  clear e'
  refine tl_box hf rfl (by decide) fun a b3 w v3 hv3 e' hb3 hs3 B3 hf => ?_
  have hle3 := Nat.le_trans e.size (Nat.le_of_eq hb3.symm)
  have lt3_B2 := B2.lt
  replace e := Ext.tr e e'
  replace B2 := B2.ext e'
  clear e'
  refine tl_alloc I36 hf (by decide) fun a b4 w e' hb4 hs4 B4 hf => ?_
  have hle4 := Nat.le_trans e.size (Nat.le_of_eq hb4.symm)
  have lt4_B2 := B2.lt
  have lt4_B3 := B3.lt
  replace e := Ext.tr e e'
  replace B2 := B2.ext e'
  replace B3 := B3.ext e'
  clear e'
  refine tl_nil ?_
  cases hv2; cases hv3
  repeat refine seq ?_
  refine regn 3 hf (by decide +kernel) ?_
  refine st (fldA Tryz.underlying36 rfl T33 (by decide) rfl) ?_
  refine st (ld1 T33 rfl (by assumption) rfl) ?_
  refine st (bldV [(0, _)] rfl (bG_V a2 n2 c2)) ?_
  refine en fun a w e' hf => ?_
  replace e := Ext.tr e e'
  replace B2 := B2.ext e'
  replace B3 := B3.ext e'
  replace B4 := B4.ext e'
  clear e'
  refine tl_alloc I36 hf (by decide) fun a b5 w e' hb5 hs5 B5 hf => ?_
  have hle5 := Nat.le_trans e.size (Nat.le_of_eq hb5.symm)
  have lt5_B2 := B2.lt
  have lt5_B3 := B3.lt
  have lt5_B4 := B4.lt
  replace e := Ext.tr e e'
  replace B2 := B2.ext e'
  replace B3 := B3.ext e'
  replace B4 := B4.ext e'
  clear e'
  haveI hinr : ∀ G0, InR (GB W G0) (some b5) := fun G0 => InR.gb (by omega)
  refine tl_stW T36 hf rfl rfl (one2 rfl rfl) B5 rfl (rfl) fun w hg hsz B5 hf => ?_
  replace e := e.gr hg (by omega)
  replace B2 := B2.gr hg (by omega)
  replace B3 := B3.gr hg (by omega)
  replace B4 := B4.gr hg (by omega)
  clear hg
  refine tl_nil ?_
  repeat refine seq ?_
  refine regn0 ?_
  refine tl_as hf rfl (by decide) fun a hf => ?_
  refine tl_nil ?_
  repeat refine seq ?_
  refine regn0 ?_
  refine tl_as hf rfl (by decide) fun a hf => ?_
  refine tl_nil ?_
  replace hf := hf.keep [2, 3, 4, 5, 6, 7]
  dsimp only [keep, List.filterMap, look, Nat.beq, Option.map] at hf
  repeat refine seq ?_
  refine blk (loopN (fun r0 a w => ∃ (k : Nat) (u : Value) (dn : Bool), r0 = g.2.length - k ∧ k ≤ g.2.length ∧ Fr 68 a w [(2, E (.pointer (some ⟨b2, 0, none⟩))), (3, E (.pointer (some ⟨b3, 0, none⟩))), (4, E (.pointer (some ⟨b4, 0, none⟩))), (5, E (.pointer (some ⟨b5, 0, none⟩))), (6, E (.bool dn)), (7, E (I k))] ∧ Ext W w ∧ Blk w b2 #[.slice a2 n2 c2, u2] 36 ∧ Blk w b3 (etV x).cells 86 ∧ Blk w b4 #[.slice none 0 0, .slice none 0 0] 36 ∧ Blk w b5 #[.slice a2 n2 c2, u] 36 ∧ OwR etE 86 (b5 + 1) G w (outW (fun y => lt2 x.1 y.1) x g.2 k) u ∧ dn = (g.2.take k).any (fun y => lt2 x.1 y.1)) g.2.length ⟨0, .slice none 0 0,  false, rfl, by omega, hf, e, ⟨B2, B3, B4, B5, OwR.nil etE _ (by have := B5.lt; omega) fun b hb => Nat.lt_of_lt_of_le (hG b hb) (by omega), by simp⟩⟩ ?_)
  clear hf e; try clear B2; try clear B3; try clear B4; try clear B5; try clear Ho; try clear hdn
  rintro r0 a w ⟨k, u, dn, rfl, hk, hf, e, B2, B3, B4, B5, Ho, hdn⟩
  repeat refine seq ?_
  refine regn 5 hf (by decide +kernel) ?_
  refine st (mv rfl) ?_
  refine st (fldA Tryz.underlying36 rfl T34 (by decide) rfl) ?_
  refine st (ld1 T34 rfl (by assumption) rfl) ?_
  refine st (lenD Tryz.underlying34 (isE rfl (VA.st _ _ _ _ e h2))) ?_
  refine st (lss rfl rfl) ?_
  refine en fun a w e' hf => ?_
  replace e := Ext.tr e e'
  replace B2 := B2.ext e'
  replace B3 := B3.ext e'
  replace B4 := B4.ext e'
  replace B5 := B5.ext e'
  replace Ho := Ho.ext e'
  clear e'
  refine tl_nil ?_
  repeat refine seq ?_
  refine ifc hf rfl (fun hc => wskip ?_) (fun hc => wexit ?_)
  rotate_left
  rotate_left
  · have hlt : k < g.2.length := by have := of_decide_eq_true hc; (try dsimp only at this); omega
    clear hc
    replace hf := hf.keep [2, 3, 4, 5, 6, 7]
    dsimp only [keep, List.filterMap, look, Nat.beq, Option.map] at hf
    repeat refine seq ?_
    refine blk ?_
    have hg := List.getElem?_eq_getElem hlt
    generalize g.2[k] = y at hg
    have hs := outW_succ (fun y : ET => lt2 x.1 y.1) x g.2 hg
    have ha := any_succ (fun y : ET => lt2 x.1 y.1) g.2 hg
    have hlk := hl2 k
    have hlk' := hl2 (k + 1)
    repeat refine seq ?_
    refine regn0 ?_
    refine tl_op hf (by decide) (fldA Tryz.underlying36 rfl T34 (by decide) rfl) fun a w e' hf => ?_
    replace Ho := Ho.ext e'
    replace e := Ext.tr e e'
    replace B2 := B2.ext e'
    replace B3 := B3.ext e'
    replace B4 := B4.ext e'
    replace B5 := B5.ext e'
    clear e'
    refine tl_op hf (by decide) (ld1 T34 rfl B2 rfl) fun a w e' hf => ?_
    replace Ho := Ho.ext e'
    replace e := Ext.tr e e'
    replace B2 := B2.ext e'
    replace B3 := B3.ext e'
    replace B4 := B4.ext e'
    replace B5 := B5.ext e'
    clear e'
    refine tl_op hf (by decide) (mv rfl) fun a w e' hf => ?_
    replace Ho := Ho.ext e'
    replace e := Ext.tr e e'
    replace B2 := B2.ext e'
    replace B3 := B3.ext e'
    replace B4 := B4.ext e'
    replace B5 := B5.ext e'
    clear e'
    refine tl_op hf (by decide) (idxD Tryz.underlying34 S86 (isE rfl (VA.st _ _ _ _ e h1b)) rfl (by omega) (hg)) fun a w e' hf => ?_
    replace Ho := Ho.ext e'
    replace e := Ext.tr e e'
    replace B2 := B2.ext e'
    replace B3 := B3.ext e'
    replace B4 := B4.ext e'
    replace B5 := B5.ext e'
    clear e'
    refine tl_op hf (by decide) (ldEt T86 (isR rfl)) fun a w e' hf => ?_
    replace Ho := Ho.ext e'
    replace e := Ext.tr e e'
    replace B2 := B2.ext e'
    replace B3 := B3.ext e'
    replace B4 := B4.ext e'
    replace B5 := B5.ext e'
    clear e'
    refine tl_alloc I86 hf (by decide) fun a b8 w e' hb8 hs8 B8 hf => ?_
    have hle8 := Nat.le_trans e.size (Nat.le_of_eq hb8.symm)
    have ne8_Ho := Ho.ne_new hb8
    have lt8_B2 := B2.lt
    have lt8_B3 := B3.lt
    have lt8_B4 := B4.lt
    have lt8_B5 := B5.lt
    replace Ho := Ho.ext e'
    replace e := Ext.tr e e'
    replace B2 := B2.ext e'
    replace B3 := B3.ext e'
    replace B4 := B4.ext e'
    replace B5 := B5.ext e'
    clear e'
    have n8 := ne8_Ho
    replace hf := hf.keep [2, 3, 4, 5, 6, 7, 8, 23]
    dsimp only [keep, List.filterMap, look, Nat.beq, Option.map] at hf
    refine tl_stW T86 hf rfl rfl (by simp [Array.all_eq_true_iff_forall_mem]; exact ⟨rfl, rfl, rfl, rfl⟩) B8 rfl rfl fun w hg' hsz B8 hf => ?_
    replace e := e.gr hg' (by omega); replace B2 := B2.gr hg' (by omega); replace B3 := B3.gr hg' (by omega); replace B4 := B4.gr hg' (by omega); replace B5 := B5.gr hg' (by omega); replace Ho := Ho.grE hg' n8; clear hg'
    refine tl_nil ?_
    have hll : lt2 x.1 y.1 = (decide (x.1.1 < y.1.1) || (y.1.1 == x.1.1 && decide (x.1.2 < y.1.2))) := by
      rw [Bool.eq_iff_iff]; simp only [lt2, decide_eq_true_eq, Bool.or_eq_true, Bool.and_eq_true, beq_iff_eq]; omega
    replace hf := hf.keep [2, 3, 4, 5, 6, 7, 8]
    dsimp only [keep, List.filterMap, look, Nat.beq, Option.map] at hf
    repeat refine seq ?_
    refine regn 23 hf (by decide +kernel) ?_
    refine st (mv rfl) ?_
    refine st (notp rfl) ?_
    refine st (mv rfl) ?_
    refine sgE rfl rfl (.k 8 rfl .n) (fun hgd => fldA Tryz.underlying86 rfl T3 (by decide) rfl) ?_
    refine sgE rfl rfl (.c 27 rfl (fun h => h) .n) (fun hgd => ld1 T3 rfl B8 rfl) ?_
    refine sgE rfl rfl (.k 3 rfl .n) (fun hgd => fldA Tryz.underlying86 rfl T3 (by decide) rfl) ?_
    refine sgE rfl rfl (.c 29 rfl (fun h => h) .n) (fun hgd => ld1 T3 rfl B3 rfl) ?_
    refine sgE rfl rfl (.c 28 rfl (fun h => h) (.c 30 rfl (fun h => h) .n)) (fun hgd => gtr rfl rfl) ?_
    refine sgE rfl rfl (.c 31 rfl (fun h => h) .n) (fun hgd => mv rfl) ?_
    refine sgC rfl rfl (.k 8 rfl .n) (fun hgd => fldA Tryz.underlying86 rfl T3 (by decide) rfl) ?_
    refine sgC rfl rfl (.c 33 rfl (fun h => h) .n) (fun hgd => ld1 T3 rfl B8 rfl) ?_
    refine sgC rfl rfl (.k 3 rfl .n) (fun hgd => fldA Tryz.underlying86 rfl T3 (by decide) rfl) ?_
    refine sgC rfl rfl (.c 35 rfl (fun h => h) .n) (fun hgd => ld1 T3 rfl B3 rfl) ?_
    refine sgC rfl rfl (.c 34 rfl (fun h => h) (.c 36 rfl (fun h => h) .n)) (fun hgd => eql rfl rfl) ?_
    refine sgC rfl rfl (.c 37 rfl (fun h => h) .n) (fun hgd => mv rfl) ?_
    refine sgC rfl rfl (.k 8 rfl .n) (fun hgd => fldA Tryz.underlying86 rfl T3 (by decide) rfl) ?_
    refine sgC rfl rfl (.c 39 rfl (fun h => h) .n) (fun hgd => ld1 T3 rfl B8 rfl) ?_
    refine sgC rfl rfl (.k 3 rfl .n) (fun hgd => fldA Tryz.underlying86 rfl T3 (by decide) rfl) ?_
    refine sgC rfl rfl (.c 41 rfl (fun h => h) .n) (fun hgd => ld1 T3 rfl B3 rfl) ?_
    refine sgC rfl rfl (.c 40 rfl (fun h => h) (.c 42 rfl (fun h => h) .n)) (fun hgd => gtr rfl rfl) ?_
    refine sgC rfl rfl (.c 38 rfl (fun h => h) (.k 43 rfl .n)) (fun hgd => pkAnd rfl rfl (fun h => by rw [hgd, h]; rfl)) ?_
    refine sgE rfl rfl (.c 32 rfl (fun h => h) (.k 44 rfl .n)) (fun hgd => pkOr rfl rfl (fun h => by rw [hgd, h]; rfl)) ?_
    refine st (pkAnd rfl rfl (fun h => by rw [h]; rfl)) ?_
    refine en fun a w e' hf => ?_
    replace Ho := Ho.ext e'
    replace e := Ext.tr e e'
    replace B2 := B2.ext e'
    replace B3 := B3.ext e'
    replace B4 := B4.ext e'
    replace B5 := B5.ext e'
    replace B8 := B8.ext e'
    clear e'
    refine tl_nil ?_
    repeat refine seq ?_
    refine ifc hf rfl (fun hb => ?_) (fun hb => ?_)
    · replace hf := hf.keep [2, 3, 4, 5, 6, 7, 8]
      dsimp only [keep, List.filterMap, look, Nat.beq, Option.map] at hf
      rw [← hll] at hb
      rw [← hdn, if_pos hb] at hs
      have hd : (g.2.take (k + 1)).any (fun y => lt2 x.1 y.1) = true := by rw [ha]; simp only [Bool.and_eq_true] at hb; rw [hb.2, Bool.or_true]
      have n2 := Ho.neLt (b := b2) (by omega); have n3 := Ho.neLt (b := b3) (by omega); have n4 := Ho.neLt (b := b4) (by omega); have n5 := Ho.neLt (b := b5) (by omega)
      repeat refine seq ?_
      refine regn 4 hf (by decide +kernel) ?_
      refine st (fldA Tryz.underlying36 rfl T34 (by decide) rfl) ?_
      refine st ((ld1 T34 rfl (by assumption) rfl).eq ((rfl : _ = u))) ?_
      refine st ((ldW T86 rfl B3 rfl).eq ((rfl : _ = etV x))) ?_
      refine st (bsl1 Tryz.underlying34 I86 rfl (by decide) rfl Ho.avs (isEt rfl)) ?_
      refine en fun a w e' hf => ?_
      replace Ho := Ho.ext e'
      replace e := Ext.tr e e'
      replace B2 := B2.ext e'
      replace B3 := B3.ext e'
      replace B4 := B4.ext e'
      replace B5 := B5.ext e'
      replace B8 := B8.ext e'
      clear e'
      haveI hin : ∀ G0, InR (GB W G0) _ := OwR.inGB (W := W) Ho (by omega)
      refine tl_app Tryz.underlying34 I86 rfl rfl hf (by decide) rfl Ho (isR rfl) (by simp only [List.length_singleton]; omega) (by simp only [List.length_singleton, maxLen]; omega) fun a v w hg hat Hn hf => ?_
      replace e := e.gro hg (Ho.row (W := W) (by omega))
      have hrow := Ho.row (W := W) (by omega)
      replace Ho := Hn
      clear hrow
      have n8' := own_ne hat n8 B8.lt
      replace B2 := B2.gro hg (by assumption)
      replace B3 := B3.gro hg (by assumption)
      replace B4 := B4.gro hg (by assumption)
      replace B5 := B5.gro hg (by assumption)
      replace B8 := B8.gro hg (by assumption)
      replace n8 := n8'; clear n8'
      replace Ho := Hn; clear Hn hg hat hin
      replace hf := hf.keep [2, 3, 4, 5, 7, 8, 51]
      dsimp only [keep, List.filterMap, look, Nat.beq, Option.map] at hf
      clear n2 n3 n4 n5
      refine tl_op hf (by decide) (fldA Tryz.underlying36 rfl T34 (by decide) rfl) fun a w e' hf => ?_
      replace Ho := Ho.ext e'
      replace e := Ext.tr e e'
      replace B2 := B2.ext e'
      replace B3 := B3.ext e'
      replace B4 := B4.ext e'
      replace B5 := B5.ext e'
      replace B8 := B8.ext e'
      clear e'
      refine tl_st1 T34 hf rfl rfl (slOne Ho.sl) B5 (by simp) fun w hg hsz B5 hf => ?_
      replace Ho := Ho.grE hg (Ho.neLt (by omega))
      replace e := e.gr hg (by omega)
      replace B2 := B2.gr hg (by omega)
      replace B3 := B3.gr hg (by omega)
      replace B4 := B4.gr hg (by omega)
      replace B8 := B8.gr hg (by omega)
      clear hg
      refine tl_nil ?_
      replace hf := hf.keep [2, 3, 4, 5, 7, 8]
      dsimp only [keep, List.filterMap, look, Nat.beq, Option.map] at hf
      repeat refine seq ?_
      refine regn0 ?_
      refine tl_as hf rfl (by decide) fun a hf => ?_
      refine tl_nil ?_
      replace hf := hf.keep [2, 3, 4, 5, 6, 7, 8]
      dsimp only [keep, List.filterMap, look, Nat.beq, Option.map] at hf
      have n2 := Ho.neLt (b := b2) (by omega); have n3 := Ho.neLt (b := b3) (by omega); have n4 := Ho.neLt (b := b4) (by omega); have n5 := Ho.neLt (b := b5) (by omega)
      repeat refine seq ?_
      refine regn 4 hf (by decide +kernel) ?_
      refine st (fldA Tryz.underlying36 rfl T34 (by decide) rfl) ?_
      refine st ((ld1 T34 rfl (by assumption) rfl).eq ((rfl : _ = v))) ?_
      refine st ((ldW T86 rfl B8 rfl).eq ((rfl : _ = etV y))) ?_
      refine st (bsl1 Tryz.underlying34 I86 rfl (by decide) rfl Ho.avs (isEt rfl)) ?_
      refine en fun a w e' hf => ?_
      replace Ho := Ho.ext e'
      replace e := Ext.tr e e'
      replace B2 := B2.ext e'
      replace B3 := B3.ext e'
      replace B4 := B4.ext e'
      replace B5 := B5.ext e'
      replace B8 := B8.ext e'
      clear e'
      haveI hin : ∀ G0, InR (GB W G0) _ := OwR.inGB (W := W) Ho (by omega)
      refine tl_app Tryz.underlying34 I86 rfl rfl hf (by decide) rfl Ho (isR rfl) (by simp only [List.length_singleton, List.length_append]; omega) (by simp only [List.length_singleton, List.length_append, maxLen]; omega) fun a v w hg hat Hn hf => ?_
      replace e := e.gro hg (Ho.row (W := W) (by omega))
      have hrow := Ho.row (W := W) (by omega)
      replace Ho := Hn
      clear hrow
      replace B2 := B2.gro hg (by assumption)
      replace B3 := B3.gro hg (by assumption)
      replace B4 := B4.gro hg (by assumption)
      replace B5 := B5.gro hg (by assumption)
      replace B8 := B8.gro hg (by assumption)
      replace Ho := Hn; clear Hn hg hat hin
      replace hf := hf.keep [2, 3, 4, 5, 6, 7, 57]
      dsimp only [keep, List.filterMap, look, Nat.beq, Option.map] at hf
      clear n2 n3 n4 n5
      refine tl_op hf (by decide) (fldA Tryz.underlying36 rfl T34 (by decide) rfl) fun a w e' hf => ?_
      replace Ho := Ho.ext e'
      replace e := Ext.tr e e'
      replace B2 := B2.ext e'
      replace B3 := B3.ext e'
      replace B4 := B4.ext e'
      replace B5 := B5.ext e'
      replace B8 := B8.ext e'
      clear e'
      refine tl_st1 T34 hf rfl rfl (slOne Ho.sl) B5 (by simp) fun w hg hsz B5 hf => ?_
      replace Ho := Ho.grE hg (Ho.neLt (by omega))
      replace e := e.gr hg (by omega)
      replace B2 := B2.gr hg (by omega)
      replace B3 := B3.gr hg (by omega)
      replace B4 := B4.gr hg (by omega)
      replace B8 := B8.gr hg (by omega)
      clear hg
      refine tl_nil ?_
      try simp only [Exit.then, Exit.inBlock, ↓reduceIte]
      repeat refine seq ?_
      refine regn 2 hf (by decide +kernel) ?_
      refine st (mv rfl) ?_
      refine st ((add rfl rfl (by omega)).eq (congrArg (Value.int .i64) (show (k : Int) + 1 = ((k + 1 : Nat) : Int) from rfl))) ?_
      refine en fun a w e' hf => ?_
      replace Ho := Ho.ext e'
      replace e := Ext.tr e e'
      replace B2 := B2.ext e'
      replace B3 := B3.ext e'
      replace B4 := B4.ext e'
      replace B5 := B5.ext e'
      replace B8 := B8.ext e'
      clear e'
      refine tl_as hf rfl (by decide) fun a hf => ?_
      refine tl_nil ?_
      replace hf := hf.keep [2, 3, 4, 5, 6, 7]
      dsimp only [keep, List.filterMap, look, Nat.beq, Option.map] at hf
      refine ⟨_, ?_, k + 1, v, _, rfl, by omega, hf, e, ?_⟩
      · omega
      exact ⟨B2, B3, B4, B5, by rw [hs]; exact Ho, hd.symm⟩
    · replace hf := hf.keep [2, 3, 4, 5, 6, 7, 8]
      dsimp only [keep, List.filterMap, look, Nat.beq, Option.map] at hf
      refine wskip ?_
      try simp only [Exit.then, Exit.inBlock, ↓reduceIte]
      rw [← hll] at hb
      rw [← hdn, if_neg (rneg hb)] at hs
      have hd : (g.2.take (k + 1)).any (fun y => lt2 x.1 y.1) = dn := by
        rw [ha, ← hdn]
        cases hq : dn
        · rw [hq] at hb; simpa using hb
        · rfl
      have n2 := Ho.neLt (b := b2) (by omega); have n3 := Ho.neLt (b := b3) (by omega); have n4 := Ho.neLt (b := b4) (by omega); have n5 := Ho.neLt (b := b5) (by omega)
      repeat refine seq ?_
      refine regn 4 hf (by decide +kernel) ?_
      refine st (fldA Tryz.underlying36 rfl T34 (by decide) rfl) ?_
      refine st ((ld1 T34 rfl (by assumption) rfl).eq ((rfl : _ = u))) ?_
      refine st ((ldW T86 rfl B8 rfl).eq ((rfl : _ = etV y))) ?_
      refine st (bsl1 Tryz.underlying34 I86 rfl (by decide) rfl Ho.avs (isEt rfl)) ?_
      refine en fun a w e' hf => ?_
      replace Ho := Ho.ext e'
      replace e := Ext.tr e e'
      replace B2 := B2.ext e'
      replace B3 := B3.ext e'
      replace B4 := B4.ext e'
      replace B5 := B5.ext e'
      replace B8 := B8.ext e'
      clear e'
      haveI hin : ∀ G0, InR (GB W G0) _ := OwR.inGB (W := W) Ho (by omega)
      refine tl_app Tryz.underlying34 I86 rfl rfl hf (by decide) rfl Ho (isR rfl) (by simp only [List.length_singleton, List.length_append]; omega) (by simp only [List.length_singleton, List.length_append, maxLen]; omega) fun a v w hg hat Hn hf => ?_
      replace e := e.gro hg (Ho.row (W := W) (by omega))
      have hrow := Ho.row (W := W) (by omega)
      replace Ho := Hn
      clear hrow
      replace B2 := B2.gro hg (by assumption)
      replace B3 := B3.gro hg (by assumption)
      replace B4 := B4.gro hg (by assumption)
      replace B5 := B5.gro hg (by assumption)
      replace B8 := B8.gro hg (by assumption)
      replace Ho := Hn; clear Hn hg hat hin
      replace hf := hf.keep [2, 3, 4, 5, 6, 7, 57]
      dsimp only [keep, List.filterMap, look, Nat.beq, Option.map] at hf
      clear n2 n3 n4 n5
      refine tl_op hf (by decide) (fldA Tryz.underlying36 rfl T34 (by decide) rfl) fun a w e' hf => ?_
      replace Ho := Ho.ext e'
      replace e := Ext.tr e e'
      replace B2 := B2.ext e'
      replace B3 := B3.ext e'
      replace B4 := B4.ext e'
      replace B5 := B5.ext e'
      replace B8 := B8.ext e'
      clear e'
      refine tl_st1 T34 hf rfl rfl (slOne Ho.sl) B5 (by simp) fun w hg hsz B5 hf => ?_
      replace Ho := Ho.grE hg (Ho.neLt (by omega))
      replace e := e.gr hg (by omega)
      replace B2 := B2.gr hg (by omega)
      replace B3 := B3.gr hg (by omega)
      replace B4 := B4.gr hg (by omega)
      replace B8 := B8.gr hg (by omega)
      clear hg
      refine tl_nil ?_
      try simp only [Exit.then, Exit.inBlock, ↓reduceIte]
      repeat refine seq ?_
      refine regn 2 hf (by decide +kernel) ?_
      refine st (mv rfl) ?_
      refine st ((add rfl rfl (by omega)).eq (congrArg (Value.int .i64) (show (k : Int) + 1 = ((k + 1 : Nat) : Int) from rfl))) ?_
      refine en fun a w e' hf => ?_
      replace Ho := Ho.ext e'
      replace e := Ext.tr e e'
      replace B2 := B2.ext e'
      replace B3 := B3.ext e'
      replace B4 := B4.ext e'
      replace B5 := B5.ext e'
      replace B8 := B8.ext e'
      clear e'
      refine tl_as hf rfl (by decide) fun a hf => ?_
      refine tl_nil ?_
      replace hf := hf.keep [2, 3, 4, 5, 6, 7]
      dsimp only [keep, List.filterMap, look, Nat.beq, Option.map] at hf
      refine ⟨_, ?_, k + 1, v, _, rfl, by omega, hf, e, ?_⟩
      · omega
      exact ⟨B2, B3, B4, B5, by rw [hs]; exact Ho, hd.symm⟩
  · obtain rfl : k = g.2.length := by have := of_decide_eq_false hc; (try dsimp only at this); omega
    clear hc
    simp only [Exit.then, Exit.inBlock, ↓reduceIte]
    rw [List.take_length] at hdn
    have hend := outW_end (fun y : ET => lt2 x.1 y.1) x g.2
    rw [← hdn] at hend
    have fin : ∀ (w : World) (z : Value) (L : List ET), Ext W w → OwR etE 86 (b5 + 1) G w L z → L = insW (fun y => lt2 x.1 y.1) x g.2 → (Dv gtE G (g.1, insE g.2 x)).p (.agg #[.slice a2 n2 c2, z]) w := fun w z L e Ho hL => Dv.gt.2 ⟨_, _, rfl, VA.st _ _ _ _ e h1, by rw [insE, ← hL]; exact Ho.sl⟩
    repeat refine seq ?_
    refine regn 2 hf (by decide +kernel) ?_
    refine st (mv rfl) ?_
    refine st (notp rfl) ?_
    refine en fun a w e' hf => ?_
    replace Ho := Ho.ext e'
    replace e := Ext.tr e e'
    replace B2 := B2.ext e'
    replace B3 := B3.ext e'
    replace B4 := B4.ext e'
    replace B5 := B5.ext e'
    clear e'
    refine tl_nil ?_
    repeat refine seq ?_
    refine ifc hf rfl (fun hb => ?_) (fun hb => ?_)
    · have hd : dn = false := by simpa using hb
      rw [hd, if_neg (by decide)] at hend
      have n2 := Ho.neLt (b := b2) (by omega); have n3 := Ho.neLt (b := b3) (by omega); have n4 := Ho.neLt (b := b4) (by omega); have n5 := Ho.neLt (b := b5) (by omega)
      have hlk := hl2 g.2.length
      repeat refine seq ?_
      refine regn 4 hf (by decide +kernel) ?_
      refine st (fldA Tryz.underlying36 rfl T34 (by decide) rfl) ?_
      refine st ((ld1 T34 rfl (by assumption) rfl).eq ((rfl : _ = u))) ?_
      refine st ((ldW T86 rfl B3 rfl).eq ((rfl : _ = etV x))) ?_
      refine st (bsl1 Tryz.underlying34 I86 rfl (by decide) rfl Ho.avs (isEt rfl)) ?_
      refine en fun a w e' hf => ?_
      replace Ho := Ho.ext e'
      replace e := Ext.tr e e'
      replace B2 := B2.ext e'
      replace B3 := B3.ext e'
      replace B4 := B4.ext e'
      replace B5 := B5.ext e'
      clear e'
      haveI hin : ∀ G0, InR (GB W G0) _ := OwR.inGB (W := W) Ho (by omega)
      refine tl_app Tryz.underlying34 I86 rfl rfl hf (by decide) rfl Ho (isR rfl) (by simp only [List.length_singleton]; omega) (by simp only [List.length_singleton, maxLen]; omega) fun a v w hg hat Hn hf => ?_
      replace e := e.gro hg (Ho.row (W := W) (by omega))
      have hrow := Ho.row (W := W) (by omega)
      replace Ho := Hn
      clear hrow
      replace B2 := B2.gro hg (by assumption)
      replace B3 := B3.gro hg (by assumption)
      replace B4 := B4.gro hg (by assumption)
      replace B5 := B5.gro hg (by assumption)
      replace Ho := Hn; clear Hn hg hat hin
      replace hf := hf.keep [2, 3, 4, 5, 7, 65]
      dsimp only [keep, List.filterMap, look, Nat.beq, Option.map] at hf
      clear n2 n3 n4 n5
      refine tl_op hf (by decide) (fldA Tryz.underlying36 rfl T34 (by decide) rfl) fun a w e' hf => ?_
      replace Ho := Ho.ext e'
      replace e := Ext.tr e e'
      replace B2 := B2.ext e'
      replace B3 := B3.ext e'
      replace B4 := B4.ext e'
      replace B5 := B5.ext e'
      clear e'
      refine tl_st1 T34 hf rfl rfl (slOne Ho.sl) B5 (by simp) fun w hg hsz B5 hf => ?_
      replace Ho := Ho.grE hg (Ho.neLt (by omega))
      replace e := e.gr hg (by omega)
      replace B2 := B2.gr hg (by omega)
      replace B3 := B3.gr hg (by omega)
      replace B4 := B4.gr hg (by omega)
      clear hg
      refine tl_nil ?_
      replace hf := hf.keep [2, 3, 4, 5, 7]
      dsimp only [keep, List.filterMap, look, Nat.beq, Option.map] at hf
      repeat refine seq ?_
      refine regn 1 hf (by decide +kernel) ?_
      refine st ((ldW T36 rfl (by assumption) rfl).eq ((rfl : _ = Value.agg #[.slice a2 n2 c2, v]))) ?_
      refine en fun a w e' hf => ?_
      replace Ho := Ho.ext e'
      replace e := Ext.tr e e'
      replace B2 := B2.ext e'
      replace B3 := B3.ext e'
      replace B4 := B4.ext e'
      replace B5 := B5.ext e'
      clear e'
      haveI hinr : ∀ G0, InR (GB W G0) (some b4) := fun G0 => InR.gb (by omega)
      refine tl_stW T36 hf rfl rfl (one2 rfl (slOne Ho.sl)) B4 rfl (rfl) fun w hg hsz B4 hf => ?_
      replace Ho := Ho.grE hg (Ho.neLt (by omega))
      replace e := e.gr hg (by omega)
      replace B2 := B2.gr hg (by omega)
      replace B3 := B3.gr hg (by omega)
      replace B5 := B5.gr hg (by omega)
      clear hg
      refine tl_nil ?_
      refine wret (retc rfl T36 hf rfl B4 rfl ?_)
      exact ⟨_, rfl, e, fin _ _ _ e Ho hend⟩
    · have hd : dn = true := by simpa using hb
      rw [hd, if_pos rfl] at hend
      refine wskip ?_
      try simp only [Exit.then, Exit.inBlock, ↓reduceIte]
      replace hf := hf.keep [2, 3, 4, 5, 7]
      dsimp only [keep, List.filterMap, look, Nat.beq, Option.map] at hf
      repeat refine seq ?_
      refine regn 1 hf (by decide +kernel) ?_
      refine st ((ldW T36 rfl (by assumption) rfl).eq ((rfl : _ = Value.agg #[.slice a2 n2 c2, u]))) ?_
      refine en fun a w e' hf => ?_
      replace Ho := Ho.ext e'
      replace e := Ext.tr e e'
      replace B2 := B2.ext e'
      replace B3 := B3.ext e'
      replace B4 := B4.ext e'
      replace B5 := B5.ext e'
      clear e'
      haveI hinr : ∀ G0, InR (GB W G0) (some b4) := fun G0 => InR.gb (by omega)
      refine tl_stW T36 hf rfl rfl (one2 rfl (slOne Ho.sl)) B4 rfl (rfl) fun w hg hsz B4 hf => ?_
      replace Ho := Ho.grE hg (Ho.neLt (by omega))
      replace e := e.gr hg (by omega)
      replace B2 := B2.gr hg (by omega)
      replace B3 := B3.gr hg (by omega)
      replace B5 := B5.gr hg (by omega)
      clear hg
      refine tl_nil ?_
      refine wret (retc rfl T36 hf rfl B4 rfl ?_)
      exact ⟨_, rfl, e, fin _ _ _ e Ho hend⟩
end Go.Mono

namespace Go.Mono
open Go Go.RowKit Go.Gr
/-- how keys and elements of a map lie -/
structure KV (P : Program) (α β : Type) where
  k : TypeId
  e : TypeId
  kv : α → Value
  kl : α → Lit
  ok : α → Prop
  mv : β → Value
  dv : β → DataW Unit
  okv : β → Prop
  R : Value → Option (DataW Unit × List MemPlace)
  K : Maps.Keyed P k
  key : ∀ x, ok x → keyOf P k (kv x) = some (kl x)
  keyInv : ∀ v l, keyOf P k v = some l → ∃ x, ok x ∧ v = kv x ∧ l = kl x
  kvInj : ∀ x y, kv x = kv y → x = y
  val : ∀ c, okv c → R (mv c) = some (dv c, [])
  valInv : ∀ v y, R v = some y → ∃ c, okv c ∧ v = mv c ∧ y = (dv c, [])
  dvInj : ∀ c c', dv c = dv c' → c = c'
variable {P : Program} {α β : Type} {V : KV P α β} {w w' : World} {b n : Nat} {l : List (α × β)}
def KV.enc (V : KV P α β) (p : α × β) : Lit × DataW Unit := (V.kl p.1, V.dv p.2)
/-- block b is a map of at most n entries: those of l -/
def MpR (V : KV P α β) (w : World) (b n : Nat) (l : List (α × β)) : Prop :=
  ∃ es, w.ownsMap P V.k V.R b n (.map es) ∧ es.Perm (l.map V.enc) ∧ (∀ p ∈ l, V.ok p.1 ∧ V.okv p.2) ∧ l.Pairwise fun p q => p.1 ≠ q.1
theorem MpR.lt (h : MpR V w b n l) : b < w.heap.size := by obtain ⟨es, h, _⟩ := h; exact h.lt
theorem MpR.pres (h : MpR V w b n l) (hb : w'.heap[b]? = w.heap[b]?) : MpR V w' b n l := by
  obtain ⟨D, ⟨es, clock, h1, h2⟩, h3⟩ := h
  exact ⟨D, ⟨es, clock, hb.trans h1, h2⟩, h3⟩
theorem MpR.ext (h : MpR V w b n l) (e' : Ext w w') : MpR V w' b n l := h.pres (e'.block b h.lt)
theorem MpR.gr (h : MpR V w b n l) {c : Option Nat} (hg : w.grownBy w' c) (hne : some b ≠ c) : MpR V w' b n l := h.pres (hg.block b h.lt hne)
theorem MpR.perm {l' : List (α × β)} (h : MpR V w b n l) (hp : l.Perm l') : MpR V w b n l' := by
  obtain ⟨es, h1, h2, h3, h4⟩ := h
  exact ⟨es, h1, h2.trans (hp.map _), fun p hp' => h3 p (hp.mem_iff.2 hp'), (hp.pairwise_iff (fun {_ _} hne => Ne.symm hne)).1 h4⟩
theorem MpR.mono {n' : Nat} (h : MpR V w b n l) (hn : n ≤ n') : MpR V w b n' l := by
  obtain ⟨es, h1, h2⟩ := h
  exact ⟨es, h1.mono hn, h2⟩
theorem MpR.made (V : KV P α β) (w : World) : MpR V (w.alloc (.map #[] 0)) w.heap.size 0 [] :=
  ⟨[], World.ownsMap_made w P _ _, List.Perm.refl _, fun p hp => by simp at hp, List.Pairwise.nil⟩
theorem KV.isKey (V : KV P α β) {x : α} (hx : V.ok x) : WideAt.IsKeyLit (V.kl x) := V.K.one.key ⟨_, V.key x hx⟩
theorem KV.klInj (V : KV P α β) {x y : α} (hx : V.ok x) (hy : V.ok y) (h : V.kl x = V.kl y) : x = y := V.kvInj _ _ (V.K.inj (V.key x hx) (by rw [h]; exact V.key y hy))
theorem MpR.len {t e : TypeId} (h : MpR V w b n l) (ht : P.underlying t = some (.map V.k e)) (ty : TypeId) : (Builtin.len_ #[t] ty #[.map (some b)]).run P w = .ok (.int .i64 (l.length : Nat)) w := by
  obtain ⟨es, h1, h2, _⟩ := h
  have := h1.len ht ty
  rw [Maps.size_eq, h2.length_eq, List.length_map] at this; exact this
variable [DecidableEq α]
theorem KV.same (V : KV P α β) {x y : α} (hx : V.ok x) (hy : V.ok y) : (V.kl y).sameKey (V.kl x) = decide (y = x) := by
  by_cases h : y = x
  · subst h; simp [WideAt.sameKey_self (V.isKey hx)]
  · rw [Maps.sameKey_ne fun e => h (V.klInj hy hx e)]; simp [h]
theorem MpR.has {x : α} (h : MpR V w b n l) (hx : V.ok x) : ∃ D, w.ownsMap P V.k V.R b n D ∧ Maps.has D (V.kl x) = l.any (fun p => decide (p.1 = x)) ∧ (∀ c, (x, c) ∈ l → ∀ z, D.atKey (V.kl x) z = V.dv c) ∧ ((∀ c, (x, c) ∉ l) → ∀ z, D.atKey (V.kl x) z = z) ∧ Maps.size D = l.length := by
  obtain ⟨es, h1, h2, h3, h4⟩ := h
  have hany : es.any (fun p => p.1.sameKey (V.kl x)) = l.any (fun p => decide (p.1 = x)) := by
    rw [h2.any_eq, List.any_map, Bool.eq_iff_iff]
    simp only [List.any_eq_true, Function.comp, KV.enc]
    exact ⟨fun ⟨p, hp, hq⟩ => ⟨p, hp, by rwa [V.same hx (h3 p hp).1] at hq⟩, fun ⟨p, hp, hq⟩ => ⟨p, hp, by rwa [V.same hx (h3 p hp).1]⟩⟩
  refine ⟨_, h1, hany, fun c hc z => ?_, fun hc z => ?_, by rw [Maps.size_eq, h2.length_eq, List.length_map]⟩
  · have hm : V.enc (x, c) ∈ es := h2.mem_iff.2 (List.mem_map_of_mem hc)
    obtain ⟨es', hD, hpw, _⟩ := h1.entries V.K
    cases hD
    simp only [DataW.atKey]
    cases hf : es.find? (fun p => p.1.sameKey (V.kl x)) with
    | none =>
      have := List.find?_eq_none.1 hf _ hm
      simp [KV.enc, WideAt.sameKey_self (V.isKey hx)] at this
    | some q =>
      have hq := List.mem_of_find?_eq_some hf
      have hq2 := List.find?_some hf
      obtain ⟨p, hp, rfl⟩ := List.mem_map.1 (h2.mem_iff.1 hq)
      have : p.1 = x := by rw [KV.enc, V.same hx (h3 p hp).1] at hq2; simpa using hq2
      have hpc : p = (x, c) := by
        apply Classical.byContradiction
        intro hne
        have h5 : ∀ {m : List (α × β)}, m.Pairwise (fun p q => p.1 ≠ q.1) → p ∈ m → (x, c) ∈ m → False := by
          intro m
          induction m with
          | nil => intro _ hp; simp at hp
          | cons y r ih =>
            intro hm hp hc
            obtain ⟨h6, h7⟩ := List.pairwise_cons.1 hm
            rcases List.mem_cons.1 hp with rfl | hp' <;> rcases List.mem_cons.1 hc with hy | hc'
            · exact hne hy.symm
            · exact h6 _ hc' this
            · exact h6 _ hp' (by rw [← hy]; exact this.symm)
            · exact ih h7 hp' hc'
        exact h5 h4 hp hc
      rw [hpc]; rfl
  · simp only [DataW.atKey]
    rw [List.find?_eq_none.2 fun p hp => ?_]
    obtain ⟨q, hq, rfl⟩ := List.mem_map.1 (h2.mem_iff.1 hp)
    rw [KV.enc, V.same hx (h3 q hq).1]
    simp only [decide_eq_true_eq]
    rintro rfl
    exact hc q.2 hq
theorem insert_perm (x : Lit × DataW Unit) : ∀ l : List (Lit × DataW Unit), (DataW.insert x l).Perm (x :: l)
  | [] => by simp [DataW.insert]
  | y :: r => by
    unfold DataW.insert
    split
    · exact List.Perm.refl _
    · exact ((insert_perm x r).cons y).trans (List.Perm.swap x y r)
/-- the list with another value at a key, in whatever order -/
def putP (l : List (α × β)) (x : α) (c : β) : List (α × β) := (x, c) :: l.filter fun p => !decide (p.1 = x)
theorem MpR.put {t : TypeId} {x : α} {c : β} (h : MpR V w b n l) (hx : V.ok x) (hc : V.okv c) (ht : P.underlying t = some (.map V.k V.e)) (hn : n < maxLen) :
    ∃ w', (Instr.mapUpdate t (.map (some b)) (V.kv x) (V.mv c)).run P w = .ok () w' ∧ MpR V w' b (n + 1) (putP l x c) ∧ w.grownBy w' (some b) := by
  obtain ⟨es, h1, h2, h3, h4⟩ := h
  obtain ⟨w', r1, r2, r3⟩ := h1.update V.K ht hn (V.key x hx) (V.val c hc)
  refine ⟨w', r1, ⟨_, r2, ?_, ?_, ?_⟩, r3⟩
  · refine (insert_perm _ _).trans ?_
    rw [putP, List.map_cons]
    refine List.Perm.cons _ ?_
    have := h2.filter (fun p => !p.1.sameKey (V.kl x))
    refine this.trans ?_
    rw [List.filter_map]
    rw [List.filter_congr (q := fun p : α × β => !decide (p.1 = x)) fun p hp => by simp only [Function.comp, KV.enc, V.same hx (h3 p hp).1]]
  · intro p hp
    rcases List.mem_cons.1 hp with rfl | hp
    · exact ⟨hx, hc⟩
    · exact h3 p (List.mem_filter.1 hp).1
  · refine List.pairwise_cons.2 ⟨fun q hq => ?_, h4.filter _⟩
    have := (List.mem_filter.1 hq).2
    simp only [Bool.not_eq_true', decide_eq_false_iff_not] at this
    exact fun h => this h.symm
/-- v, ok := m[x] -/
theorem MpR.get {t : TypeId} {x : α} {z : β} (h : MpR V w b n l) (hx : V.ok x) (ht : P.underlying t = some (.map V.k V.e)) (hz : (zeroValue V.e).run P w = .ok (V.mv z) w) (hzo : V.okv z) :
    ∃ c, (Instr.lookup t (.map (some b)) (V.kv x) true).run P w = .ok (.tuple #[V.mv c, .bool (l.any fun p => decide (p.1 = x))]) w ∧ ((∃ c', (x, c') ∈ l) → (x, c) ∈ l) ∧ ((∀ c', (x, c') ∉ l) → c = z) := by
  obtain ⟨D, h1, h2, h3, h4, _⟩ := h.has hx
  obtain ⟨v, ps, r1, r2⟩ := h1.look_ok V.K ht hz (V.val z hzo) (V.key x hx)
  obtain ⟨c, hc, rfl, hy⟩ := V.valInv _ _ r2
  rw [h2] at r1
  refine ⟨c, r1, fun ⟨c', hc'⟩ => ?_, fun hno => ?_⟩
  · have := congrArg Prod.fst hy
    simp only at this
    rw [h3 c' hc'] at this
    rw [← V.dvInj _ _ this]; exact hc'
  · have := congrArg Prod.fst hy
    simp only at this
    rw [h4 hno] at this
    exact (V.dvInj _ _ this).symm
/-- a map as a datum: at most N entries have been put -/
def mpE (V : KV P α β) (N : Nat) : Enc (List (α × β)) where
  k := 1
  agg := false
  r := fun G w l cs => ∃ b n, cs = [.map (some b)] ∧ ¬G b ∧ n ≤ N ∧ MpR V w b n l
  pos := by decide
  k1 := fun _ => rfl
  len := fun ⟨b, n, h, _⟩ => by rw [h]; rfl
  one := fun ⟨b, n, h, _⟩ u hu => by rw [h] at hu; simp at hu; subst hu; rfl
  pres := fun ⟨b, n, h1, h2, h3, h4⟩ hk hs => ⟨b, n, h1, h2, h3, h4.pres (hk b h4.lt h2)⟩
  weak := fun ⟨b, n, h1, h2, h3, h4⟩ hk => ⟨b, n, h1, fun hg => h2 (hk b h4.lt hg), h3, h4⟩
section
variable {w0 : World} {L : Env} {dst : Option Tmp} {ty : TypeId} {pos : String} {aft : Array Edge} {g : Option (Nat × Bool)} {x y : Operand} {t : TypeId} {G : Nat → Prop} {N : Nat}
theorem lenM {γ δ : Type} {V : KV P γ δ} {l : List (γ × δ)} (ht : P.underlying t = some (.map V.k V.e)) (hx : Is L w0 x (Dv (mpE V N) G l)) : OpC P w0 L ⟨dst, .call ⟨.builtin .len, #[x], #[t]⟩, ty, pos, aft, g⟩ (E (.int .i64 (l.length : Nat))) :=
  opc_pure fun ρ w he hv => by
    obtain ⟨cs, ⟨b, n, h1, _, _, h2⟩, h3⟩ := hx.v he hv (by simp [Op.operands, Call.operands])
    subst h1
    have h5 : ρ x = .map (some b) := h3
    refine ⟨_, ?_, rfl⟩
    simp [execOp, resolve, invoke, builtin, h5, h2.len ht]
/-- the element at a key, z where there is none -/
def FndA (V : KV P α β) (l : List (α × β)) (i : α) (z : β) : VA := ⟨fun v _ => ∃ c, v = V.mv c ∧ ((∃ c', (i, c') ∈ l) → (i, c) ∈ l) ∧ ((∀ c', (i, c') ∉ l) → c = z), fun _ _ _ _ h => h⟩
/-- v, ok := m[x] -/
theorem hasM {i : α} {z : β} (ht : P.underlying t = some (.map V.k V.e)) (hz : ∀ w, (zeroValue V.e).run P w = .ok (V.mv z) w) (hzo : V.okv z) (hx : Is L w0 x (Dv (mpE V N) G l)) (hy : opd L y = some (E (V.kv i))) (hi : V.ok i) :
    OpC P w0 L ⟨dst, .lookup t x y true, ty, pos, aft, g⟩ (Tup [FndA V l i z, E (.bool (l.any fun p => decide (p.1 = i)))]) :=
  opc_pure fun ρ w he' hv => by
    obtain ⟨cs, ⟨b, n, h1, _, _, h2⟩, h4⟩ := hx.v he' hv (by simp [Op.operands])
    subst h1
    have h5 : ρ x = .map (some b) := h4
    have h6 := opE hv (x := y) (by simp [Op.operands]) hy
    obtain ⟨c, h7, h8, h9⟩ := h2.get hi ht (hz w) hzo
    exact ⟨_, by simp only [execOp, h5, h6, Sem.run_bind, h7, Result.andThen_ok, Sem.run_pure], Tup.two ⟨c, rfl, h8, h9⟩ rfl⟩
end
/-- a struct of two numbers as a key -/
theorem key2 {P : Program} {k t1 m : Nat} {fs : Array Field} {f1 f2 : Field} (hu : P.underlying k = some (.struct fs)) (hfs : fs = #[f1, f2]) (h1 : f1.type = t1 ∧ f1.offset = 0 ∧ (f1.name != "_") = true) (h2 : f2.type = t1 ∧ f2.offset = 1 ∧ (f2.name != "_") = true)
    (ht : P.underlying t1 = some (.int .i64)) (hc1 : P.cellsOf t1 = 1) (hc : P.cellsOf k = 2) (hk : P.keyType k = true) (hm : P.types.size = m + 1) {a b : Int} (ha : (Lit.int .i64 a).wf = true) (hb : (Lit.int .i64 b).wf = true) :
    keyOf P k (.agg #[.int .i64 a, .int .i64 b]) = some (.string (keyBytes [.int .i64 a, .int .i64 b])) := by
  subst hfs
  obtain ⟨e1, e2, e3⟩ := h1
  obtain ⟨e4, e5, e6⟩ := h2
  simp [keyOf, hu, hk, Value.formed, hc, hm, Program.keyLits, e1, e2, e3, e4, e5, e6, ht, hc1, ha, hb, Value.cells]
theorem key2inv {P : Program} {k t1 m : Nat} {fs : Array Field} {f1 f2 : Field} (hu : P.underlying k = some (.struct fs)) (hfs : fs = #[f1, f2]) (h1 : f1.type = t1 ∧ f1.offset = 0 ∧ (f1.name != "_") = true) (h2 : f2.type = t1 ∧ f2.offset = 1 ∧ (f2.name != "_") = true)
    (ht : P.underlying t1 = some (.int .i64)) (hc1 : P.cellsOf t1 = 1) (hc : P.cellsOf k = 2) (hm : P.types.size = m + 1) {v : Value} {l : Lit} (h : keyOf P k v = some l) :
    ∃ a b, ((Lit.int .i64 a).wf = true ∧ (Lit.int .i64 b).wf = true) ∧ v = .agg #[.int .i64 a, .int .i64 b] ∧ l = .string (keyBytes [.int .i64 a, .int .i64 b]) := by
  subst hfs
  obtain ⟨e1, e2, e3⟩ := h1
  obtain ⟨e4, e5, e6⟩ := h2
  obtain ⟨xs, L, rfl, hL, rfl⟩ := keyOf_top (by simp [hu]) h
  have one : ∀ cs M, P.keyLits (m + 1) t1 cs = some M → ∃ a, (Lit.int .i64 a).wf = true ∧ cs = [.int .i64 a] ∧ M = [.int .i64 a] := by
    intro cs M hM
    unfold Program.keyLits at hM
    simp only [ht] at hM
    split at hM <;> simp_all
    rename_i n _
    exact ⟨n, by simp_all⟩
  obtain ⟨xs⟩ := xs
  rw [hm] at hL
  unfold Program.keyLits at hL
  simp only [hu, hc] at hL
  split at hL
  · rename_i hl
    match xs, hl.1 with
    | [x, y], _ =>
      simp only [List.mapM_cons, List.mapM_nil, e1, e2, e4, e5, hc1, List.drop_zero, List.drop_succ_cons, List.take_succ_cons, List.take_zero, Option.map_eq_some_iff, Option.bind_eq_bind, Option.bind_eq_some_iff, Option.pure_def, Option.some.injEq] at hL
      obtain ⟨_, ⟨M1, hM1, _, ⟨M2, hM2, _, rfl, rfl⟩, rfl⟩, rfl⟩ := hL
      obtain ⟨a, ha, hxa, rfl⟩ := one _ _ hM1
      obtain ⟨b, hb, hyb, rfl⟩ := one _ _ hM2
      simp only [List.cons.injEq, and_true] at hxa hyb
      subst hxa; subst hyb
      exact ⟨a, b, ⟨ha, hb⟩, rfl, rfl⟩
  · cases hL
end Go.Mono

namespace Go.Mono
open Go Go.RowKit Go.Gr
section tail
variable {P : Program} {L : Env} {ty : TypeId} {pos : String} {aft : Array Edge} {r : Option Nat} {ds : List Deferred}
variable {ops : Array Oper} {rest : List Oper} {Q : Exit → Act → World → Prop} {n : Nat} {a : Act} {w : World} {x y z : Operand} {α β : Type} [DecidableEq α]
/-- m[i] = c -/
theorem tl_mputV {V : KV P α β} {t : TypeId} {bm nn : Nat} {l : List (α × β)} {i : α} {c : β} (ht : P.underlying t = some (.map V.k V.e)) (hf : FrD n ds a w L) [hL : AvL bm L] (hx : opd L x = some (E (.map (some bm))))
    (hy : opd L y = some (E (V.kv i))) (hz : opd L z = some (E (V.mv c))) (hM : MpR V w bm nn l) (hn : nn < maxLen) (hi : V.ok i) (hc : V.okv c)
    (kk : ∀ w', w.grownBy w' (some bm) → MpR V w' bm (nn + 1) (putP l i c) → FrD n ds a w' L → wpListIn (FW r) 0 P ops Q rest a w') :
    wpListIn (FW r) 0 P ops Q (⟨none, .mapUpdate t x y z, ty, pos, aft, none⟩ :: rest) a w :=
  wpListIn_plain rfl fun K hK => by
    have hxv : a.eval x = .map (some bm) := hf.opd x _ hx
    have hyv : a.eval y = V.kv i := hf.opd y _ hy
    have hzv : a.eval z = V.mv c := hf.opd z _ hz
    obtain ⟨w', h1, h2, h3⟩ := hM.put hi hc ht hn
    refine OpR.wp (R := fun _ w1 => w1 = w') ?_ ?_
    · simp only [OpR, execOp, hxv, hyv, hzv, Sem.run_bind, h1, Result.andThen_ok, Sem.run_pure]
    · rintro _ w1 rfl
      exact hK _ _ (kk _ h3 h2 (hf.gr h3))
/-- make(map[..]..) -/
theorem tl_mkV {γ δ : Type} (V : KV P γ δ) {t : TypeId} {d : Nat} (hf : FrD n ds a w L) (hd : d < n)
    (k : ∀ a' b w', Ext w w' → b = w.heap.size → w'.heap.size = b + 1 → MpR V w' b 0 [] → FrD n ds a' w' ((d, E (.map (some b))) :: L) → wpListIn (FW r) 0 P ops Q rest a' w') :
    wpListIn (FW r) 0 P ops Q (⟨some d, .makeMap t none, ty, pos, aft, none⟩ :: rest) a w :=
  wpListIn_plain rfl fun K hK => by
    refine OpR.wp (R := fun v w' => v = .map (some w.heap.size) ∧ w' = w.alloc (.map #[] 0)) ?_ ?_
    · simp only [OpR, execOp, Sem.run_bind, Option.map_none, run_makeMap, Result.andThen_ok, Sem.run_pure]
      exact ⟨trivial, trivial⟩
    · rintro v w' ⟨rfl, rfl⟩
      exact hK _ _ (k _ _ _ (ext_alloc _ _) rfl (by simp) (MpR.made V w) (hf.put (d := some d) (ext_alloc _ _) (fun k hk => by cases hk; exact hd) rfl))
end tail
/-- a function without arguments that answers b, with a number beside it -/
def tsE (P : Program) : Enc (Bool × Int) where
  k := 2
  agg := true
  r := fun G w x cs => ∃ id caps, cs = [.func (.func id) #[] caps, .int .i64 x.2] ∧ Proofs.Enters P id ∧ ∀ w', (∀ b, b < w.heap.size → ¬G b → w'.heap[b]? = w.heap[b]?) → w.heap.size ≤ w'.heap.size → Calls P id caps w' (Post (E (.bool x.1)) w')
  pos := by decide
  k1 := fun h => by cases h
  len := fun ⟨id, caps, h, _⟩ => by rw [h]; rfl
  one := fun ⟨id, caps, h, _⟩ u hu => by rw [h] at hu; simp at hu; rcases hu with rfl | rfl <;> rfl
  pres := fun ⟨id, caps, h1, h2, h3⟩ hk hs => ⟨id, caps, h1, h2, fun w' h4 h5 => h3 w' (fun b hb hg => (h4 b (Nat.lt_of_lt_of_le hb hs) hg).trans (hk b hb hg)) (Nat.le_trans hs h5)⟩
  weak := fun ⟨id, caps, h1, h2, h3⟩ hk => ⟨id, caps, h1, h2, fun w' h4 h5 => h3 w' (fun b hb hg => h4 b hb fun hg' => hg (hk b hb hg')) h5⟩
section
variable {P : Program} {w0 w : World} {L : Env} {dst : Option Tmp} {ty : TypeId} {pos : String} {aft : Array Edge} {g : Option (Nat × Bool)}
theorem makeF3 {fn : Fn} {x1 x2 x3 : Operand} {v1 v2 v3 : Value} (h1 : opd L x1 = some (E v1)) (h2 : opd L x2 = some (E v2)) (h3 : opd L x3 = some (E v3)) : OpC P w0 L ⟨dst, .makeFunc fn #[] #[x1, x2, x3], ty, pos, aft, g⟩ (E (.func fn #[] #[v1, v2, v3])) :=
  opc_pure fun ρ w _ hv => ⟨_, by
    have a1 := opE hv (x := x1) (by simp [Op.operands]) h1
    have a2 := opE hv (x := x2) (by simp [Op.operands]) h2
    have a3 := opE hv (x := x3) (by simp [Op.operands]) h3
    simp [execOp, Instr.makeFunc, a1, a2, a3], rfl⟩
theorem callV0 {fo : Operand} {id : FuncId} {caps : Array Value} {tys : Array TypeId} {A : VA} (hf : Proofs.Enters P id) (hfo : opd L fo = some (E (.func (.func id) #[] caps)))
    (h : ∀ w, Ext w0 w → Calls P id caps w (Post A w)) : OpC P w0 L ⟨dst, .call ⟨.value fo, #[], tys⟩, ty, pos, aft, g⟩ A :=
  opc_callV hf hfo fun ρ w he hv => by simpa using h w he
theorem Dv.ts {G : Nat → Prop} {x : Bool × Int} {v : Value} (h : (Dv (tsE P) G x).p v w) : ∃ id caps, v = .agg #[.func (.func id) #[] caps, .int .i64 x.2] ∧ Proofs.Enters P id ∧ ∀ w', Ext w w' → Calls P id caps w' (Post (E (.bool x.1)) w') := by
  obtain ⟨cs, ⟨id, caps, h1, h2, h3⟩, hv⟩ := h
  subst h1
  exact ⟨id, caps, hv, h2, fun w' e => h3 w' (fun b hb _ => e.block b hb) e.size⟩
/-- the heap stands, or has grown -/
def Hp (w w' : World) : Prop := (∀ b, b < w.heap.size → w'.heap[b]? = w.heap[b]?) ∧ w.heap.size ≤ w'.heap.size
theorem Dv.hp {α : Type} {e : Enc α} {G : Nat → Prop} {x : α} {v : Value} {w' : World} (h : (Dv e G x).p v w) (k : Hp w w') : (Dv e G x).p v w' := by
  obtain ⟨cs, h1, h2⟩ := h
  exact ⟨cs, e.pres h1 (fun b hb _ => k.1 b hb) k.2, h2⟩
theorem Dv.ts' {id : FuncId} {caps : Array Value} {b : Bool} {c : Int} (h2 : Proofs.Enters P id) (h3 : ∀ w', Hp w w' → Calls P id caps w' (Post (E (.bool b)) w')) : (Dv (tsE P) Go.Mono.G0 (b, c)).p (.agg #[.func (.func id) #[] caps, .int .i64 c]) w :=
  ⟨_, ⟨id, caps, rfl, h2, fun w' h4 h5 => h3 w' ⟨fun b hb => h4 b hb fun h => h.elim, h5⟩⟩, rfl⟩
end
section
variable {P : Program} {w0 : World} {L : Env} {dst : Option Tmp} {ty : TypeId} {pos : String} {aft : Array Edge} {S : Nat → Prop} {F : World → Prop}
theorem xcallV2Z {f : FuncId} {fo x y : Operand} {u v : Value} {tys : Array TypeId} (hf : Proofs.Enters P f) (hfo : opd L fo = some (E (.func (.func f) #[] #[]))) (hx : opd L x = some (E u)) (hy : opd L y = some (E v))
    (h : ∀ w, Ext w0 w → Calls P f #[u, v] w (fun e w' => ∃ r, e = .returned r ∧ Chg S w w' ∧ F w')) :
    XOpZ P w0 S F L ⟨dst, .call ⟨.value fo, #[x, y], tys⟩, ty, pos, aft, none⟩ Any := by
  refine ⟨fun ρ w he hv => ?_⟩
  have hfv : ρ fo = .func (.func f) #[] #[] := hv fo (by simp [Op.operands, Call.operands]) _ hfo
  have hxv : ρ x = u := hv x (by simp [Op.operands, Call.operands]) _ hx
  have hyv : ρ y = v := hv y (by simp [Op.operands, Call.operands]) _ hy
  have hrun : (execOp ρ ⟨dst, .call ⟨.value fo, #[x, y], tys⟩, ty, pos, aft, none⟩).run P w = .ok (.enter f #[u, v]) w := by
    have h9 := hf #[u, v] w
    simp [execOp, resolve, hfv, Deferred.ofValue, invoke, hxv, hyv, h9]
  simp only [OpR, hrun]
  exact (h w he).mono fun e w' ⟨r, h1, h2, h3⟩ => ⟨r, h1, h2, trivial, h3⟩
end
end Go.Mono

namespace Go.Mono
open Go Go.Proofs Go.RowKit Go.Gr
def thV (c : Int × Int) : Value := .agg #[.int .u8 c.1, .int .i64 c.2]
def okT (c : Int × Int) : Prop := (Lit.int .u8 c.1).wf = true ∧ (Lit.int .i64 c.2).wf = true
def thD (c : Int × Int) : DataW Unit := .agg [.lit (.int .u8 c.1), .lit (.int .i64 c.2)]
theorem thV_inj {c c' : Int × Int} (h : thV c = thV c') : c = c' := by cases c; cases c'; cases h; rfl
open Classical in
/-- how a label and a weight read -/
noncomputable def thR (v : Value) : Option (DataW Unit × List MemPlace) := if h : ∃ c, okT c ∧ v = thV c then some (thD (Classical.choose h), []) else none
theorem thR_mk {c : Int × Int} (hc : okT c) : thR (thV c) = some (thD c, []) := by
  have h : ∃ c', okT c' ∧ thV c = thV c' := ⟨c, hc, rfl⟩
  unfold thR
  rw [dif_pos h, ← thV_inj (Classical.choose_spec h).2]
theorem thR_inv {v : Value} {y : DataW Unit × List MemPlace} (h : thR v = some y) : ∃ c, okT c ∧ v = thV c ∧ y = (thD c, []) := by
  unfold thR at h
  split at h
  · rename_i hx; cases h; exact ⟨_, (Classical.choose_spec hx).1, (Classical.choose_spec hx).2, rfl⟩
  · cases h
noncomputable def vKV : KV Tryz.prog Int (Int × Int) where
  k := 3
  e := 147
  kv := fun x => .int .i64 x
  kl := fun x => .int .i64 x
  ok := fun x => (Lit.int .i64 x).wf = true
  mv := thV
  dv := thD
  okv := okT
  R := thR
  K := Maps.int_keyed Tryz.underlying3
  key := fun x hx => Maps.keyOf_int_mk Tryz.underlying3 hx
  keyInv := fun v l h => by obtain ⟨x, h1, h2, h3⟩ := Maps.keyOf_int_inv Tryz.underlying3 h; exact ⟨x, h3, h1, h2⟩
  kvInj := fun x y h => by cases h; rfl
  val := fun c hc => thR_mk hc
  valInv := fun v y h => thR_inv h
  dvInj := fun c c' h => by cases c; cases c'; cases h; rfl
theorem ends_key : Tryz.prog.keyType 153 = true := by kernel_rfl
theorem ends_cells : Tryz.prog.cellsOf 153 = 2 := by kernel_rfl
theorem int_cells : Tryz.prog.cellsOf 3 = 1 := by kernel_rfl
theorem ty_size : Tryz.prog.types.size = (Tryz.prog.types.size - 1) + 1 := by kernel_rfl
theorem laidOut : laidOutB Tryz.prog = true := by kernel_rfl
theorem ends_row : (153 : TypeId) < Tryz.prog.types.size := of_decide_eq_true (by kernel_rfl)
noncomputable def tySz : Nat := Tryz.prog.types.size - 1
theorem ty_size' : Tryz.prog.types.size = tySz + 1 := ty_size
theorem ends_key2 {p q : Int} (hp : (Lit.int .i64 p).wf = true) (hq : (Lit.int .i64 q).wf = true) : keyOf Tryz.prog 153 (.agg #[.int .i64 p, .int .i64 q]) = some (.string (keyBytes [.int .i64 p, .int .i64 q])) :=
  key2 (m := tySz) Tryz.underlying153 rfl ⟨rfl, rfl, by kernel_rfl⟩ ⟨rfl, rfl, by kernel_rfl⟩ Tryz.underlying3 int_cells ends_cells ends_key ty_size' hp hq
theorem ends_inv2 {v : Value} {l : Lit} (h : keyOf Tryz.prog 153 v = some l) : ∃ p q, ((Lit.int .i64 p).wf = true ∧ (Lit.int .i64 q).wf = true) ∧ v = .agg #[.int .i64 p, .int .i64 q] ∧ l = .string (keyBytes [.int .i64 p, .int .i64 q]) :=
  key2inv (m := tySz) Tryz.underlying153 rfl ⟨rfl, rfl, by kernel_rfl⟩ ⟨rfl, rfl, by kernel_rfl⟩ Tryz.underlying3 int_cells ends_cells ty_size' h
theorem ends_at : Tryz.prog.keyTypeAt 2 153 = true := by kernel_rfl
theorem ends_law : WideMaps.KeyLaw Tryz.prog 153 := by
  have h1 : 2 + 1 ≤ 10000 := by omega
  refine deep_law_laid laidOut (m := 2) h1 ends_row ends_at ?_
  rw [Tryz.underlying153]
def enV (x : Int × Int) : Value := .agg #[.int .i64 x.1, .int .i64 x.2]
noncomputable def eKV : KV Tryz.prog (Int × Int) (Int × Int) where
  k := 153
  e := 147
  kv := enV
  kl := fun x => .string (keyBytes [.int .i64 x.1, .int .i64 x.2])
  ok := fun x => (Lit.int .i64 x.1).wf = true ∧ (Lit.int .i64 x.2).wf = true
  mv := thV
  dv := thD
  okv := okT
  R := thR
  K := Maps.Keyed.of_law ends_law
  key := fun x hx => ends_key2 hx.1 hx.2
  keyInv := fun v l h => by
    obtain ⟨p, q, h1, h2, h3⟩ := ends_inv2 h
    exact ⟨(p, q), h1, h2, h3⟩
  kvInj := fun x y h => by cases x; cases y; cases h; rfl
  val := fun c hc => thR_mk hc
  valInv := fun v y h => thR_inv h
  dvInj := fun c c' h => by cases c; cases c'; cases h; rfl
/-- a graph as a datum -/
noncomputable def grE (N : Nat) : Enc GT := prE (mpE vKV N) (mpE eKV N)
theorem pairs_spec (n : Int) (W : World) : Calls Tryz.prog 135 #[I n] W (Post (E (.bool (Gr.pairs n))) W) := by
  refine enter (args := [I n]) (As := [E (I n)]) Tryz.func135 rfl Tryz.ntmps135 (Nat.le_of_ble_eq_true rfl) ?_ (fun a hf => ?_) (Nat.le_of_ble_eq_true rfl)
  rotate_left
  dsimp only [params, Nat.reduceAdd] at hf
  rotate_right
  · exact arg1 rfl
  have e := Ext.rfl' W
  repeat refine seq ?_
  refine regn0 ?_
  refine tl_as hf rfl (by decide) fun a hf => ?_
  refine tl_nil ?_
  repeat refine seq ?_
  refine regn 14 hf (by decide +kernel) ?_
  refine st (mv rfl) ?_
  refine st (eql rfl rfl) ?_
  refine st (mv rfl) ?_
  refine sgE rfl rfl (.k 0 rfl .n) (fun hgd => mv rfl) ?_
  refine sgE rfl rfl (.c 6 rfl (fun h => h) .n) (fun hgd => eql rfl rfl) ?_
  refine st (pkOr rfl rfl (fun h => by rw [h]; rfl)) ?_
  refine st (mv rfl) ?_
  refine sgE rfl rfl (.k 0 rfl .n) (fun hgd => mv rfl) ?_
  refine sgE rfl rfl (.c 10 rfl (fun h => h) .n) (fun hgd => eql rfl rfl) ?_
  refine st (pkOr rfl rfl (fun h => by rw [h]; rfl)) ?_
  refine st (mv rfl) ?_
  refine sgE rfl rfl (.k 0 rfl .n) (fun hgd => mv rfl) ?_
  refine sgE rfl rfl (.c 14 rfl (fun h => h) .n) (fun hgd => eql rfl rfl) ?_
  refine st (pkOr rfl rfl (fun h => by rw [h]; rfl)) ?_
  refine en fun a w e' hf => ?_
  replace e := Ext.tr e e'
  clear e'
  refine tl_as hf rfl (by decide) fun a hf => ?_
  refine tl_nil ?_
  refine wret ?_
  try simp only [Exit.then, Exit.inBlock]
  refine ret1 rfl hf rfl ?_
  rintro _ rfl
  exact ⟨_, rfl, e, rfl⟩
theorem weighs_spec (n : Int) (W : World) : Calls Tryz.prog 136 #[I n] W (Post (E (.bool (Gr.weighs n))) W) := by
  refine enter (args := [I n]) (As := [E (I n)]) Tryz.func136 rfl Tryz.ntmps136 (Nat.le_of_ble_eq_true rfl) ?_ (fun a hf => ?_) (Nat.le_of_ble_eq_true rfl)
  rotate_left
  dsimp only [params, Nat.reduceAdd] at hf
  rotate_right
  · exact arg1 rfl
  have e := Ext.rfl' W
  repeat refine seq ?_
  refine regn0 ?_
  refine tl_as hf rfl (by decide) fun a hf => ?_
  refine tl_nil ?_
  repeat refine seq ?_
  refine regn 14 hf (by decide +kernel) ?_
  refine st (mv rfl) ?_
  refine st (eql rfl rfl) ?_
  refine st (mv rfl) ?_
  refine sgE rfl rfl (.k 0 rfl .n) (fun hgd => mv rfl) ?_
  refine sgE rfl rfl (.c 6 rfl (fun h => h) .n) (fun hgd => eql rfl rfl) ?_
  refine st (pkOr rfl rfl (fun h => by rw [h]; rfl)) ?_
  refine st (mv rfl) ?_
  refine sgE rfl rfl (.k 0 rfl .n) (fun hgd => mv rfl) ?_
  refine sgE rfl rfl (.c 10 rfl (fun h => h) .n) (fun hgd => eql rfl rfl) ?_
  refine st (pkOr rfl rfl (fun h => by rw [h]; rfl)) ?_
  refine st (mv rfl) ?_
  refine sgE rfl rfl (.k 0 rfl .n) (fun hgd => mv rfl) ?_
  refine sgE rfl rfl (.c 14 rfl (fun h => h) .n) (fun hgd => eql rfl rfl) ?_
  refine st (pkOr rfl rfl (fun h => by rw [h]; rfl)) ?_
  refine en fun a w e' hf => ?_
  replace e := Ext.tr e e'
  clear e'
  refine tl_as hf rfl (by decide) fun a hf => ?_
  refine tl_nil ?_
  refine wret ?_
  try simp only [Exit.then, Exit.inBlock]
  refine ret1 rfl hf rfl ?_
  rintro _ rfl
  exact ⟨_, rfl, e, rfl⟩
theorem id_spec (n : Int) (W : World) : Calls Tryz.prog 134 #[I n] W (Post (E (.bool (idOk n))) W) := by
  refine enter (args := [I n]) (As := [E (I n)]) Tryz.func134 rfl Tryz.ntmps134 (Nat.le_of_ble_eq_true rfl) ?_ (fun a hf => ?_) (Nat.le_of_ble_eq_true rfl)
  rotate_left
  dsimp only [params, Nat.reduceAdd] at hf
  rotate_right
  · exact arg1 rfl
  have e := Ext.rfl' W
  repeat refine seq ?_
  refine regn0 ?_
  refine tl_as hf rfl (by decide) fun a hf => ?_
  refine tl_nil ?_
  repeat refine seq ?_
  refine regn 6 hf (by decide +kernel) ?_
  refine st (mv rfl) ?_
  refine st (geq rfl rfl) ?_
  refine st (mv rfl) ?_
  refine sgE rfl rfl (.k 0 rfl .n) (fun hgd => mv rfl) ?_
  refine sgE rfl rfl (.c 6 rfl (fun h => h) .n) (fun hgd => lss rfl rfl) ?_
  refine st (pkAnd rfl rfl (fun h => by rw [h]; rfl)) ?_
  refine en fun a w e' hf => ?_
  replace e := Ext.tr e e'
  clear e'
  refine tl_as hf rfl (by decide) fun a hf => ?_
  refine tl_nil ?_
  refine wret ?_
  try simp only [Exit.then, Exit.inBlock]
  refine ret1 rfl hf rfl ?_
  rintro _ rfl
  exact ⟨_, rfl, e, rfl⟩
theorem gheavy_spec (n : Int) (W : World) : Calls Tryz.prog 137 #[I n] W (Post (E (.bool (Gr.heavy n))) W) := by
  refine enter (args := [I n]) (As := [E (I n)]) Tryz.func137 rfl Tryz.ntmps137 (Nat.le_of_ble_eq_true rfl) ?_ (fun a hf => ?_) (Nat.le_of_ble_eq_true rfl)
  rotate_left
  dsimp only [params, Nat.reduceAdd] at hf
  rotate_right
  · exact arg1 rfl
  have e := Ext.rfl' W
  repeat refine seq ?_
  refine regn0 ?_
  refine tl_as hf rfl (by decide) fun a hf => ?_
  refine tl_nil ?_
  repeat refine seq ?_
  refine regn 6 hf (by decide +kernel) ?_
  refine st (mv rfl) ?_
  refine st (lss rfl rfl) ?_
  refine st (mv rfl) ?_
  refine sgE rfl rfl (.k 0 rfl .n) (fun hgd => mv rfl) ?_
  refine sgE rfl rfl (.c 6 rfl (fun h => h) .n) (fun hgd => gtr rfl rfl) ?_
  refine st (pkOr rfl rfl (fun h => by rw [h]; rfl)) ?_
  refine en fun a w e' hf => ?_
  replace e := Ext.tr e e'
  clear e'
  refine tl_as hf rfl (by decide) fun a hf => ?_
  refine tl_nil ?_
  refine wret ?_
  try simp only [Exit.then, Exit.inBlock]
  refine ret1 rfl hf rfl ?_
  rintro _ rfl
  exact ⟨_, rfl, e, rfl⟩
theorem bEn (x : Int × Int) : Tryz.prog.built 153 [(0, .int .i64 x.1), (1, .int .i64 x.2)] = some #[.int .i64 x.1, .int .i64 x.2] := by kernel_rfl
theorem between_spec (m n : Int) (W : World) : Calls Tryz.prog 131 #[I m, I n] W (Post (E (enV (Gr.ends m n))) W) := by
  refine enter (args := [I m, I n]) (As := [E (I m), E (I n)]) Tryz.func131 rfl Tryz.ntmps131 (Nat.le_of_ble_eq_true rfl) ?_ (fun a hf => ?_) (Nat.le_of_ble_eq_true rfl)
  rotate_left
  dsimp only [params, Nat.reduceAdd] at hf
  rotate_right
  · exact arg2 rfl rfl
  have e := Ext.rfl' W
  repeat refine seq ?_
  refine regn0 ?_
  refine tl_alloc I153 hf (by decide) fun a b4 w e' hb4 hs4 B4 hf => ?_
  have hle4 := Nat.le_trans e.size (Nat.le_of_eq hb4.symm)
  replace e := Ext.tr e e'
  clear e'
  refine tl_nil ?_
  repeat refine seq ?_
  refine regn 7 hf (by decide +kernel) ?_
  refine st (mv rfl) ?_
  refine st (mv rfl) ?_
  refine st (min2 rfl rfl) ?_
  refine st (mv rfl) ?_
  refine st (mv rfl) ?_
  refine st (max2 rfl rfl) ?_
  refine st (bldV [(0, _), (1, _)] rfl (bEn (Gr.ends m n))) ?_
  refine en fun a w e' hf => ?_
  replace e := Ext.tr e e'
  replace B4 := B4.ext e'
  clear e'
  haveI hinr : ∀ G0, InR (GB W G0) (some b4) := fun G0 => InR.gb (by omega)
  refine tl_stW T153 hf rfl rfl (one2 rfl rfl) B4 rfl (rfl) fun w hg hsz B4 hf => ?_
  replace e := e.gr hg (by omega)
  clear hg
  refine tl_nil ?_
  refine wret (retc rfl T153 hf rfl B4 rfl ?_)
  exact ⟨_, rfl, e, rfl⟩
end Go.Mono

namespace Go.Mono
open Go Go.Proofs Go.RowKit Go.Gr
section
variable {G G2 G3 : Nat → Prop} (g : GT) (d : DT) (N : Nat) (W : World) (v v1 v2 : Value)
theorem cP (n : Int) (v : Value) (w : World) (h : (E (I n)).p v w) : Calls Tryz.prog 135 #[v] w (Post (E (.bool (Gr.pairs n))) w) := by cases h; exact pairs_spec n w
theorem cW (n : Int) (v : Value) (w : World) (h : (E (I n)).p v w) : Calls Tryz.prog 136 #[v] w (Post (E (.bool (Gr.weighs n))) w) := by cases h; exact weighs_spec n w
theorem cI (n : Int) (v : Value) (w : World) (h : (E (I n)).p v w) : Calls Tryz.prog 134 #[v] w (Post (E (.bool (idOk n))) w) := by cases h; exact id_spec n w
theorem cH (n : Int) (v : Value) (w : World) (h : (E (I n)).p v w) : Calls Tryz.prog 137 #[v] w (Post (E (.bool (Gr.heavy n))) w) := by cases h; exact gheavy_spec n w
theorem q1_spec (h : (Dv (ptE dtE) G (some d)).p v W) : Calls Tryz.prog 132 #[v] W (Post (E (.bool (decide (d.1 < 0) || decide (8 ≤ d.1)))) W) := by
  refine enter (args := [v]) (As := [Dv (ptE dtE) G (some d)]) Tryz.func132 rfl Tryz.ntmps132 (Nat.le_of_ble_eq_true rfl) ?_ (fun a hf => ?_) (Nat.le_of_ble_eq_true rfl)
  rotate_left
  dsimp only [params, Nat.reduceAdd] at hf
  rotate_right
  · exact arg1 h
  have e := Ext.rfl' W
  repeat refine seq ?_
  refine regn0 ?_
  refine tl_as hf rfl (by decide) fun a hf => ?_
  refine tl_nil ?_
  repeat refine seq ?_
  refine regn 8 hf (by decide +kernel) ?_
  refine st (fldD Tryz.underlying26 rfl T3 (by decide) (Fld.fst Fld.refl) (isR rfl)) ?_
  refine st (ldI T3 (isR rfl)) ?_
  refine st (lss rfl rfl) ?_
  refine st (mv rfl) ?_
  refine sgE rfl rfl (.k 0 rfl .n) (fun hgd => fldD Tryz.underlying26 rfl T3 (by decide) (Fld.fst Fld.refl) (isR rfl)) ?_
  refine sgE rfl rfl (.c 6 rfl (fun h => h) .n) (fun hgd => ldI T3 (isR rfl)) ?_
  refine sgE rfl rfl (.c 7 rfl (fun h => h) .n) (fun hgd => geq rfl rfl) ?_
  refine st (pkOr rfl rfl (fun h => by rw [h]; rfl)) ?_
  refine en fun a w e' hf => ?_
  replace e := Ext.tr e e'
  clear e'
  refine tl_as hf rfl (by decide) fun a hf => ?_
  refine tl_nil ?_
  refine wret ?_
  try simp only [Exit.then, Exit.inBlock]
  refine ret1 rfl hf rfl ?_
  rintro _ rfl
  exact ⟨_, rfl, e, rfl⟩
theorem q2_spec (h : (Dv (ptE dtE) G (some d)).p v W) : Calls Tryz.prog 133 #[v] W (Post (E (.bool ((!idOk d.2.1) || (Gr.pairs d.1 && !idOk d.2.2.1) || (Gr.weighs d.1 && Gr.heavy d.2.2.2.2)))) W) := by
  refine enter (args := [v]) (As := [Dv (ptE dtE) G (some d)]) Tryz.func133 rfl Tryz.ntmps133 (Nat.le_of_ble_eq_true rfl) ?_ (fun a hf => ?_) (Nat.le_of_ble_eq_true rfl)
  rotate_left
  dsimp only [params, Nat.reduceAdd] at hf
  rotate_right
  · exact arg1 h
  have e := Ext.rfl' W
  repeat refine seq ?_
  refine regn0 ?_
  refine tl_as hf rfl (by decide) fun a hf => ?_
  refine tl_nil ?_
  repeat refine seq ?_
  refine regn 25 hf (by decide +kernel) ?_
  refine st (fldD Tryz.underlying26 rfl T3 (by decide) (Fld.snd (Fld.fst Fld.refl) rfl) (isR rfl)) ?_
  refine st (ldI T3 (isR rfl)) ?_
  refine st (call1 En134 rfl (fun v w he h => cI _ v w h)) ?_
  refine st (notp rfl) ?_
  refine st (mv rfl) ?_
  refine sgE rfl rfl (.k 0 rfl .n) (fun hgd => fldD Tryz.underlying26 rfl T3 (by decide) (Fld.fst Fld.refl) (isR rfl)) ?_
  refine sgE rfl rfl (.c 7 rfl (fun h => h) .n) (fun hgd => ldI T3 (isR rfl)) ?_
  refine sgE rfl rfl (.c 8 rfl (fun h => h) .n) (fun hgd => call1 En135 rfl (fun v w he h => cP _ v w h)) ?_
  refine sgE rfl rfl (.c 9 rfl (fun h => h) .n) (fun hgd => mv rfl) ?_
  refine sgC rfl rfl (.k 0 rfl .n) (fun hgd => fldD Tryz.underlying26 rfl T3 (by decide) (Fld.snd (Fld.snd (Fld.fst Fld.refl) rfl) rfl) (isR rfl)) ?_
  refine sgC rfl rfl (.c 11 rfl (fun h => h) .n) (fun hgd => ldI T3 (isR rfl)) ?_
  refine sgC rfl rfl (.c 12 rfl (fun h => h) .n) (fun hgd => call1 En134 rfl (fun v w he h => cI _ v w h)) ?_
  refine sgC rfl rfl (.c 13 rfl (fun h => h) .n) (fun hgd => notp rfl) ?_
  refine sgE rfl rfl (.c 10 rfl (fun h => h) (.k 14 rfl .n)) (fun hgd => pkAnd rfl rfl (fun h => by rw [hgd, h]; rfl)) ?_
  refine st (pkOr rfl rfl (fun h => by rw [h]; rfl)) ?_
  refine st (mv rfl) ?_
  refine sgE rfl rfl (.k 0 rfl .n) (fun hgd => fldD Tryz.underlying26 rfl T3 (by decide) (Fld.fst Fld.refl) (isR rfl)) ?_
  refine sgE rfl rfl (.c 18 rfl (fun h => h) .n) (fun hgd => ldI T3 (isR rfl)) ?_
  refine sgE rfl rfl (.c 19 rfl (fun h => h) .n) (fun hgd => call1 En136 rfl (fun v w he h => cW _ v w h)) ?_
  refine sgE rfl rfl (.c 20 rfl (fun h => h) .n) (fun hgd => mv rfl) ?_
  refine sgC rfl rfl (.k 0 rfl .n) (fun hgd => fldD Tryz.underlying26 rfl T3 (by decide) (Fld.snd (Fld.snd (Fld.snd (Fld.snd Fld.refl rfl) rfl) rfl) rfl) (isR rfl)) ?_
  refine sgC rfl rfl (.c 22 rfl (fun h => h) .n) (fun hgd => ldI T3 (isR rfl)) ?_
  refine sgC rfl rfl (.c 23 rfl (fun h => h) .n) (fun hgd => call1 En137 rfl (fun v w he h => cH _ v w h)) ?_
  refine sgE rfl rfl (.c 21 rfl (fun h => h) (.k 24 rfl .n)) (fun hgd => pkAnd rfl rfl (fun h => by rw [hgd, h]; rfl)) ?_
  refine st (pkOr rfl rfl (fun h => by rw [h]; rfl)) ?_
  refine en fun a w e' hf => ?_
  replace e := Ext.tr e e'
  clear e'
  refine tl_as hf rfl (by decide) fun a hf => ?_
  refine tl_nil ?_
  refine wret ?_
  try simp only [Exit.then, Exit.inBlock]
  refine ret1 rfl hf rfl ?_
  rintro _ rfl
  exact ⟨_, rfl, e, rfl⟩
theorem q3_spec (h : (Dv (ptE dtE) G (some d)).p v W) : Calls Tryz.prog 138 #[v] W (Post (E (.bool (Gr.pairs d.1 && d.2.1 == d.2.2.1))) W) := by
  refine enter (args := [v]) (As := [Dv (ptE dtE) G (some d)]) Tryz.func138 rfl Tryz.ntmps138 (Nat.le_of_ble_eq_true rfl) ?_ (fun a hf => ?_) (Nat.le_of_ble_eq_true rfl)
  rotate_left
  dsimp only [params, Nat.reduceAdd] at hf
  rotate_right
  · exact arg1 h
  have e := Ext.rfl' W
  repeat refine seq ?_
  refine regn0 ?_
  refine tl_as hf rfl (by decide) fun a hf => ?_
  refine tl_nil ?_
  repeat refine seq ?_
  refine regn 10 hf (by decide +kernel) ?_
  refine st (fldD Tryz.underlying26 rfl T3 (by decide) (Fld.fst Fld.refl) (isR rfl)) ?_
  refine st (ldI T3 (isR rfl)) ?_
  refine st (call1 En135 rfl (fun v w he h => cP _ v w h)) ?_
  refine st (mv rfl) ?_
  refine sgE rfl rfl (.k 0 rfl .n) (fun hgd => fldD Tryz.underlying26 rfl T3 (by decide) (Fld.snd (Fld.fst Fld.refl) rfl) (isR rfl)) ?_
  refine sgE rfl rfl (.c 6 rfl (fun h => h) .n) (fun hgd => ldI T3 (isR rfl)) ?_
  refine sgE rfl rfl (.k 0 rfl .n) (fun hgd => fldD Tryz.underlying26 rfl T3 (by decide) (Fld.snd (Fld.snd (Fld.fst Fld.refl) rfl) rfl) (isR rfl)) ?_
  refine sgE rfl rfl (.c 8 rfl (fun h => h) .n) (fun hgd => ldI T3 (isR rfl)) ?_
  refine sgE rfl rfl (.c 7 rfl (fun h => h) (.c 9 rfl (fun h => h) .n)) (fun hgd => eql rfl rfl) ?_
  refine st (pkAnd rfl rfl (fun h => by rw [h]; rfl)) ?_
  refine en fun a w e' hf => ?_
  replace e := Ext.tr e e'
  clear e'
  refine tl_as hf rfl (by decide) fun a hf => ?_
  refine tl_nil ?_
  refine wret ?_
  try simp only [Exit.then, Exit.inBlock]
  refine ret1 rfl hf rfl ?_
  rintro _ rfl
  exact ⟨_, rfl, e, rfl⟩
theorem q4_spec (u : Bool) (h : (Dv (ptE dtE) G (some d)).p v W) (h1 : (Dv (ptE boolE) G2 (some u)).p v1 W) : Calls Tryz.prog 139 #[v, v1] W (Post (E (.bool (d.1 == 0 && u))) W) := by
  refine enter (args := [v, v1]) (As := [Dv (ptE dtE) G (some d), Dv (ptE boolE) G2 (some u)]) Tryz.func139 rfl Tryz.ntmps139 (Nat.le_of_ble_eq_true rfl) ?_ (fun a hf => ?_) (Nat.le_of_ble_eq_true rfl)
  rotate_left
  dsimp only [params, Nat.reduceAdd] at hf
  rotate_right
  · exact arg2 h h1
  have e := Ext.rfl' W
  repeat refine seq ?_
  refine regn0 ?_
  refine tl_as hf rfl (by decide) fun a hf => ?_
  refine tl_nil ?_
  repeat refine seq ?_
  refine regn 6 hf (by decide +kernel) ?_
  refine st (fldD Tryz.underlying26 rfl T3 (by decide) (Fld.fst Fld.refl) (isR rfl)) ?_
  refine st (ldI T3 (isR rfl)) ?_
  refine st (eql rfl rfl) ?_
  refine st (mv rfl) ?_
  refine sgE rfl rfl (.k 1 rfl .n) (fun hgd => ldB T4 (isR rfl)) ?_
  refine st (pkAnd rfl rfl (fun h => by rw [h]; rfl)) ?_
  refine en fun a w e' hf => ?_
  replace e := Ext.tr e e'
  clear e'
  refine tl_as hf rfl (by decide) fun a hf => ?_
  refine tl_nil ?_
  refine wret ?_
  try simp only [Exit.then, Exit.inBlock]
  refine ret1 rfl hf rfl ?_
  rintro _ rfl
  exact ⟨_, rfl, e, rfl⟩
theorem q5_spec (u u2 : Bool) (h : (Dv (ptE dtE) G (some d)).p v W) (h1 : (Dv (ptE boolE) G2 (some u)).p v1 W) (h2 : (Dv (ptE boolE) G3 (some u2)).p v2 W) :
    Calls Tryz.prog 140 #[v, v1, v2] W (Post (E (.bool ((d.1 != 0 && !Gr.pairs d.1 && !u) || (d.1 == 2 && !(u && u2))))) W) := by
  refine enter (args := [v, v1, v2]) (As := [Dv (ptE dtE) G (some d), Dv (ptE boolE) G2 (some u), Dv (ptE boolE) G3 (some u2)]) Tryz.func140 rfl Tryz.ntmps140 (Nat.le_of_ble_eq_true rfl) ?_ (fun a hf => ?_) (Nat.le_of_ble_eq_true rfl)
  rotate_left
  dsimp only [params, Nat.reduceAdd] at hf
  rotate_right
  · exact arg3 h h1 h2
  have e := Ext.rfl' W
  repeat refine seq ?_
  refine regn0 ?_
  refine tl_as hf rfl (by decide) fun a hf => ?_
  refine tl_nil ?_
  repeat refine seq ?_
  refine regn 25 hf (by decide +kernel) ?_
  refine st (fldD Tryz.underlying26 rfl T3 (by decide) (Fld.fst Fld.refl) (isR rfl)) ?_
  refine st (ldI T3 (isR rfl)) ?_
  refine st (neq rfl rfl) ?_
  refine st (mv rfl) ?_
  refine sgE rfl rfl (.k 0 rfl .n) (fun hgd => fldD Tryz.underlying26 rfl T3 (by decide) (Fld.fst Fld.refl) (isR rfl)) ?_
  refine sgE rfl rfl (.c 8 rfl (fun h => h) .n) (fun hgd => ldI T3 (isR rfl)) ?_
  refine sgE rfl rfl (.c 9 rfl (fun h => h) .n) (fun hgd => call1 En135 rfl (fun v w he h => cP _ v w h)) ?_
  refine sgE rfl rfl (.c 10 rfl (fun h => h) .n) (fun hgd => notp rfl) ?_
  refine st (pkAnd rfl rfl (fun h => by rw [h]; rfl)) ?_
  refine st (mv rfl) ?_
  refine sgE rfl rfl (.k 1 rfl .n) (fun hgd => ldB T4 (isR rfl)) ?_
  refine sgE rfl rfl (.c 14 rfl (fun h => h) .n) (fun hgd => notp rfl) ?_
  refine st (pkAnd rfl rfl (fun h => by rw [h]; rfl)) ?_
  refine st (mv rfl) ?_
  refine sgE rfl rfl (.k 0 rfl .n) (fun hgd => fldD Tryz.underlying26 rfl T3 (by decide) (Fld.fst Fld.refl) (isR rfl)) ?_
  refine sgE rfl rfl (.c 18 rfl (fun h => h) .n) (fun hgd => ldI T3 (isR rfl)) ?_
  refine sgE rfl rfl (.c 19 rfl (fun h => h) .n) (fun hgd => eql rfl rfl) ?_
  refine sgE rfl rfl (.c 20 rfl (fun h => h) .n) (fun hgd => mv rfl) ?_
  refine sgC rfl rfl (.k 1 rfl .n) (fun hgd => ldB T4 (isR rfl)) ?_
  refine sgC rfl rfl (.c 22 rfl (fun h => h) .n) (fun hgd => mv rfl) ?_
  refine sgC rfl rfl (.k 2 rfl .n) (fun hgd => ldB T4 (isR rfl)) ?_
  refine sgC rfl rfl (.c 23 rfl (fun h => h) (.k 24 rfl .n)) (fun hgd => pkAnd rfl rfl (fun h => by rw [hgd, h]; rfl)) ?_
  refine sgC rfl rfl (.c 25 rfl (fun h => h) .n) (fun hgd => notp rfl) ?_
  refine sgE rfl rfl (.c 21 rfl (fun h => h) (.k 26 rfl .n)) (fun hgd => pkAnd rfl rfl (fun h => by rw [hgd, h]; rfl)) ?_
  refine st (pkOr rfl rfl (fun h => by rw [h]; rfl)) ?_
  refine en fun a w e' hf => ?_
  replace e := Ext.tr e e'
  clear e'
  refine tl_as hf rfl (by decide) fun a hf => ?_
  refine tl_nil ?_
  refine wret ?_
  try simp only [Exit.then, Exit.inBlock]
  refine ret1 rfl hf rfl ?_
  rintro _ rfl
  exact ⟨_, rfl, e, rfl⟩
theorem q6_spec (u : Bool) (h : (Dv (ptE dtE) G (some d)).p v W) (h1 : (Dv (ptE boolE) G2 (some u)).p v1 W) : Calls Tryz.prog 141 #[v, v1] W (Post (E (.bool (Gr.pairs d.1 && d.1 != 2 && !u))) W) := by
  refine enter (args := [v, v1]) (As := [Dv (ptE dtE) G (some d), Dv (ptE boolE) G2 (some u)]) Tryz.func141 rfl Tryz.ntmps141 (Nat.le_of_ble_eq_true rfl) ?_ (fun a hf => ?_) (Nat.le_of_ble_eq_true rfl)
  rotate_left
  dsimp only [params, Nat.reduceAdd] at hf
  rotate_right
  · exact arg2 h h1
  have e := Ext.rfl' W
  repeat refine seq ?_
  refine regn0 ?_
  refine tl_as hf rfl (by decide) fun a hf => ?_
  refine tl_nil ?_
  repeat refine seq ?_
  refine regn 12 hf (by decide +kernel) ?_
  refine st (fldD Tryz.underlying26 rfl T3 (by decide) (Fld.fst Fld.refl) (isR rfl)) ?_
  refine st (ldI T3 (isR rfl)) ?_
  refine st (call1 En135 rfl (fun v w he h => cP _ v w h)) ?_
  refine st (mv rfl) ?_
  refine sgE rfl rfl (.k 0 rfl .n) (fun hgd => fldD Tryz.underlying26 rfl T3 (by decide) (Fld.fst Fld.refl) (isR rfl)) ?_
  refine sgE rfl rfl (.c 7 rfl (fun h => h) .n) (fun hgd => ldI T3 (isR rfl)) ?_
  refine sgE rfl rfl (.c 8 rfl (fun h => h) .n) (fun hgd => neq rfl rfl) ?_
  refine st (pkAnd rfl rfl (fun h => by rw [h]; rfl)) ?_
  refine st (mv rfl) ?_
  refine sgE rfl rfl (.k 1 rfl .n) (fun hgd => ldB T4 (isR rfl)) ?_
  refine sgE rfl rfl (.c 12 rfl (fun h => h) .n) (fun hgd => notp rfl) ?_
  refine st (pkAnd rfl rfl (fun h => by rw [h]; rfl)) ?_
  refine en fun a w e' hf => ?_
  replace e := Ext.tr e e'
  clear e'
  refine tl_as hf rfl (by decide) fun a hf => ?_
  refine tl_nil ?_
  refine wret ?_
  try simp only [Exit.then, Exit.inBlock]
  refine ret1 rfl hf rfl ?_
  rintro _ rfl
  exact ⟨_, rfl, e, rfl⟩
theorem q7_spec (u : Bool) (h : (Dv (ptE dtE) G (some d)).p v W) (h1 : (Dv (ptE boolE) G2 (some u)).p v1 W) : Calls Tryz.prog 142 #[v, v1] W (Post (E (.bool (d.1 == 2 && u))) W) := by
  refine enter (args := [v, v1]) (As := [Dv (ptE dtE) G (some d), Dv (ptE boolE) G2 (some u)]) Tryz.func142 rfl Tryz.ntmps142 (Nat.le_of_ble_eq_true rfl) ?_ (fun a hf => ?_) (Nat.le_of_ble_eq_true rfl)
  rotate_left
  dsimp only [params, Nat.reduceAdd] at hf
  rotate_right
  · exact arg2 h h1
  have e := Ext.rfl' W
  repeat refine seq ?_
  refine regn0 ?_
  refine tl_as hf rfl (by decide) fun a hf => ?_
  refine tl_nil ?_
  repeat refine seq ?_
  refine regn 6 hf (by decide +kernel) ?_
  refine st (fldD Tryz.underlying26 rfl T3 (by decide) (Fld.fst Fld.refl) (isR rfl)) ?_
  refine st (ldI T3 (isR rfl)) ?_
  refine st (eql rfl rfl) ?_
  refine st (mv rfl) ?_
  refine sgE rfl rfl (.k 1 rfl .n) (fun hgd => ldB T4 (isR rfl)) ?_
  refine st (pkAnd rfl rfl (fun h => by rw [h]; rfl)) ?_
  refine en fun a w e' hf => ?_
  replace e := Ext.tr e e'
  clear e'
  refine tl_as hf rfl (by decide) fun a hf => ?_
  refine tl_nil ?_
  refine wret ?_
  try simp only [Exit.then, Exit.inBlock]
  refine ret1 rfl hf rfl ?_
  rintro _ rfl
  exact ⟨_, rfl, e, rfl⟩
theorem q8_spec (h : (Dv (ptE dtE) G (some d)).p v W) (h1 : (Dv (ptE (ptE (grE N))) G2 (some (some g))).p v1 W) : Calls Tryz.prog 143 #[v, v1] W (Post (E (.bool (d.1 == 2 && decide ((1024 : Int) ≤ (g.2.length : Nat))))) W) := by
  refine enter (args := [v, v1]) (As := [Dv (ptE dtE) G (some d), Dv (ptE (ptE (grE N))) G2 (some (some g))]) Tryz.func143 rfl Tryz.ntmps143 (Nat.le_of_ble_eq_true rfl) ?_ (fun a hf => ?_) (Nat.le_of_ble_eq_true rfl)
  rotate_left
  dsimp only [params, Nat.reduceAdd] at hf
  rotate_right
  · exact arg2 h h1
  have e := Ext.rfl' W
  repeat refine seq ?_
  refine regn0 ?_
  refine tl_as hf rfl (by decide) fun a hf => ?_
  refine tl_nil ?_
  repeat refine seq ?_
  refine regn 11 hf (by decide +kernel) ?_
  refine st (fldD Tryz.underlying26 rfl T3 (by decide) (Fld.fst Fld.refl) (isR rfl)) ?_
  refine st (ldI T3 (isR rfl)) ?_
  refine st (eql rfl rfl) ?_
  refine st (mv rfl) ?_
  refine sgE rfl rfl (.k 1 rfl .n) (fun hgd => ldD T38 (isR rfl)) ?_
  refine sgE rfl rfl (.c 7 rfl (fun h => h) .n) (fun hgd => nilC (isR rfl)) ?_
  refine sgE rfl rfl (.c 8 rfl (fun h => h) .n) (fun hgd => fldD Tryz.underlying150 rfl T148 (by decide) (Fld.snd Fld.refl rfl) (isR rfl)) ?_
  refine sgE rfl rfl (.c 9 rfl (fun h => h) .n) (fun hgd => ldD T148 (isR rfl)) ?_
  refine sgE rfl rfl (.c 10 rfl (fun h => h) .n) (fun hgd => lenM Tryz.underlying148 (isR rfl)) ?_
  refine sgE rfl rfl (.c 11 rfl (fun h => h) .n) (fun hgd => geq rfl rfl) ?_
  refine st (pkAnd rfl rfl (fun h => by rw [h]; rfl)) ?_
  refine en fun a w e' hf => ?_
  replace e := Ext.tr e e'
  clear e'
  refine tl_as hf rfl (by decide) fun a hf => ?_
  refine tl_nil ?_
  refine wret ?_
  try simp only [Exit.then, Exit.inBlock]
  refine ret1 rfl hf rfl ?_
  rintro _ rfl
  exact ⟨_, rfl, e, rfl⟩
end
end Go.Mono

namespace Go.Mono
open Go Go.RowKit
/-- a relation that holds of all growth -/
structure RelJ (S : World → World → Prop) : Prop where
  tr : ∀ {a b c}, S a b → S b c → S a c
  ext : ∀ {a b}, Ext a b → S a b
class StJ (S : World → World → Prop) (A : VA) : Prop where
  av : ∀ v w w', S w w' → A.p v w → A.p v w'
class StJL (S : World → World → Prop) (L : Env) : Prop where
  av : ∀ t A, look L t = some A → ∀ v w w', S w w' → A.p v w → A.p v w'
instance (S : World → World → Prop) (v : Value) : StJ S (E v) := ⟨fun _ _ _ _ h => h⟩
instance (S : World → World → Prop) : StJ S Any := ⟨fun _ _ _ _ h => h⟩
instance (S : World → World → Prop) : StJL S [] := ⟨fun t A h => by simp [look] at h⟩
instance (S : World → World → Prop) (k : Nat) (A : VA) (L : Env) [h : StJ S A] [hl : StJL S L] : StJL S ((k, A) :: L) := ⟨fun t B ht => by
  by_cases hkt : k = t
  · subst hkt; rw [look_cons_same] at ht; cases ht; exact h.av
  · rw [look_cons_ne _ _ hkt] at ht; exact hl.av t B ht⟩
structure XOpJ (P : Program) (w0 : World) (S : World → World → Prop) (F : World → Prop) (L : Env) (o : Oper) (A : VA) : Prop where
  out : ∀ ρ w, Ext w0 w → (∀ x ∈ o.op.operands, ∀ B, opd L x = some B → B.p (ρ x) w) → OpR P o ρ w (fun v w' => S w w' ∧ A.p v w' ∧ F w')
end Go.Mono
namespace Go.Mono
open Go Go.RowKit

/-- the operations behind the one that changes -/
def RegJP (P : Program) (ops : Array Oper) (w0 : World) (S : World → World → Prop) (F : World → Prop) : List Oper → (Env → Prop) → Env → Prop
  | [], K, L2 => K L2
  | o :: rest, K, L2 => ∃ A, (∀ w1, S w0 w1 → F w1 → GOp P ops w1 L2 o A) ∧ RegJP P ops w0 S F rest K (push o.dst A L2)
/-- the operations in the order of the text; fr tells of those ahead of the one that changes: 0: ahead of it, forgotten behind it; 1: free; 2: ahead of it, known behind it; L: for these, L2: for what stands behind -/
def RegJQ (P : Program) (ops : Array Oper) (w0 : World) (S : World → World → Prop) (F : World → Prop) : List Nat → List Oper → (Env → Prop) → Env → Env → Prop
  | [], o :: rest, K, L, L2 => o.guard = none ∧ ∃ A, XOpJ P w0 S F L o A ∧ RegJP P ops w0 S F rest K (push o.dst A L2)
  | c :: fr, o :: rest, K, L, L2 => ∃ A, (c ≠ 1 → GOp P ops w0 L o A) ∧ (c = 1 → ∀ w1, S w0 w1 → GOp P ops w1 L o A) ∧ (c ≠ 0 → StJ S A) ∧ RegJQ P ops w0 S F fr rest K (push o.dst A L) (push o.dst (if c ≠ 0 then A else Any) L2)
  | _, _, _, _, _ => False

section
variable {P : Program} {ops : Array Oper} {Q : Exit → Act → World → Prop} {w0 : World} {n : Nat} {ds : List Deferred} {r : Option Nat}

theorem RegJP_As {S : World → World → Prop} {F : World → Prop} {K : Env → Prop} : ∀ (M : List Oper) (k : Nat) (L : Env), (∀ j, j < M.length → ops[k + j]? = M[j]?) → RegJP P ops w0 S F M K L →
    ∃ As : Nat → VA, (∀ j o, j < M.length → ops[k + j]? = some o → ∀ w1, S w0 w1 → F w1 → GOp P ops w1 (envF ops L As k j) o (As j)) ∧ K (envF ops L As k M.length)
  | [], k, L, _, h => ⟨fun _ => Any, fun j o hj => by simp at hj, h⟩
  | o :: M, k, L, hM, ⟨A, hA, hr⟩ => by
    have h0 : ops[k]? = some o := by simpa using hM 0 (by simp)
    have hd : dstOf ops k = o.dst := by simp [dstOf, h0]
    obtain ⟨As, h1, h2⟩ := RegJP_As M (k + 1) (push o.dst A L) (fun j hj => by
      have := hM (j + 1) (by simpa using hj)
      rw [show k + 1 + j = k + (j + 1) by omega]
      simpa using this) hr
    refine ⟨consFY A As, ?_, ?_⟩
    · intro j o' hj ho'
      cases j with
      | zero =>
        rw [Nat.add_zero, h0] at ho'
        obtain rfl := Option.some.inj ho'
        exact hA
      | succ j =>
        rw [envFY_cons, hd]
        exact h1 j o' (by simpa using hj) (by rw [show k + 1 + j = k + (j + 1) by omega]; exact ho')
    · rw [List.length_cons, envFY_cons, hd]
      exact h2
theorem RegJQ_As {S : World → World → Prop} {F : World → Prop} {K : Env → Prop} : ∀ (M : List Oper) (fr : List Nat) (k : Nat) (L L2 : Env), (∀ j, j < M.length → ops[k + j]? = M[j]?) → RegJQ P ops w0 S F fr M K L L2 →
    ∃ As : Nat → VA, fr.length < M.length ∧ (∀ j o, j < fr.length → ops[k + j]? = some o → (frQ fr j = false → GOp P ops w0 (envF ops L As k j) o (As j)) ∧ (frQ fr j = true → ∀ w1, S w0 w1 → GOp P ops w1 (envF ops L As k j) o (As j)) ∧ (kpQ fr j = true → StJ S (As j))) ∧
      (∀ o, ops[k + fr.length]? = some o → o.guard = none ∧ XOpJ P w0 S F (envF ops L As k fr.length) o (As fr.length)) ∧
      (∀ j o, fr.length < j → j < M.length → ops[k + j]? = some o → ∀ w1, S w0 w1 → F w1 → GOp P ops w1 (envF ops L2 (fun j => if kpQ fr j = true ∨ fr.length ≤ j then As j else Any) k j) o (As j)) ∧
      K (envF ops L2 (fun j => if kpQ fr j = true ∨ fr.length ≤ j then As j else Any) k M.length)
  | [], [], _, _, _, _, h => h.elim
  | [], _ :: _, _, _, _, _, h => h.elim
  | o :: M, [], k, L, L2, hM, ⟨hg, A, h1, h2⟩ => by
    have h0 : ops[k]? = some o := by simpa using hM 0 (by simp)
    have hd : dstOf ops k = o.dst := by simp [dstOf, h0]
    obtain ⟨As, h3, h4⟩ := RegJP_As M (k + 1) (push o.dst A L2) (fun j hj => by
      have := hM (j + 1) (by simpa using hj)
      rw [show k + 1 + j = k + (j + 1) by omega]
      simpa using this) h2
    have e : (fun j => if kpQ [] j = true ∨ ([] : List Nat).length ≤ j then consFY A As j else Any) = consFY A As := by
      funext j
      simp
    refine ⟨consFY A As, by simp, fun j o hj => by simp at hj, fun o' ho' => ?_, fun j o' hj hj2 ho' => ?_, ?_⟩
    · rw [List.length_nil, Nat.add_zero, h0] at ho'
      obtain rfl := Option.some.inj ho'
      exact ⟨hg, h1⟩
    · rw [e]
      cases j with
      | zero => simp at hj
      | succ j =>
        rw [envFY_cons, hd]
        exact h3 j o' (by simpa using hj2) (by rw [show k + 1 + j = k + (j + 1) by omega]; exact ho')
    · rw [e, List.length_cons, envFY_cons, hd]
      exact h4
  | o :: M, c :: fr, k, L, L2, hM, ⟨A, hA1, hA2, hA3, hr⟩ => by
    have h0 : ops[k]? = some o := by simpa using hM 0 (by simp)
    have hd : dstOf ops k = o.dst := by simp [dstOf, h0]
    obtain ⟨As, h1, h2, h3, h5, h4⟩ := RegJQ_As M fr (k + 1) _ _ (fun j hj => by
      have := hM (j + 1) (by simpa using hj)
      rw [show k + 1 + j = k + (j + 1) by omega]
      simpa using this) hr
    have hc1 : kpQ (c :: fr) 0 = true ↔ c ≠ 0 := by
      unfold kpQ
      cases c with
      | zero => simp
      | succ n => exact ⟨fun _ => Nat.succ_ne_zero n, fun _ => rfl⟩
    have hc2 : frQ (c :: fr) 0 = true ↔ c = 1 := by
      unfold frQ
      simp [Nat.beq_eq]
    have e : (fun j => if kpQ (c :: fr) j = true ∨ (c :: fr).length ≤ j then consFY A As j else Any) = consFY (if c ≠ 0 then A else Any) (fun j => if kpQ fr j = true ∨ fr.length ≤ j then As j else Any) := by
      funext j
      cases j with
      | zero =>
        show (if kpQ (c :: fr) 0 = true ∨ fr.length + 1 ≤ 0 then A else Any) = (if c ≠ 0 then A else Any)
        have : ¬ fr.length + 1 ≤ 0 := by omega
        simp [this, hc1]
      | succ j =>
        show (if kpQ fr j = true ∨ fr.length + 1 ≤ j + 1 then As j else Any) = _
        simp [consFY]
    refine ⟨consFY A As, by simp only [List.length_cons]; omega, ?_, ?_, ?_, ?_⟩
    · intro j o' hj ho'
      cases j with
      | zero =>
        rw [Nat.add_zero, h0] at ho'
        obtain rfl := Option.some.inj ho'
        exact ⟨fun h => hA1 fun hc => (by rw [hc2.2 hc] at h; cases h), fun h => hA2 (hc2.1 h), fun h => hA3 (hc1.1 h)⟩
      | succ j =>
        rw [envFY_cons, hd]
        exact h2 j o' (by simpa using hj) (by rw [show k + 1 + j = k + (j + 1) by omega]; exact ho')
    · intro o' ho'
      rw [List.length_cons, envFY_cons, hd]
      exact h3 o' (by rw [show k + 1 + fr.length = k + (fr.length + 1) by omega]; exact ho')
    · intro j o' hj hj2 ho'
      rw [e]
      cases j with
      | zero => simp at hj
      | succ j =>
        rw [envFY_cons, hd]
        exact h5 j o' (by simpa using hj) (by simpa using hj2) (by rw [show k + 1 + j = k + (j + 1) by omega]; exact ho')
    · rw [e, List.length_cons, envFY_cons, hd]
      exact h4

structure InvJ (ops : Array Oper) (m x : Nat) (kp : Nat → Bool) (S : World → World → Prop) (F : World → Prop) (n : Nat) (ds : List Deferred) (w0 : World) (L : Env) (As : Nat → VA) (listed : Array Bool) (a : Act) (w : World) : Prop where
  ext : S w0 w
  pre : listed.getD x true = false → Ext w0 w
  post : listed.getD x false = true → F w
  size : a.tmps.size = n
  defers : a.defers = ds
  hL : ∀ t A, look L t = some A → (∀ j, j < m → dstOf ops j ≠ some t) → A.p (a.eval (.tmp t)) w
  hA : ∀ i, i < m → listed.getD i false = true → (listed.getD x true = false ∨ kp i = true ∨ x ≤ i) → ∀ d, dstOf ops i = some d → (As i).p (a.eval (.tmp d)) w

theorem wpAny_mainJ {m x : Nat} {fr kp : Nat → Bool} {S : World → World → Prop} (hR : RelJ S) {F : World → Prop} (hx0 : x < m) (hFst : ∀ w w', Ext w w' → F w → F w') {L : Env} {As : Nat → VA} (hm : m ≤ ops.size) (hchk : ∀ i, i < m → chkOp ops m n i = true) (hchk2 : ∀ i, m ≤ i → i < ops.size → chkTail ops i = true)
    (hanc : ∀ j, j < x → fr j = false → covers ops 12 x j = true) (hpo : ∀ j, x < j → j < m → covers ops 12 j x = true) (hfk : ∀ j, fr j = true → kp j = true)
    (hfree : ∀ i o, i < x → fr i = true → ops[i]? = some o → ∀ t, (t ∈ tmpsOf o ∨ gdst ops o = some t) → ∀ j, j < m → dstOf ops j = some t → kp j = true ∧ j ≠ x)
    (hopsP : ∀ j o, x < j → j < m → ops[j]? = some o → ∀ w1, S w0 w1 → F w1 → GOp P ops w1 (envF ops L (fun j => if kp j = true ∨ x ≤ j then As j else Any) 0 j) o (As j))
    (hops : ∀ j o, j < x → ops[j]? = some o → (fr j = false → GOp P ops w0 (envF ops L As 0 j) o (As j)) ∧ (fr j = true → ∀ w1, S w0 w1 → GOp P ops w1 (envF ops L As 0 j) o (As j)) ∧ (kp j = true → StJ S (As j)))
    (hX : ∀ o, ops[x]? = some o → o.guard = none ∧ XOpJ P w0 S F (envF ops L As 0 x) o (As x)) (hLav : StJL S L)
    (hend : ∀ a w, S w0 w → F w → FrD n ds a w (envF ops L (fun j => if kp j = true ∨ x ≤ j then As j else Any) 0 m) → wpListIn (FW r) 0 P ops Q (ops.toList.drop m) a w) :
    ∀ (c : Nat) (listed : Array Bool) (a : Act) (w : World), (List.range m).countP (fun i => !listed.getD i true) = c → listed.size = ops.size →
      (∀ j, m ≤ j → j < ops.size → listed.getD j true = false) → LD ops listed → InvJ ops m x kp S F n ds w0 L As listed a w → wpAnyIn (FW r) 0 P .any ops Q (c + (ops.size - m)) listed a w
  | 0, listed, a, w, hc, hsz, hun, hld, hi => by
    have hall : ∀ j, j < m → listed.getD j false = true := by
      intro j hj
      have := (List.countP_eq_zero.1 hc) j (List.mem_range.2 hj)
      have hjl : j < listed.size := by omega
      simpa [hjl] using this
    rw [Nat.zero_add]
    refine wpAny_tail m hchk2 (ops.size - m) m (by omega) (Nat.le_refl _) listed a w hall hun hsz hld (hend a w hi.ext (hi.post (hall x hx0)) ⟨hi.size, hi.defers, fun t A ht => ?_⟩)
    rcases look_envF L _ t A m ht with ⟨j, hj, hd, rfl⟩ | ⟨hn, hl⟩
    · by_cases hk : kp j = true ∨ x ≤ j
      · rw [if_pos hk]
        exact hi.hA j hj (hall j hj) (.inr hk) t hd
      · rw [if_neg hk]; trivial
    · exact hi.hL t A hl hn
  | c + 1, listed, a, w, hc, hsz, hun, hld, hi => by
    have facts : ∀ i o, i < m → ops[i]? = some o → (∀ e ∈ o.after, Region.binds .any e = true → e.on < i) ∧ (∀ d, o.dst = some d → d < n) ∧
        (∀ t, t ∈ tmpsOf o ∨ gdst ops o = some t → ∀ j, j < m → dstOf ops j = some t → bnd ops i j = true) ∧ (∀ j, j < m → j ≠ i → ∀ d, o.dst = some d → dstOf ops j ≠ some d) := by
      intro i o hlt ho
      have := hchk i hlt
      simp only [chkOp, ho, Bool.and_eq_true, Array.all_eq_true_iff_forall_mem, Bool.or_eq_true, Bool.not_eq_true', List.all_eq_true, List.mem_range, List.mem_append, Option.mem_toList] at this
      obtain ⟨⟨⟨h1, h2⟩, h3⟩, h4⟩ := this
      refine ⟨fun e he hb => ?_, fun d hd => ?_, fun t ht j hj hd => ?_, fun j hj hne d hd hd' => ?_⟩
      · rcases h1 e he with h | h
        · rw [hb] at h; cases h
        · simpa [Nat.blt_eq] using h
      · simpa [hd, Nat.blt_eq] using h2
      · have := h3 t ht j hj
        rcases this with h | h
        · rw [hd] at h; simp at h
        · exact h
      · have := h4 j hj
        rcases this with h | h
        · exact hne (Nat.eq_of_beq_eq_true h)
        · rw [hd, hd'] at h; simp at h
    have prog : ∃ i, i < m ∧ listed.getD i true = false ∧ ∀ j, j < i → listed.getD j true = true := by
      have hex : ∃ i, i < m ∧ listed.getD i true = false := by
        have hpos : 0 < (List.range m).countP (fun i => !listed.getD i true) := by omega
        obtain ⟨i, hi, hb⟩ := List.countP_pos_iff.1 hpos
        exact ⟨i, List.mem_range.1 hi, by simpa using hb⟩
      obtain ⟨i, hlt, hb⟩ := hex
      induction i using Nat.strongRecOn with
      | _ i ih =>
        by_cases h : ∃ j, j < i ∧ listed.getD j true = false
        · obtain ⟨j, hj, hjb⟩ := h
          exact ih j hj (by omega) hjb
        · refine ⟨i, hlt, hb, fun j hj => ?_⟩
          cases hjb : listed.getD j true with
          | true => rfl
          | false => exact absurd ⟨j, hj, hjb⟩ h
    obtain ⟨i0, hi0, hu0, hbelow⟩ := prog
    have hready : i0 ∈ Region.ready .any ops listed := by
      have ho : ops[i0]? = some (ops[i0]'(by omega)) := by simp
      refine mem_ready.2 ⟨hu0, _, ho, fun e he hb => ?_⟩
      have hlt := (facts i0 _ hi0 ho).1 e he hb
      have := hbelow _ hlt
      have hjl : e.on < listed.size := by omega
      simpa [hjl] using this
    rw [show c + 1 + (ops.size - m) = (c + (ops.size - m)) + 1 by omega]
    refine ⟨fun h0 => (by rw [h0] at hready; cases hready), fun i hir => ?_⟩
    obtain ⟨hu, o, ho, hall⟩ := mem_ready.1 hir
    have hilt : i < ops.size := (Array.getElem?_eq_some_iff.1 ho).1
    have listed_of_bnd : ∀ j, bnd ops i j = true → listed.getD j false = true := by
      intro j hb
      simp only [bnd, ho] at hb
      obtain ⟨e, he, hb⟩ := Array.any_eq_true'.1 hb
      simp only [Bool.and_eq_true] at hb
      have := hall e he hb.1
      rwa [Nat.eq_of_beq_eq_true hb.2] at this
    have him : i < m := by
      rcases Nat.lt_or_ge i m with h | h
      · exact h
      · have hc := hchk2 i h hilt
        simp only [chkTail, ho, Bool.and_eq_true, List.all_eq_true, List.mem_range] at hc
        have := cov hld 12 i i0 (hc.2 i0 (by omega)) (fun o' ho' e he hb => by
          rw [ho] at ho'
          obtain rfl := Option.some.inj ho'
          exact hall e he hb)
        rw [not_listed hu0] at this
        cases this
    obtain ⟨f1, f2, f3, f4⟩ := facts i o him ho
    have hlx : x < i → listed.getD x false = true := fun hxi => cov hld 12 i x (hpo i hxi him) (fun o' ho' e he hb => by
      rw [ho] at ho'
      obtain rfl := Option.some.inj ho'
      exact hall e he hb)
    have hxun : i < x → fr i = false → listed.getD x true = false := by
      intro hix hfr
      cases hlx : listed.getD x true with
      | false => rfl
      | true =>
        have hxl : x < listed.size := by omega
        have hlx' : listed.getD x false = true := by simpa [hxl] using hlx
        have := cov hld 12 x i (hanc i hix hfr) (fun o' ho' e he hb => hld x o' hlx' ho' e he hb)
        rw [not_listed hu] at this
        cases this
    have hcond : i ≤ x → ∀ j, j < m → (∃ t, (t ∈ tmpsOf o ∨ gdst ops o = some t) ∧ dstOf ops j = some t) → (listed.getD x true = false ∨ kp j = true ∨ x ≤ j) := by
      rintro hix0 j hj ⟨t, ht, hd⟩
      by_cases hix : i = x
      · exact .inl (hix ▸ hu)
      · cases hfr : fr i with
        | true => exact .inr (.inl ((hfree i o (by omega) hfr ho t ht j hj hd).1))
        | false => exact .inl (hxun (by omega) hfr)
    have byLook : i ≤ x → ∀ t, (t ∈ tmpsOf o ∨ gdst ops o = some t) → ∀ B, look (envF ops L As 0 i) t = some B → B.p (a.eval (.tmp t)) w := by
      intro hix t ht B hB
      rcases look_envF L As t B i hB with ⟨j, hj, hd, rfl⟩ | ⟨hn, hl⟩
      · exact hi.hA j (by omega) (listed_of_bnd j (f3 t ht j (by omega) hd)) (hcond hix j (by omega) ⟨t, ht, hd⟩) t hd
      · refine hi.hL t B hl fun j hj hd => ?_
        have hb := f3 t ht j hj hd
        simp only [bnd, ho] at hb
        obtain ⟨e, he, hb⟩ := Array.any_eq_true'.1 hb
        simp only [Bool.and_eq_true] at hb
        have hlt := f1 e he hb.1
        rw [Nat.eq_of_beq_eq_true hb.2] at hlt
        exact hn j hlt hd
    have byLookP : ∀ t, (t ∈ tmpsOf o ∨ gdst ops o = some t) → ∀ B, look (envF ops L (fun j => if kp j = true ∨ x ≤ j then As j else Any) 0 i) t = some B → B.p (a.eval (.tmp t)) w := by
      intro t ht B hB
      rcases look_envF L _ t B i hB with ⟨j, hj, hd, rfl⟩ | ⟨hn, hl⟩
      · by_cases hk : kp j = true ∨ x ≤ j
        · rw [if_pos hk]
          exact hi.hA j (by omega) (listed_of_bnd j (f3 t ht j (by omega) hd)) (.inr hk) t hd
        · rw [if_neg hk]; trivial
      · refine hi.hL t B hl fun j hj hd => ?_
        have hb := f3 t ht j hj hd
        simp only [bnd, ho] at hb
        obtain ⟨e, he, hb⟩ := Array.any_eq_true'.1 hb
        simp only [Bool.and_eq_true] at hb
        have hlt := f1 e he hb.1
        rw [Nat.eq_of_beq_eq_true hb.2] at hlt
        exact hn j hlt hd
    have ops1 : i ≤ x → ∀ x ∈ o.op.operands, ∀ B, opd (envF ops L As 0 i) x = some B → B.p (a.eval x) w := fun hix x hx B hB => by
      cases x with
      | tmp t => exact byLook hix t (.inl (List.mem_filterMap.2 ⟨.tmp t, by simpa using hx, rfl⟩)) B hB
      | const v => simp [opd] at hB; subst hB; rfl
      | global g => simp [opd] at hB; subst hB; rfl
      | func f => simp [opd] at hB; subst hB; rfl
    have ops2 : ∀ x' ∈ o.op.operands, ∀ B, opd (envF ops L (fun j => if kp j = true ∨ x ≤ j then As j else Any) 0 i) x' = some B → B.p (a.eval x') w := fun x' hx B hB => by
      cases x' with
      | tmp t => exact byLookP t (.inl (List.mem_filterMap.2 ⟨.tmp t, by simpa using hx, rfl⟩)) B hB
      | const v => simp [opd] at hB; subst hB; rfl
      | global g => simp [opd] at hB; subst hB; rfl
      | func f => simp [opd] at hB; subst hB; rfl
    have hdst : dstOf ops i = o.dst := by simp [dstOf, ho]
    have step : ∀ v w', S w w' → (i ≠ x → Ext w w') → (i = x → ∀ j, j < x → kp j = true → StJ S (As j)) → (As i).p v w' → (i = x → F w') → wpAnyIn (FW r) 0 P .any ops Q (c + (ops.size - m)) (listed.setIfInBounds i true) (a.put o.dst v) w' := by
      intro v w' hx hxe hxa hv hvF
      have stab : ∀ (A : VA) u, StJ S A → A.p u w → A.p u w' := fun A u hA h => hA.av _ _ _ hx h
      refine wpAny_mainJ hR hx0 hFst hm hchk hchk2 hanc hpo hfk hfree hopsP hops hX hLav hend c _ _ _ ?_ (by simpa using hsz) ?_ ?_ ?_
      · have := countP_upd m (fun j => !listed.getD j true) (fun j => !(listed.setIfInBounds i true).getD j true) i him (by simp only [hu, Bool.not_false])
          (by have hjl : i < listed.size := by omega
              simp [hjl]) (fun j hj => by simp only [getD_set_ne true (Ne.symm hj)])
        omega
      · intro j hj hj'
        rw [getD_set_ne true (by omega)]
        exact hun j hj hj'
      · exact hld.set fun o' ho' e he hb => by
          rw [ho] at ho'
          obtain rfl := Option.some.inj ho'
          exact hall e he hb
      · refine ⟨hR.tr hi.ext hx, fun hl => ?_, fun hl => ?_, by simp [hi.size], by simp [hi.defers], fun t A ht hn => ?_, fun j hj hl hcj d hd => ?_⟩
        · have hix : i ≠ x := by
            rintro rfl
            have hjl : i < listed.size := by omega
            simp [hjl] at hl
          rw [getD_set_ne true hix] at hl
          exact Ext.tr (hi.pre hl) (hxe hix)
        · by_cases hix : i = x
          · exact hvF hix
          · rw [getD_set_ne false hix] at hl
            exact hFst _ _ (hxe hix) (hi.post hl)
        · have h0 := stab A _ ⟨hLav.av t A ht⟩ (hi.hL t A ht hn)
          cases hod : o.dst with
          | none => exact h0
          | some d =>
            have : d ≠ t := fun e => hn i him (by rw [hdst, hod, e])
            rw [eval_put_ne this]
            exact h0
        · by_cases hji : j = i
          · subst hji
            rw [hdst] at hd
            rw [hd, eval_put_same (by rw [hi.size]; exact f2 d hd)]
            exact hv
          · have hl' : listed.getD j false = true := by rwa [getD_set_ne false (Ne.symm hji)] at hl
            have hcj' : listed.getD x true = false ∨ kp j = true ∨ x ≤ j := by
              by_cases hix : i = x
              · exact .inl (hix ▸ hu)
              · rw [getD_set_ne true hix] at hcj
                exact hcj
            have h1 := hi.hA j hj hl' hcj' d hd
            have h0 : (As j).p (a.eval (.tmp d)) w' := by
              by_cases hix : i = x
              · have hjx : j < x := by
                  rcases Nat.lt_trichotomy j x with h | h | h
                  · exact h
                  · exact absurd (h.trans hix.symm) hji
                  · have := cov hld 12 j x (hpo j h hj) (fun o' ho' e he hb => hld j o' hl' ho' e he hb)
                    rw [not_listed (hix ▸ hu)] at this
                    cases this
                refine stab _ _ (hxa hix j hjx ?_) h1
                rcases hcj with h | h | h
                · have hxl : x < listed.size := by omega
                  subst hix
                  simp [hxl] at h
                · exact h
                · omega
              · exact (As j).st _ _ _ (hxe hix) h1
            cases hod : o.dst with
            | none => exact h0
            | some d' =>
              have : d' ≠ d := fun e => f4 j hj hji d' hod (by rw [hd, e])
              rw [eval_put_ne this]
              exact h0
    unfold wpOpIn
    simp only [ho]
    by_cases hix : i = x
    · obtain ⟨hgd, hxo⟩ := hX o (hix ▸ ho)
      have hw : Region.wanted o (yielded ops a.tmps) = true := by unfold Region.wanted; rw [hgd]
      rw [if_pos hw]
      have hpre : Ext w0 w := hi.pre (hix ▸ hu)
      exact (hxo.out a.eval w hpre (hix ▸ ops1 (Nat.le_of_eq hix))).wp fun v w' hv => step v w' hv.1 (fun h => absurd hix h) (fun _ j hj => by
        have hoj : ops[j]? = some (ops[j]'(by omega)) := by simp
        exact fun hfj => (hops j _ hj hoj).2.2 hfj) (hix ▸ hv.2.1) (fun _ => hv.2.2)
    · have hg : if Region.wanted o (yielded ops a.tmps) then OpR P o a.eval w (fun v w' => Ext w w' ∧ (As i).p v w') else (As i).p undef w := by
        by_cases hlt : i < x
        · cases hfr : fr i with
          | true => exact (hops i o hlt ho).2.1 hfr w hi.ext a w (Ext.rfl' w) (ops1 (by omega)) (fun d B hd hB => byLook (by omega) d (.inr hd) B hB)
          | false => exact (hops i o hlt ho).1 hfr a w (hi.pre (hxun hlt hfr)) (ops1 (by omega)) (fun d B hd hB => byLook (by omega) d (.inr hd) B hB)
        · exact hopsP i o (by omega) him ho w hi.ext (hi.post (hlx (by omega))) a w (Ext.rfl' w) ops2 (fun d B hd hB => byLookP d (.inr hd) B hB)
      split
      · rename_i hw
        rw [if_pos hw] at hg
        exact (hg.wp fun v w' hv => step v w' (hR.ext hv.1) (fun _ => hv.1) (fun h => absurd h hix) hv.2 (fun h => absurd h hix))
      · rename_i hw
        rw [if_neg hw] at hg
        exact ⟨fun _ _ => trivial, step undef w (hR.ext (Ext.rfl' w)) (fun _ => Ext.rfl' _) (fun h => absurd h hix) hg (fun h => absurd h hix)⟩

def chkJ (ops : Array Oper) (m : Nat) (fr : List Nat) : Bool :=
  Nat.blt fr.length m && ((List.range fr.length).all fun j => frQ fr j || covers ops 12 fr.length j) && ((List.range m).all fun j => Nat.ble j fr.length || covers ops 12 j fr.length) &&
  ((List.range fr.length).all fun i => !frQ fr i || match ops[i]? with
    | none => false
    | some o => (tmpsOf o ++ (gdst ops o).toList).all fun t => (List.range m).all fun j => (match dstOf ops j with | some d => !Nat.beq d t | none => true) || (kpQ fr j && Nat.blt j fr.length))
/-- THE RULE: m operations; the one behind those that fr tells of changes blocks of S -/
theorem regJ {id : Nat} {ops : Array Oper} {L : Env} {a : Act} {w : World} (m : Nat) (fr : List Nat) (S : World → World → Prop) (hR : RelJ S) (F : World → Prop) (hFst : ∀ w w', Ext w w' → F w → F w') (hmix : P.follows .mixedOrders = true) (hf : FrD n ds a w L) [hL : StJL S L] (hchk : chk ops m n = true) (hchkZ : chkJ ops m fr = true)
    (h : RegJQ P ops w S F fr (ops.toList.take m) (fun L' => ∀ a' w', S w w' → F w' → FrD n ds a' w' L' → wpListIn (FW r) 0 P ops Q (ops.toList.drop m) a' w') L L) : (Code.region id ops true).wpIn (FW r) 0 P Q a w := by
  simp only [chk, Bool.and_eq_true, List.all_eq_true, List.mem_range, Bool.or_eq_true, Nat.ble_eq] at hchk
  obtain ⟨⟨hm, h1⟩, h2⟩ := hchk
  refine wpIn_region_any hmix ?_
  have hlen : (ops.toList.take m).length = m := by simp; omega
  obtain ⟨As, hfl, hAs, hX, hPo, hK⟩ := RegJQ_As (ops := ops) (ops.toList.take m) fr 0 L L (fun j hj => by
    rw [hlen] at hj
    rw [Nat.zero_add, List.getElem?_take, if_pos hj]; simp) h
  rw [hlen] at hK hfl hPo
  simp only [chkJ, Bool.and_eq_true, List.all_eq_true, List.mem_range, Bool.or_eq_true, Nat.blt_eq, Nat.ble_eq] at hchkZ
  obtain ⟨⟨⟨hx, z1⟩, z3⟩, z2⟩ := hchkZ
  have hext : Ext w { w with drawn := w.drawn + 1 } := Ext.drew w
  have := wpAny_mainJ (P := P) (ops := ops) (Q := Q) (w0 := w) (n := n) (ds := ds) (m := m) (x := fr.length) (fr := frQ fr) (kp := kpQ fr) (S := S) (F := F) (r := r) (L := L) (As := As) hR hx hFst hm h1 (fun i hi hi' => by
      rcases h2 i hi' with h | h
      · simp only [Nat.blt_eq] at h; omega
      · exact h) (fun j hj hfj => by
      rcases z1 j hj with h | h
      · rw [hfj] at h; cases h
      · exact h) (fun j hj hjm => by
      rcases z3 j hjm with h | h
      · omega
      · exact h) (fun j h => by
      unfold frQ at h
      unfold kpQ
      rw [Nat.eq_of_beq_eq_true h]; rfl) (fun i o hi hfi ho t ht j hj hd => by
      have := z2 i hi
      rw [hfi, ho] at this
      simp only [Bool.not_true, Bool.false_eq_true, false_or, List.all_eq_true, List.mem_append, Option.mem_toList, List.mem_range, Bool.or_eq_true] at this
      rcases this t ht j hj with h | h
      · rw [hd] at h; simp at h
      · rw [Bool.and_eq_true, Nat.blt_eq] at h
        exact ⟨h.1, by omega⟩) (fun j o hj hjm ho => hPo j o hj hjm (by simpa using ho)) (fun j o hj ho => hAs j o hj (by simpa using ho)) (fun o ho => hX o (by simpa using ho)) hL (fun a w hx hF hf => hK a w hx hF hf) m
    (Array.replicate ops.size false) a { w with drawn := w.drawn + 1 } ?_ (by simp) ?_ ?_ ⟨hR.ext hext, fun _ => hext, fun hl => ?_, hf.size, hf.defers, fun t A ht _ => A.st _ _ _ hext (hf.val t A ht), fun i hi hl => ?_⟩
  · rwa [show m + (ops.size - m) = ops.size by omega] at this
  · have : (List.range m).countP (fun i => !(Array.replicate ops.size false).getD i true) = (List.range m).length := by
      refine List.countP_eq_length.2 fun i hi => ?_
      have := List.mem_range.1 hi
      have hlt : i < ops.size := by omega
      simp [hlt]
    simpa using this
  · intro j _ hj
    simp [hj]
  · intro i o hl
    have : (Array.replicate ops.size false).getD i false = false := by
      by_cases hlt : i < ops.size <;> simp [hlt]
    rw [this] at hl; cases hl
  · have : (Array.replicate ops.size false).getD fr.length false = false := by
      by_cases hlt : fr.length < ops.size <;> simp [hlt]
    rw [this] at hl; cases hl
  · have : (Array.replicate ops.size false).getD i false = false := by
      by_cases hlt : i < ops.size <;> simp [hlt]
    rw [this] at hl; cases hl
end
section
variable {P : Program} {w0 : World} {L L2 : Env} {ty : TypeId} {pos : String} {aft : Array Edge}
variable {ops : Array Oper} {rest : List Oper} {K : Env → Prop} {A : VA} {op : Op} {dd : Nat} {S : World → World → Prop} {F : World → Prop} {fr : List Nat}
theorem jf (h : ∀ w1, S w0 w1 → OpC P w1 L ⟨some dd, op, ty, pos, aft, none⟩ A) [hA : StJ S A] (k : RegJQ P ops w0 S F fr rest K ((dd, A) :: L) ((dd, A) :: L2)) : RegJQ P ops w0 S F (1 :: fr) (⟨some dd, op, ty, pos, aft, none⟩ :: rest) K L L2 :=
  ⟨A, fun h => absurd rfl h, fun _ w1 h1 a w he hv _ => by simp only [Region.wanted, if_true]; exact (h w1 h1).out _ w he hv, fun _ => hA, k⟩
theorem ja (h : OpC P w0 L ⟨some dd, op, ty, pos, aft, none⟩ A) (k : RegJQ P ops w0 S F fr rest K ((dd, A) :: L) ((dd, Any) :: L2)) : RegJQ P ops w0 S F (0 :: fr) (⟨some dd, op, ty, pos, aft, none⟩ :: rest) K L L2 :=
  ⟨A, fun _ a w he hv _ => by simp only [Region.wanted, if_true]; exact h.out _ w he hv, fun h => (by cases h), fun h => absurd rfl h, k⟩
theorem jk (h : OpC P w0 L ⟨some dd, op, ty, pos, aft, none⟩ A) [hA : StJ S A] (k : RegJQ P ops w0 S F fr rest K ((dd, A) :: L) ((dd, A) :: L2)) : RegJQ P ops w0 S F (2 :: fr) (⟨some dd, op, ty, pos, aft, none⟩ :: rest) K L L2 :=
  ⟨A, fun _ a w he hv _ => by simp only [Region.wanted, if_true]; exact h.out _ w he hv, fun h => (by cases h), fun _ => hA, k⟩
theorem jx {d : Option Nat} (h : XOpJ P w0 S F L ⟨d, op, ty, pos, aft, none⟩ A) (k : RegJP P ops w0 S F rest K (push d A L2)) : RegJQ P ops w0 S F [] (⟨d, op, ty, pos, aft, none⟩ :: rest) K L L2 := ⟨rfl, A, h, k⟩
theorem je (h : K L2) : RegJP P ops w0 S F [] K L2 := h
end
end Go.Mono
namespace Go.Mono
open Go Go.RowKit
/-- old blocks stand, but those behind N that are cells of type t -/
structure ChT (N : Nat) (t : TypeId) (w w' : World) : Prop where
  chg : Chg (fun b => N ≤ b) w w'
  oth : ∀ (b : Nat) (o : Obj), w.heap[b]? = some o → (∀ cs m, o ≠ .cells cs t m) → w'.heap[b]? = some o
theorem ChT.rel (N : Nat) (t : TypeId) : RelJ (ChT N t) := ⟨fun h k => ⟨h.chg.tr k.chg, fun b o hb ho => k.oth b o (h.oth b o hb ho) ho⟩, fun e => ⟨e.chg _, fun b o hb ho => (e.block b (Array.getElem?_eq_some_iff.1 hb).1).trans hb⟩⟩
theorem Blk.chT {N : Nat} {t : TypeId} {w w' : World} {b : Nat} {cs : Array Value} {t' : TypeId} (h : Blk w b cs t') (k : ChT N t w w') (hne : t' ≠ t) : Blk w' b cs t' := k.oth b _ h fun cs m hh => hne (by cases hh; rfl)
instance (N : Nat) (t : TypeId) {α : Type} (e : Enc α) (G : Nat → Prop) (x : α) [h : InS G (fun b => N ≤ b)] : StJ (ChT N t) (Dv e G x) := ⟨fun v w w' k h1 => Dv.ch h1 k.chg h.in'⟩
instance (N : Nat) : InS (fun b => N ≤ b) (fun b => N ≤ b) := ⟨fun _ h => h⟩
theorem stJ_al {N : Nat} {t t' : TypeId} (B : Nat) (z : Value) (hne : t' ≠ t) : StJ (ChT N t) (AlA B z t') := ⟨fun v w w' k ⟨b, h1, h2, h3⟩ => ⟨b, h1, h2, h3.chT k hne⟩⟩
/-- the store of a struct into a fresh block -/
theorem xst {P : Program} {w0 : World} {L : Env} {ty : TypeId} {pos : String} {aft : Array Edge} {x y : Operand} {t : TypeId} {N B s : Nat} {z : Value} {A : VA} (ht : TI P t true s) (hx : opd L x = some (AlA B z t)) (hN : N ≤ B) (hz : z.cells.size = s)
    (hy : opd L y = some A) (hA : ∀ v w, A.p v w → ∃ cs, v = .agg cs ∧ cs.size = s ∧ cs.all (·.oneCell') = true) : XOpJ P w0 (ChT N t) (fun _ => True) L ⟨none, .store t x y, ty, pos, aft, none⟩ Any := by
  refine ⟨fun ρ w he hv => ?_⟩
  obtain ⟨b, hb, hxv, hB⟩ := hv x (by simp [Op.operands]) _ hx
  obtain ⟨cs, hyv, hcs, h1⟩ := hA _ _ (hv y (by simp [Op.operands]) _ hy)
  have hc : (Value.agg cs).cells = cs := rfl
  have hrun := run_storeCells_at (P := P) b 0 t cs.toList 0 z.cells w hB (by simp; omega) (fun v hv => by rw [Array.all_eq_true_iff_forall_mem] at h1; exact h1 v (by simpa using hv))
  simp only [Nat.add_zero, Array.length_toList, hcs] at hrun
  have hrun2 : OpR P ⟨none, .store t x y, ty, pos, aft, none⟩ ρ w (fun _ w' => w' = w.setRow b (z.cells.toList.take 0 ++ cs.toList ++ z.cells.toList.drop (0 + s)).toArray) := by
    simp [OpR, execOp, Instr.storeAt, Instr.sureAddr, hxv, hyv, storeVar, hc, ht.size, hcs, hrun]
  refine hrun2.mono ?_
  rintro v w' rfl
  have hg := grownBy_setRow w b (z.cells.toList.take 0 ++ cs.toList ++ z.cells.toList.drop (0 + s)).toArray
  refine ⟨⟨⟨hg.os, hg.tape, hg.output, hg.size, fun k hk hn => hg.block k hk fun hh => hn (by cases hh; omega)⟩, fun c o hc ho => ?_⟩, trivial, trivial⟩
  have hcb : c ≠ b := by
    rintro rfl
    rw [hB] at hc
    cases hc
    exact ho _ _ rfl
  exact (hg.block c (Array.getElem?_eq_some_iff.1 hc).1 fun hh => hcb (by cases hh; rfl)).trans hc
instance (S : World → World → Prop) {P : Program} {α β : Type} [DecidableEq α] (V : KV P α β) (l : List (α × β)) (i : α) (z : β) : StJ S (FndA V l i z) := ⟨fun _ _ _ _ h => h⟩
instance (S : World → World → Prop) (A B : VA) [hA : StJ S A] [hB : StJ S B] : StJ S (Tup [A, B]) := ⟨fun v w w' k ⟨vs, h1, h2, h3⟩ => ⟨vs, h1, h2, fun i C hC => by
  have h4 := h3 i C hC
  match i, hC with
  | 0, hC => simp at hC; subst hC; exact hA.av _ _ _ k h4
  | 1, hC => simp at hC; subst hC; exact hB.av _ _ _ k h4⟩⟩
/-- old blocks stand, but block b -/
theorem RelJ.one (b : Nat) : RelJ (Chg fun c => c = b) := ⟨fun h k => h.tr k, fun e => e.chg _⟩
instance (b : Nat) {α : Type} (e : Enc α) (G : Nat → Prop) (x : α) [h : InR G (some b)] : StJ (Chg fun c => c = b) (Dv e G x) := ⟨fun v w w' k h1 => Dv.ch h1 k fun c hc => h.in' c (by rw [hc])⟩
/-- the store of a struct into a known block; A says what was stored -/
theorem xstB {P : Program} {w0 : World} {L : Env} {ty : TypeId} {pos : String} {aft : Array Edge} {x y : Operand} {t bt : TypeId} {b s : Nat} {cs0 : Array Value} {A : VA} (ht : TI P t true s) (hx : opd L x = some (E (.pointer (some ⟨b, 0, none⟩)))) (hB : Blk w0 b cs0 bt) (hz : cs0.size = s)
    (hy : opd L y = some A) (hA : ∀ v w, A.p v w → ∃ cs, v = .agg cs ∧ cs.size = s ∧ cs.all (·.oneCell') = true) (hst : ∀ v w w', Chg (fun c => c = b) w w' → A.p v w → A.p v w') :
    XOpJ P w0 (Chg fun c => c = b) (fun w' => ∃ cs, Blk w' b cs bt ∧ A.p (.agg cs) w') L ⟨none, .store t x y, ty, pos, aft, none⟩ Any := by
  refine ⟨fun ρ w he hv => ?_⟩
  have hxv : ρ x = .pointer (some ⟨b, 0, none⟩) := hv x (by simp [Op.operands]) _ hx
  have hAy := hv y (by simp [Op.operands]) _ hy
  obtain ⟨cs, hyv, hcs, h1⟩ := hA _ _ hAy
  have hB' := hB.ext he
  have hc : (Value.agg cs).cells = cs := rfl
  have hrun := run_storeCells_at (P := P) b 0 bt cs.toList 0 cs0 w hB' (by simp; omega) (fun v hv => by rw [Array.all_eq_true_iff_forall_mem] at h1; exact h1 v (by simpa using hv))
  simp only [Nat.add_zero, Array.length_toList, hcs] at hrun
  have hfin : (cs0.toList.take 0 ++ cs.toList ++ cs0.toList.drop (0 + s)).toArray = cs := by
    have : cs0.toList.drop (0 + s) = [] := by rw [List.drop_eq_nil_iff]; simp; omega
    rw [this]; simp
  have hrun2 : OpR P ⟨none, .store t x y, ty, pos, aft, none⟩ ρ w (fun _ w' => w' = w.setRow b (cs0.toList.take 0 ++ cs.toList ++ cs0.toList.drop (0 + s)).toArray) := by
    simp [OpR, execOp, Instr.storeAt, Instr.sureAddr, hxv, hyv, storeVar, hc, ht.size, hcs, hrun]
  refine hrun2.mono ?_
  rintro v w' rfl
  rw [hfin]
  have hg := grownBy_setRow w b cs
  have hch : Chg (fun c => c = b) w (w.setRow b cs) := ⟨hg.os, hg.tape, hg.output, hg.size, fun k hk hn => hg.block k hk fun hh => hn (by cases hh; rfl)⟩
  refine ⟨hch, trivial, cs, setRow_heap _ _ _ _ _ _ hB', ?_⟩
  rw [← hyv]
  exact hst _ _ _ hch hAy
end Go.Mono

namespace Go.Mono
open Go Go.Proofs Go.RowKit Go.Gr
theorem bTs (id : FuncId) (caps : Array Value) (c : Int) : Tryz.prog.built 180 [(0, .func (.func id) #[] caps), (1, .int .i64 c)] = some #[.func (.func id) #[] caps, .int .i64 c] := by kernel_rfl
theorem first_at {l : List (Bool × Int)} {k : Nat} {b : Bool} {c : Int} (h : ∀ y ∈ l.take k, y.1 = false) (hx : l[k]? = some (b, c)) (hb : b = true) : firstOf l = c := by
  induction l generalizing k with
  | nil => simp at hx
  | cons y r ih =>
    cases k with
    | zero => simp at hx; subst hx; subst hb; rfl
    | succ k =>
      have h0 := h y (by simp)
      obtain ⟨y1, y2⟩ := y
      simp only at h0
      subst h0
      simp only [firstOf, Bool.false_eq_true, if_false]
      exact ih (fun z hz => h z (by rw [List.take_succ_cons]; exact List.mem_cons_of_mem _ hz)) (by simpa using hx)
theorem first_no {l : List (Bool × Int)} (h : ∀ y ∈ l.take l.length, y.1 = false) : firstOf l = 0 := by
  rw [List.take_length] at h
  induction l with
  | nil => rfl
  | cons y r ih =>
    have h0 := h y (by simp)
    obtain ⟨y1, y2⟩ := y
    simp only at h0
    subst h0
    simp only [firstOf, Bool.false_eq_true, if_false]
    exact ih fun z hz => h z (by simp [hz])
theorem wf_mm {m n : Int} (hm : (Lit.int .i64 m).wf = true) (hn : (Lit.int .i64 n).wf = true) : (Lit.int .i64 (min m n)).wf = true ∧ (Lit.int .i64 (max m n)).wf = true := by
  by_cases h : m ≤ n
  · rw [Int.min_eq_left h, Int.max_eq_right h]; exact ⟨hm, hn⟩
  · rw [Int.min_eq_right (by omega), Int.max_eq_left (by omega)]; exact ⟨hn, hm⟩
theorem ends_ok {m n : Int} (hm : (Lit.int .i64 m).wf = true) (hn : (Lit.int .i64 n).wf = true) : eKV.ok (Gr.ends m n) := wf_mm hm hn
theorem th0 : okT (0, 0) := ⟨by decide, by decide⟩
/-- a boxed boolean as a datum -/
theorem Blk.bo {w : World} {b : Nat} {t : TypeId} {c : Bool} (h : Blk w b #[.bool c] t) : (Dv (ptE boolE) Go.Mono.G0 (some c)).p (.pointer (some ⟨b, 0, none⟩)) w :=
  Dv.pt.2 ⟨_, rfl, fun h => h.elim, h.lt, _, rfl, fun i u hu => by
    have : (Addr.mk b 0 none).add i = ⟨b, i, none⟩ := by simp [Addr.add]; intro h; exact h.symm
    rw [this, h.cell]; simpa using hu⟩
instance (N B : Nat) (z : Value) : StJ (ChT N 147) (AlA B z 4) := stJ_al B z (by decide)
theorem wrong_spec {G : Nat → Prop} {M : Nat} (g : GT) (d : DT) (v : Value) (W : World) (h : (Dv (ptE (grE M)) G (some g)).p v W) (hw : (Lit.int .i64 d.2.1).wf = true) (hw2 : (Lit.int .i64 d.2.2.1).wf = true) :
    Calls Tryz.prog 103 #[v, dtV d] W (Post (E (I (wrongM g d))) W) := by
  refine enter (args := [v, dtV d]) (As := [Dv (ptE (grE M)) G0 (some g), Dv dtE G0 d]) Tryz.func103 rfl Tryz.ntmps103 (Nat.le_of_ble_eq_true rfl) ?_ (fun a hf => ?_) (Nat.le_of_ble_eq_true rfl)
  rotate_left
  dsimp only [params, Nat.reduceAdd] at hf
  rotate_right
  · exact arg2 (Dv.weak h fun b _ hb => hb.elim) (Dv.dt.2 rfl)
  have e := Ext.rfl' W
  repeat refine seq ?_
  refine regn0 ?_
  refine tl_boxP hf rfl (by decide) (fun _ h => h.elim) fun a w e' hf => ?_
  replace e := Ext.tr e e'
  clear e'
  refine tl_boxP hf rfl (by decide) (fun _ h => h.elim) fun a w e' hf => ?_
  replace e := Ext.tr e e'
  clear e'
  refine tl_as hf rfl (by decide) fun a hf => ?_
  refine tl_nil ?_
  obtain ⟨N, hN⟩ : ∃ N, N = w.heap.size := ⟨_, rfl⟩
  have hNW : W.heap.size ≤ N := by rw [hN]; exact e.size
  replace hf := hf.upd 2 rfl (fun v hv => Dv.weak (G' := fun b => N ≤ b) hv (fun b hb hn => absurd hb (by omega)))
  replace hf := hf.upd 3 rfl (fun v hv => Dv.weak (G' := fun b => N ≤ b) hv (fun b hb hn => absurd hb (by omega)))
  have hNs : N ≤ w.heap.size := Nat.le_of_eq hN
  clear hN
  replace hf := hf.keep [2, 3, 4]
  dsimp only [keep, List.filterMap, look, Nat.beq, Option.map] at hf
  have hq1 := hNs
  repeat refine seq ?_
  refine regJ 13 [1, 1, 1, 1, 1, 1, 1, 1, 1, 1, 0, 2] (ChT N 147) (ChT.rel _ _) (fun w => True) (fun w w1 k h => trivial) Mix.mix hf (by decide +kernel) (by decide +kernel) ?_
  refine jf (fun w1 h1 => ldD T38 (isR rfl)) ?_
  refine jf (fun w1 h1 => nilC (isR rfl)) ?_
  refine jf (fun w1 h1 => fldD Tryz.underlying150 rfl T144 (by decide) (Fld.fst Fld.refl) (isR rfl)) ?_
  refine jf (fun w1 h1 => ldD T144 (isR rfl)) ?_
  refine jf (fun w1 h1 => fldD Tryz.underlying26 rfl T3 (by decide) (Fld.snd (Fld.fst Fld.refl) rfl) (isR rfl)) ?_
  refine jf (fun w1 h1 => ldI T3 (isR rfl)) ?_
  refine jf (fun w1 h1 => hasM (V := vKV) (i := d.2.1) (z := (0, 0)) Tryz.underlying144 (zero_of I147) th0 (isR rfl) rfl hw) ?_
  refine jf (fun w1 h1 => mv rfl) ?_
  refine jf (fun w1 h1 => ext_ rfl rfl) ?_
  refine jf (fun w1 h1 => ext_ rfl rfl) ?_
  refine ja (alD I147) ?_
  refine jk (alD I4) ?_
  refine jx (xst T147 rfl hNs rfl rfl (fun v w hv => by obtain ⟨c, rfl, _⟩ := hv; exact ⟨_, rfl, rfl, one2 rfl rfl⟩)) ?_
  refine je ?_
  refine fun a w hc HF hf => ?_
  try dsimp only [push] at hf
  obtain ⟨_, ⟨b6, hb6, rfl, B6⟩, hf⟩ := hf.fix 6 rfl
  replace e := e.ch hc.chg (fun b hb => by omega); replace hNs := Nat.le_trans hNs hc.chg.size; clear hc
  haveI : InR (fun b => N ≤ b) (some b6) := ⟨fun b hb => by cases hb; omega⟩
  replace hf := hf.keep [2, 3, 4, 6, 22]
  dsimp only [keep, List.filterMap, look, Nat.beq, Option.map] at hf
  refine tl_st1 T4 hf rfl rfl rfl B6 (by decide) fun w hg hsz B6 hf => ?_
  replace e := e.gr hg (by omega); replace hNs := Nat.le_trans hNs hg.size; clear hg
  refine tl_nil ?_
  replace B6 : Blk w b6 #[.bool (inV g.1 d.2.1)] 4 := B6
  replace hf := hf.keep [2, 3, 4, 6]
  dsimp only [keep, List.filterMap, look, Nat.beq, Option.map] at hf
  have hq2 := hNs
  repeat refine seq ?_
  refine regJ 13 [1, 1, 1, 1, 1, 1, 1, 1, 1, 1, 0, 2] (ChT N 147) (ChT.rel _ _) (fun w => True) (fun w w1 k h => trivial) Mix.mix hf (by decide +kernel) (by decide +kernel) ?_
  refine jf (fun w1 h1 => ldD T38 (isR rfl)) ?_
  refine jf (fun w1 h1 => nilC (isR rfl)) ?_
  refine jf (fun w1 h1 => fldD Tryz.underlying150 rfl T144 (by decide) (Fld.fst Fld.refl) (isR rfl)) ?_
  refine jf (fun w1 h1 => ldD T144 (isR rfl)) ?_
  refine jf (fun w1 h1 => fldD Tryz.underlying26 rfl T3 (by decide) (Fld.snd (Fld.snd (Fld.fst Fld.refl) rfl) rfl) (isR rfl)) ?_
  refine jf (fun w1 h1 => ldI T3 (isR rfl)) ?_
  refine jf (fun w1 h1 => hasM (V := vKV) (i := d.2.2.1) (z := (0, 0)) Tryz.underlying144 (zero_of I147) th0 (isR rfl) rfl hw2) ?_
  refine jf (fun w1 h1 => mv rfl) ?_
  refine jf (fun w1 h1 => ext_ rfl rfl) ?_
  refine jf (fun w1 h1 => ext_ rfl rfl) ?_
  refine ja (alD I147) ?_
  refine jk (alD I4) ?_
  refine jx (xst T147 rfl hNs rfl rfl (fun v w hv => by obtain ⟨c, rfl, _⟩ := hv; exact ⟨_, rfl, rfl, one2 rfl rfl⟩)) ?_
  refine je ?_
  refine fun a w hc HF hf => ?_
  try dsimp only [push] at hf
  obtain ⟨_, ⟨b8, hb8, rfl, B8⟩, hf⟩ := hf.fix 8 rfl
  have n68 : b6 ≠ b8 := by have := B6.lt; omega
  replace e := e.ch hc.chg (fun b hb => by omega); replace hNs := Nat.le_trans hNs hc.chg.size; replace B6 := B6.chT hc (by decide); clear hc
  haveI : InR (fun b => N ≤ b) (some b8) := ⟨fun b hb => by cases hb; omega⟩
  replace hf := hf.keep [2, 3, 4, 6, 8, 32]
  dsimp only [keep, List.filterMap, look, Nat.beq, Option.map] at hf
  refine tl_st1 T4 hf rfl rfl rfl B8 (by decide) fun w hg hsz B8 hf => ?_
  replace e := e.gr hg (by omega); replace hNs := Nat.le_trans hNs hg.size; replace B6 := B6.gr hg n68; clear hg
  refine tl_nil ?_
  replace B8 : Blk w b8 #[.bool (inV g.1 d.2.2.1)] 4 := B8
  replace hf := hf.keep [2, 3, 4, 6, 8]
  dsimp only [keep, List.filterMap, look, Nat.beq, Option.map] at hf
  have hq3 := hNs
  repeat refine seq ?_
  refine regJ 16 [1, 1, 1, 1, 1, 1, 1, 1, 1, 1, 1, 1, 1, 0, 2] (ChT N 147) (ChT.rel _ _) (fun w => True) (fun w w1 k h => trivial) Mix.mix hf (by decide +kernel) (by decide +kernel) ?_
  refine jf (fun w1 h1 => ldD T38 (isR rfl)) ?_
  refine jf (fun w1 h1 => nilC (isR rfl)) ?_
  refine jf (fun w1 h1 => fldD Tryz.underlying150 rfl T148 (by decide) (Fld.snd Fld.refl rfl) (isR rfl)) ?_
  refine jf (fun w1 h1 => ldD T148 (isR rfl)) ?_
  refine jf (fun w1 h1 => fldD Tryz.underlying26 rfl T3 (by decide) (Fld.snd (Fld.fst Fld.refl) rfl) (isR rfl)) ?_
  refine jf (fun w1 h1 => ldI T3 (isR rfl)) ?_
  refine jf (fun w1 h1 => fldD Tryz.underlying26 rfl T3 (by decide) (Fld.snd (Fld.snd (Fld.fst Fld.refl) rfl) rfl) (isR rfl)) ?_
  refine jf (fun w1 h1 => ldI T3 (isR rfl)) ?_
  refine jf (fun w1 h1 => call2 (A := E (enV (Gr.ends d.2.1 d.2.2.1))) En131 rfl rfl (fun v u w he h h' => by cases h; cases h'; exact between_spec d.2.1 d.2.2.1 w)) ?_
  refine jf (fun w1 h1 => hasM (V := eKV) (i := Gr.ends d.2.1 d.2.2.1) (z := (0, 0)) Tryz.underlying148 (zero_of I147) th0 (isR rfl) rfl (ends_ok hw hw2)) ?_
  refine jf (fun w1 h1 => mv rfl) ?_
  refine jf (fun w1 h1 => ext_ rfl rfl) ?_
  refine jf (fun w1 h1 => ext_ rfl rfl) ?_
  refine ja (alD I147) ?_
  refine jk (alD I4) ?_
  refine jx (xst T147 rfl hNs rfl rfl (fun v w hv => by obtain ⟨c, rfl, _⟩ := hv; exact ⟨_, rfl, rfl, one2 rfl rfl⟩)) ?_
  refine je ?_
  refine fun a w hc HF hf => ?_
  try dsimp only [push] at hf
  obtain ⟨_, ⟨b10, hb10, rfl, B10⟩, hf⟩ := hf.fix 10 rfl
  have n610 : b6 ≠ b10 := by have := B6.lt; omega
  have n810 : b8 ≠ b10 := by have := B8.lt; omega
  replace e := e.ch hc.chg (fun b hb => by omega); replace hNs := Nat.le_trans hNs hc.chg.size; replace B6 := B6.chT hc (by decide); replace B8 := B8.chT hc (by decide); clear hc
  haveI : InR (fun b => N ≤ b) (some b10) := ⟨fun b hb => by cases hb; omega⟩
  replace hf := hf.keep [2, 3, 4, 6, 8, 10, 45]
  dsimp only [keep, List.filterMap, look, Nat.beq, Option.map] at hf
  refine tl_st1 T4 hf rfl rfl rfl B10 (by decide) fun w hg hsz B10 hf => ?_
  replace e := e.gr hg (by omega); replace hNs := Nat.le_trans hNs hg.size; replace B6 := B6.gr hg n610; replace B8 := B8.gr hg n810; clear hg
  refine tl_nil ?_
  replace B10 : Blk w b10 #[.bool (inE g.2 d.2.1 d.2.2.1)] 4 := B10
  replace hf := hf.keep [2, 3, 4, 6, 8, 10]
  dsimp only [keep, List.filterMap, look, Nat.beq, Option.map] at hf
  obtain ⟨p2, hp2, hf⟩ := hf.fix 2 rfl
  obtain ⟨p3, hp3, hf⟩ := hf.fix 3 rfl
  repeat refine seq ?_
  refine regn 19 hf (by decide +kernel) ?_
  refine st (makeF1 rfl) ?_
  refine st (bldV [(0, _), (1, _)] rfl (bTs _ _ _)) ?_
  refine st (makeF1 rfl) ?_
  refine st (bldV [(0, _), (1, _)] rfl (bTs _ _ _)) ?_
  refine st (makeF1 rfl) ?_
  refine st (bldV [(0, _), (1, _)] rfl (bTs _ _ _)) ?_
  refine st (makeF2 rfl rfl) ?_
  refine st (bldV [(0, _), (1, _)] rfl (bTs _ _ _)) ?_
  refine st (makeF3 rfl rfl rfl) ?_
  refine st (bldV [(0, _), (1, _)] rfl (bTs _ _ _)) ?_
  refine st (makeF2 rfl rfl) ?_
  refine st (bldV [(0, _), (1, _)] rfl (bTs _ _ _)) ?_
  refine st (makeF2 rfl rfl) ?_
  refine st (bldV [(0, _), (1, _)] rfl (bTs _ _ _)) ?_
  refine st (makeF2 rfl rfl) ?_
  refine st (bldV [(0, _), (1, _)] rfl (bTs _ _ _)) ?_
  refine st (bslN (e := tsE Tryz.prog) (G := Go.Mono.G0) (zs := tests g d) (xs := [.tmp 47, .tmp 49, .tmp 51, .tmp 53, .tmp 55, .tmp 57, .tmp 59, .tmp 61]) Tryz.underlying181 I180 rfl rfl (by decide) (by decide) rfl (fun b hb => hb.elim)  ⟨isE rfl (Dv.ts' En132 (fun w' k => q1_spec d w' p3 (Dv.hp hp3 k))), isE rfl (Dv.ts' En133 (fun w' k => q2_spec d w' p3 (Dv.hp hp3 k))), isE rfl (Dv.ts' En138 (fun w' k => q3_spec d w' p3 (Dv.hp hp3 k))),  isE rfl (Dv.ts' En139 (fun w' k => q4_spec d w' p3 _ _ (Dv.hp hp3 k) (Dv.hp B6.bo k))), isE rfl (Dv.ts' En140 (fun w' k => q5_spec d w' p3 _ _ _ _ (Dv.hp hp3 k) (Dv.hp B6.bo k) (Dv.hp B8.bo k))), isE rfl (Dv.ts' En141 (fun w' k => q6_spec d w' p3 _ _ (Dv.hp hp3 k) (Dv.hp B10.bo k))),  isE rfl (Dv.ts' En142 (fun w' k => q7_spec d w' p3 _ _ (Dv.hp hp3 k) (Dv.hp B10.bo k))), isE rfl (Dv.ts' En143 (fun w' k => q8_spec g d M w' p3 p2 (Dv.hp hp3 k) (Dv.hp hp2 k))), trivial⟩) ?_
  refine st (lenD Tryz.underlying181 (isR rfl)) ?_
  refine st (mv rfl) ?_
  refine en fun a w e' hf => ?_
  replace e := Ext.tr e e'
  clear e'
  refine tl_nil ?_
  obtain ⟨W4, hW4⟩ : ∃ W4, W4 = w := ⟨_, rfl⟩
  have hNW4 : W.heap.size ≤ W4.heap.size := by rw [hW4]; exact e.size
  replace hf := hf.upd 62 rfl (fun v hv => Dv.weak (G' := GB W4 Go.Mono.G0) hv (fun b hb hn => hn.elim id fun hn => absurd hb (by rw [← hW4]; omega)))
  have hNs4 : W4.heap.size ≤ w.heap.size := by rw [hW4]; exact Nat.le_refl _
  replace hf := hf.upd (B := E (I (8 : Nat))) 63 rfl (fun v hv => hv)
  clear hW4 hNs hq1 hq2 hq3
  replace hf := hf.keep [4, 62, 63, 64]
  dsimp only [keep, List.filterMap, look, Nat.beq, Option.map] at hf
  repeat refine seq ?_
  refine blk (loopN (fun r0 a w => ∃ (k : Nat) , r0 = 8 - k ∧ k ≤ 8 ∧ Fr 74 a w [(4, E (I 0)), (62, Dv (slE (tsE Tryz.prog)) (GB W4 Go.Mono.G0) (tests g d)), (63, E (I (8 : Nat))), (64, E (I k))] ∧ Ext W w ∧ W4.heap.size ≤ w.heap.size ∧ (∀ y ∈ (tests g d).take k, y.1 = false)) 8 ⟨0, rfl, by omega, hf, e, ⟨hNs4, by simp⟩⟩ ?_)
  clear hf e; try clear hNs4; try clear hn
  rintro r0 a w ⟨k, rfl, hk, hf, e, hNs4, hn⟩
  repeat refine seq ?_
  refine regn 1 hf (by decide +kernel) ?_
  refine st (lss rfl rfl) ?_
  refine en fun a w e' hf => ?_
  replace hNs4 := Nat.le_trans hNs4 e'.size
  replace e := Ext.tr e e'
  clear e'
  refine tl_nil ?_
  repeat refine seq ?_
  refine ifc hf rfl (fun hc => wskip ?_) (fun hc => wexit ?_)
  rotate_left
  rotate_left
  · have hlt : k < 8 := by have := of_decide_eq_true hc; (try dsimp only at this); omega
    clear hc
    replace hf := hf.keep [4, 62, 63, 64]
    dsimp only [keep, List.filterMap, look, Nat.beq, Option.map] at hf
    repeat refine seq ?_
    refine blk ?_
    have hg := List.getElem?_eq_getElem (show k < (tests g d).length from hlt)
    generalize (tests g d)[k]'hlt = x at hg
    repeat refine seq ?_
    refine regn0 ?_
    refine tl_op hf (by decide) (idxD Tryz.underlying181 S180 (isR rfl) rfl (by omega) (hg)) fun a w e' hf => ?_
    replace hNs4 := Nat.le_trans hNs4 e'.size
    replace e := Ext.tr e e'
    clear e'
    refine tl_op hf (by decide) (ldD T180 (isR rfl)) fun a w e' hf => ?_
    replace hNs4 := Nat.le_trans hNs4 e'.size
    replace e := Ext.tr e e'
    clear e'
    obtain ⟨v67, h67, hf⟩ := hf.fix 67 rfl
    obtain ⟨id0, caps, rfl, hEn, hCa⟩ := Dv.ts h67
    replace hf := hf.keep [4, 62, 63, 64, 67]
    dsimp only [keep, List.filterMap, look, Nat.beq, Option.map] at hf
    haveI hiW : ∀ b, W4.heap.size ≤ b → ∀ G0, InR (GB W4 G0) (some b) := fun b hb G0 => InR.gb hb
    have e2 := Ext.rfl' w
    refine tl_alloc I180 hf (by decide) fun a b12 w e' hb12 hs12 B12 hf => ?_
    have hle12 := Nat.le_trans e.size (Nat.le_of_eq hb12.symm)
    have lo12_hNs4 := Nat.le_trans hNs4 (Nat.le_of_eq hb12.symm)
    replace hNs4 := Nat.le_trans hNs4 e'.size
    replace e2 := Ext.tr e2 e'
    replace e := Ext.tr e e'
    clear e'
    haveI hib := hiW b12 (by omega)
    refine tl_stW T180 hf rfl rfl (one2 rfl rfl) B12 rfl rfl fun w hg' hsz B12 hf => ?_
    replace e2 := e2.gr hg' (by omega)
    have hCa' : ∀ w', Ext w w' → Calls Tryz.prog id0 caps w' (Post (E (.bool x.1)) w') := fun w' he => hCa w' (Ext.tr e2 he)
    clear e2
    replace e := e.gr hg' (by omega); replace hNs4 := Nat.le_trans hNs4 hg'.size; clear hg'
    refine tl_nil ?_
    replace hf := hf.keep [4, 12, 62, 63, 64]
    dsimp only [keep, List.filterMap, look, Nat.beq, Option.map] at hf
    repeat refine seq ?_
    refine regn 3 hf (by decide +kernel) ?_
    refine st (fldA Tryz.underlying180 rfl T32 (by decide) rfl) ?_
    refine st ((ld1 T32 rfl (by assumption) rfl).eq ((rfl : _ = Value.func (.func id0) #[] caps))) ?_
    refine st (callV0 hEn rfl (fun w he => hCa' w he)) ?_
    refine en fun a w e' hf => ?_
    replace hNs4 := Nat.le_trans hNs4 e'.size
    replace e := Ext.tr e e'
    replace B12 := B12.ext e'
    clear e'
    refine tl_nil ?_
    repeat refine seq ?_
    refine ifc hf rfl (fun hb => ?_) (fun hb => ?_)
    · repeat refine seq ?_
      refine regn 2 hf (by decide +kernel) ?_
      refine st (fldA Tryz.underlying180 rfl T40 (by decide) rfl) ?_
      refine st (ld1 T40 rfl (by assumption) rfl) ?_
      refine en fun a w e' hf => ?_
      replace hNs4 := Nat.le_trans hNs4 e'.size
      replace e := Ext.tr e e'
      replace B12 := B12.ext e'
      clear e'
      refine tl_as hf rfl (by decide) fun a hf => ?_
      refine tl_nil ?_
      refine wret ?_
      try simp only [Exit.then, Exit.inBlock]
      refine ret1 rfl hf rfl ?_
      rintro _ rfl
      exact ⟨_, rfl, e, (congrArg I (by rw [wrongM]; exact (first_at hn hg hb).symm))⟩
    · refine wskip ?_
      try simp only [Exit.then, Exit.inBlock, ↓reduceIte]
      try simp only [Exit.then, Exit.inBlock, ↓reduceIte]
      repeat refine seq ?_
      refine regn 1 hf (by decide +kernel) ?_
      refine st ((add rfl rfl (by omega)).eq (congrArg (Value.int .i64) (show (k : Int) + 1 = ((k + 1 : Nat) : Int) from rfl))) ?_
      refine en fun a w e' hf => ?_
      replace hNs4 := Nat.le_trans hNs4 e'.size
      replace e := Ext.tr e e'
      replace B12 := B12.ext e'
      clear e'
      refine tl_op hf (by decide) (mv rfl) fun a w e' hf => ?_
      replace hNs4 := Nat.le_trans hNs4 e'.size
      replace e := Ext.tr e e'
      replace B12 := B12.ext e'
      clear e'
      refine tl_nil ?_
      replace hf := hf.keep [4, 62, 63, 64]
      dsimp only [keep, List.filterMap, look, Nat.beq, Option.map] at hf
      refine ⟨_, ?_, k + 1, rfl, by omega, hf, e, ?_⟩
      · omega
      exact ⟨hNs4, no_succ (p := fun y : Bool × Int => y.1) hn hg hb⟩
  · obtain rfl : k = 8 := by have := of_decide_eq_false hc; (try dsimp only at this); omega
    clear hc
    simp only [Exit.then, Exit.inBlock, ↓reduceIte]
    repeat refine seq ?_
    refine regn0 ?_
    refine tl_as hf rfl (by decide) fun a hf => ?_
    refine tl_nil ?_
    refine wret ?_
    try simp only [Exit.then, Exit.inBlock]
    refine ret1 rfl hf rfl ?_
    rintro _ rfl
    exact ⟨_, rfl, e, (congrArg I (by rw [wrongM, first_no (show ∀ y ∈ (tests g d).take (tests g d).length, y.1 = false from hn)]))⟩
end Go.Mono

namespace Go.Mono
open Go Go.Proofs Go.RowKit Go.Gr
/-- a graph in its blocks: n bounds the numbers of entries -/
structure GrR (w : World) (bg bv be n : Nat) (g : GT) : Prop where
  blk : Blk w bg #[.map (some bv), .map (some be)] 150
  vs : MpR vKV w bv n g.1
  es : MpR eKV w be n g.2
  ne : bv ≠ be
theorem MpR.neB {P : Program} {α β : Type} [DecidableEq α] {V : KV P α β} {w : World} {b c n : Nat} {l : List (α × β)} {cs : Array Value} {t : TypeId} (h : MpR V w b n l) (k : Blk w c cs t) : b ≠ c := by
  rintro rfl
  obtain ⟨D, ⟨es, clock, hb, _⟩, _⟩ := h
  rw [k] at hb; cases hb
section
variable {w w' : World} {bg bv be n : Nat} {g : GT}
theorem GrR.n1 (h : GrR w bg bv be n g) : bv ≠ bg ∧ be ≠ bg := ⟨h.vs.neB h.blk, h.es.neB h.blk⟩
theorem GrR.ext (h : GrR w bg bv be n g) (e : Ext w w') : GrR w' bg bv be n g := ⟨h.blk.ext e, h.vs.ext e, h.es.ext e, h.ne⟩
theorem GrR.perm (h : GrR w bg bv be n g) {g' : GT} (h1 : g.1.Perm g'.1) (h2 : g.2.Perm g'.2) : GrR w bg bv be n g' := ⟨h.blk, h.vs.perm h1, h.es.perm h2, h.ne⟩
theorem GrR.mono (h : GrR w bg bv be n g) {m : Nat} (hm : n ≤ m) : GrR w bg bv be m g := ⟨h.blk, h.vs.mono hm, h.es.mono hm, h.ne⟩
theorem GrR.ch (h : GrR w bg bv be n g) {S : Nat → Prop} (c : Chg S w w') (h1 : ¬S bg) (h2 : ¬S bv) (h3 : ¬S be) : GrR w' bg bv be n g := ⟨h.blk.ch c h1, h.vs.pres (c.block _ h.vs.lt h2), h.es.pres (c.block _ h.es.lt h3), h.ne⟩
theorem GrR.dv (h : GrR w bg bv be n g) {N : Nat} (hN : n ≤ N) {G : Nat → Prop} (h1 : ¬G bg) (h2 : ¬G bv) (h3 : ¬G be) : (Dv (ptE (grE N)) G (some g)).p (.pointer (some ⟨bg, 0, none⟩)) w :=
  Dv.pt.2 ⟨_, rfl, h1, h.blk.lt, _, ⟨_, _, rfl, ⟨bv, n, rfl, h2, hN, h.vs⟩, ⟨be, n, rfl, h3, hN, h.es⟩⟩, fun i u hu => by
    have : (Addr.mk bg 0 none).add i = ⟨bg, i, none⟩ := by simp [Addr.add]; intro h; exact h.symm
    rw [this, h.blk.cell]; simpa using hu⟩
end
theorem bGr (p q : Option Nat) : Tryz.prog.built 150 [(0, .map p), (1, .map q)] = some #[.map p, .map q] := by kernel_rfl
theorem bTh (c : Int × Int) : Tryz.prog.built 147 [(0, .int .u8 c.1), (1, .int .i64 c.2)] = some #[.int .u8 c.1, .int .i64 c.2] := by kernel_rfl
theorem gnewG_spec (W : World) : Calls Tryz.prog 98 #[] W fun en w' => ∃ bg bv be, en = .returned (.pointer (some ⟨bg, 0, none⟩)) ∧ Ext W w' ∧ W.heap.size ≤ bg ∧ W.heap.size ≤ bv ∧ W.heap.size ≤ be ∧ GrR w' bg bv be 0 ([], []) := by
  refine enter (args := []) (As := []) Tryz.func98 rfl Tryz.ntmps98 (Nat.le_of_ble_eq_true rfl) ?_ (fun a hf => ?_) (Nat.le_of_ble_eq_true rfl)
  · intro i A h; simp at h
  dsimp only [params, Nat.reduceAdd] at hf
  have e := Ext.rfl' W
  repeat refine seq ?_
  refine regn0 ?_
  refine tl_as hf rfl (by decide) fun a hf => ?_
  refine tl_nil ?_
  repeat refine seq ?_
  refine regn 0 hf (by decide +kernel) ?_
  refine en fun a w e' hf => ?_
  replace e := Ext.tr e e'; clear e'
  refine tl_mkV vKV hf (by decide) fun a b1 w e' hb1 hs1 M1 hf => ?_
  have hle1 := Nat.le_trans e.size (Nat.le_of_eq hb1.symm)
  replace e := Ext.tr e e'; clear e'
  refine tl_mkV eKV hf (by decide) fun a b2 w e' hb2 hs2 M2 hf => ?_
  have hle2 := Nat.le_trans e.size (Nat.le_of_eq hb2.symm)
  replace e := Ext.tr e e'; replace M1 := M1.ext e'; clear e'
  refine tl_op hf (by decide) (bldV [(0, _), (1, _)] rfl (bGr (some b1) (some b2))) fun a w e' hf => ?_
  replace e := Ext.tr e e'; replace M1 := M1.ext e'; replace M2 := M2.ext e'; clear e'
  refine tl_box hf rfl (by decide) fun a b4 w v4 hv4 e' hb4 hs4 B4 hf => ?_
  cases hv4
  have hle4 := Nat.le_trans e.size (Nat.le_of_eq hb4.symm)
  replace e := Ext.tr e e'; replace M1 := M1.ext e'; replace M2 := M2.ext e'; clear e'
  refine tl_as hf rfl (by decide) fun a hf => ?_
  refine tl_nil ?_
  refine wret ?_
  try simp only [Exit.then, Exit.inBlock]
  refine ret1 rfl hf rfl ?_
  rintro _ rfl
  exact ⟨b4, b1, b2, rfl, e, hle4, hle1, hle2, B4, M1, M2, by omega⟩
theorem add_spec (g : GT) (d : DT) (bg bv be n : Nat) (W : World) (hg : GrR W bg bv be n g) (hn : n < maxLen) (h1 : vKV.ok d.2.1) (h2 : okT d.2.2.2) :
    Calls Tryz.prog 144 #[.pointer (some ⟨bg, 0, none⟩), dtV d] W fun en w' => en = .returned (.tuple #[]) ∧ Chg (fun b => b = bv ∨ b = be) W w' ∧ GrR w' bg bv be (n + 1) (putP g.1 d.2.1 d.2.2.2, g.2) := by
  refine enter (args := [.pointer (some ⟨bg, 0, none⟩), dtV d]) (As := [E (.pointer (some ⟨bg, 0, none⟩)), E (dtV d)]) Tryz.func144 rfl Tryz.ntmps144 (Nat.le_of_ble_eq_true rfl) ?_ (fun a hf => ?_) (Nat.le_of_ble_eq_true rfl)
  rotate_left
  dsimp only [params, Nat.reduceAdd] at hf
  rotate_right
  · exact arg2 rfl rfl
  have e := Ext.rfl' W
  have BG := hg.blk; have MV := hg.vs; have ME := hg.es
  repeat refine seq ?_
  refine regn0 ?_
  refine tl_box hf rfl (by decide) fun a b3 w v3 hv3 e' hb3 hs3 B3 hf => ?_
  have hle3 := Nat.le_trans e.size (Nat.le_of_eq hb3.symm)
  have lt3_BG := BG.lt
  replace e := Ext.tr e e'
  replace BG := BG.ext e'
  replace MV := MV.ext e'
  replace ME := ME.ext e'
  clear e'
  refine tl_nil ?_
  cases hv3
  repeat refine seq ?_
  refine reg 11 Mix.mix hf (by decide +kernel) ?_
  refine st (mv rfl) ?_
  refine st (nilE rfl) ?_
  refine st (fldA Tryz.underlying150 rfl T144 (by decide) rfl) ?_
  refine st (ld1 T144 rfl BG rfl) ?_
  refine st (fldA Tryz.underlying26 rfl T3 (by decide) rfl) ?_
  refine st (ld1 T3 rfl B3 rfl) ?_
  refine st (fldA Tryz.underlying26 rfl T5 (by decide) rfl) ?_
  refine st (ld1 T5 rfl B3 rfl) ?_
  refine st (fldA Tryz.underlying26 rfl T3 (by decide) rfl) ?_
  refine st (ld1 T3 rfl B3 rfl) ?_
  refine st (bldV [(0, _), (1, _)] rfl (bTh d.2.2.2)) ?_
  refine en fun a w e' hf => ?_
  replace e := Ext.tr e e'
  replace BG := BG.ext e'
  replace MV := MV.ext e'
  replace ME := ME.ext e'
  replace B3 := B3.ext e'
  clear e'
  replace hf := hf.keep [7, 9, 14]
  dsimp only [keep, List.filterMap, look, Nat.beq, Option.map] at hf
  refine tl_mputV (V := vKV) (i := d.2.1) (c := d.2.2.2) Tryz.underlying144 hf rfl rfl rfl MV hn h1 h2 fun w hg' MV hf => ?_
  refine tl_nil ?_
  refine ret0n rfl hf ?_
  exact ⟨rfl, (e.chg _).gr hg' (.inl (.inl rfl)), BG.gr hg' hg.n1.1.symm, MV, (ME.gr hg' (fun h => hg.ne (by cases h; rfl))).mono (Nat.le_succ _), hg.ne⟩
theorem join_spec (g : GT) (d : DT) (bg bv be n : Nat) (W : World) (hg : GrR W bg bv be n g) (hn : n < maxLen) (h1 : eKV.ok (Gr.ends d.2.1 d.2.2.1)) (h2 : okT d.2.2.2) :
    Calls Tryz.prog 146 #[.pointer (some ⟨bg, 0, none⟩), dtV d] W fun en w' => en = .returned (.tuple #[]) ∧ Chg (fun b => b = bv ∨ b = be) W w' ∧ GrR w' bg bv be (n + 1) (g.1, putP g.2 (Gr.ends d.2.1 d.2.2.1) d.2.2.2) := by
  refine enter (args := [.pointer (some ⟨bg, 0, none⟩), dtV d]) (As := [E (.pointer (some ⟨bg, 0, none⟩)), E (dtV d)]) Tryz.func146 rfl Tryz.ntmps146 (Nat.le_of_ble_eq_true rfl) ?_ (fun a hf => ?_) (Nat.le_of_ble_eq_true rfl)
  rotate_left
  dsimp only [params, Nat.reduceAdd] at hf
  rotate_right
  · exact arg2 rfl rfl
  have e := Ext.rfl' W
  have BG := hg.blk; have MV := hg.vs; have ME := hg.es
  repeat refine seq ?_
  refine regn0 ?_
  refine tl_box hf rfl (by decide) fun a b3 w v3 hv3 e' hb3 hs3 B3 hf => ?_
  have hle3 := Nat.le_trans e.size (Nat.le_of_eq hb3.symm)
  have lt3_BG := BG.lt
  replace e := Ext.tr e e'
  replace BG := BG.ext e'
  replace MV := MV.ext e'
  replace ME := ME.ext e'
  clear e'
  refine tl_nil ?_
  cases hv3
  repeat refine seq ?_
  refine reg 14 Mix.mix hf (by decide +kernel) ?_
  refine st (mv rfl) ?_
  refine st (nilE rfl) ?_
  refine st (fldA Tryz.underlying150 rfl T148 (by decide) rfl) ?_
  refine st (ld1 T148 rfl BG rfl) ?_
  refine st (fldA Tryz.underlying26 rfl T3 (by decide) rfl) ?_
  refine st (ld1 T3 rfl B3 rfl) ?_
  refine st (fldA Tryz.underlying26 rfl T3 (by decide) rfl) ?_
  refine st (ld1 T3 rfl B3 rfl) ?_
  refine st (call2 (A := E (enV (Gr.ends d.2.1 d.2.2.1))) En131 rfl rfl (fun v u w he h h' => by cases h; cases h'; exact between_spec d.2.1 d.2.2.1 w)) ?_
  refine st (fldA Tryz.underlying26 rfl T5 (by decide) rfl) ?_
  refine st (ld1 T5 rfl B3 rfl) ?_
  refine st (fldA Tryz.underlying26 rfl T3 (by decide) rfl) ?_
  refine st (ld1 T3 rfl B3 rfl) ?_
  refine st (bldV [(0, _), (1, _)] rfl (bTh d.2.2.2)) ?_
  refine en fun a w e' hf => ?_
  replace e := Ext.tr e e'
  replace BG := BG.ext e'
  replace MV := MV.ext e'
  replace ME := ME.ext e'
  replace B3 := B3.ext e'
  clear e'
  replace hf := hf.keep [7, 12, 17]
  dsimp only [keep, List.filterMap, look, Nat.beq, Option.map] at hf
  refine tl_mputV (V := eKV) (i := Gr.ends d.2.1 d.2.2.1) (c := d.2.2.2) Tryz.underlying148 hf rfl rfl rfl ME hn h1 h2 fun w hg' ME hf => ?_
  refine tl_nil ?_
  refine ret0n rfl hf ?_
  exact ⟨rfl, (e.chg _).gr hg' (.inl (.inr rfl)), BG.gr hg' hg.n1.2.symm, (MV.gr hg' (fun h => hg.ne (by cases h; rfl))).mono (Nat.le_succ _), ME, hg.ne⟩
def deedsA : Array Value := #[.func (.func 144) #[] #[], .func (.func 145) #[] #[], .func (.func 146) #[] #[], .func (.func 147) #[] #[], .func (.func 148) #[] #[], .func (.func 149) #[] #[], .func (.func 150) #[] #[], .func (.func 151) #[] #[]]
theorem deedsA_one : deedsA.all (·.oneCell') = true := by decide +kernel
theorem bDe : Tryz.prog.built 155 [(0, .func (.func 144) #[] #[]), (1, .func (.func 145) #[] #[]), (2, .func (.func 146) #[] #[]), (3, .func (.func 147) #[] #[]), (4, .func (.func 148) #[] #[]), (5, .func (.func 149) #[] #[]), (6, .func (.func 150) #[] #[]), (7, .func (.func 151) #[] #[])] = some deedsA := by kernel_rfl
theorem deeds_spec (W : World) : Calls Tryz.prog 104 #[] W (Post (E (.agg deedsA)) W) := by
  refine enter (args := []) (As := []) Tryz.func104 rfl Tryz.ntmps104 (Nat.le_of_ble_eq_true rfl) ?_ (fun a hf => ?_) (Nat.le_of_ble_eq_true rfl)
  · intro i A h; simp at h
  dsimp only [params, Nat.reduceAdd] at hf
  have e := Ext.rfl' W
  repeat refine seq ?_
  refine regn0 ?_
  refine tl_alloc I155 hf (by decide) fun a b0 w e' hb0 hs0 B0 hf => ?_
  have hle0 := Nat.le_trans e.size (Nat.le_of_eq hb0.symm)
  replace e := Ext.tr e e'
  clear e'
  refine tl_nil ?_
  repeat refine seq ?_
  refine regn 1 hf (by decide +kernel) ?_
  refine st (bldV [(0, _), (1, _), (2, _), (3, _), (4, _), (5, _), (6, _), (7, _)] rfl bDe) ?_
  refine en fun a w e' hf => ?_
  replace e := Ext.tr e e'
  replace B0 := B0.ext e'
  clear e'
  haveI hinr : ∀ G0, InR (GB W G0) (some b0) := fun G0 => InR.gb (by omega)
  refine tl_stW T155 hf rfl rfl (deedsA_one) B0 rfl (rfl) fun w hg hsz B0 hf => ?_
  replace e := e.gr hg (by omega)
  clear hg
  refine tl_nil ?_
  refine wret (retc rfl T155 hf rfl B0 rfl ?_)
  exact ⟨_, rfl, e, rfl⟩
end Go.Mono
