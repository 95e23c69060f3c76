/-
  The walk library: a slice of one number as an own slice; own slices as data that avoid other own blocks.
  No condition.
-/
import Derived.Test.YtnhbkdliljcedaaDoorWE
set_option linter.unusedVariables false
set_option linter.unusedSimpArgs false
set_option linter.unusedVariables false
set_option linter.unusedSimpArgs false
namespace Go.Mono
open Go Go.RowKit
theorem bslO1 {P : Program} {w0 : World} {L : Env} {dst : Option Tmp} {ty : TypeId} {pos : String} {aft : Array Edge} {g : Option (Nat × Bool)} {t te : TypeId} {x : Operand} {B : Nat} {G : Nat → Prop} {z : Int} {bz : Nat} {z0 : Value} (ht : P.underlying t = some (.slice te)) (hi : (P.info? te).map (fun i => (i.zero, i.size, i.bytes)) = some (some z0, 1, bz)) (hz0 : z0.cells.size = 1)
    (hx : opd L x = some (E (.int .i64 z))) (hB : B ≤ w0.heap.size) (hG : ∀ b, G b → b < B) : OpC P w0 L ⟨dst, .buildSlice t 1 #[(0, x)], ty, pos, aft, g⟩ (OwA intE te B G [z]) := by
  refine ⟨fun ρ w he hv => ?_⟩
  have hxv := opE hv (x := x) (by simp [Op.operands]) hx
  obtain ⟨it, hit, hiz, hsz, _⟩ := info_parts hi
  have hfl := fill_seq (k := 1) [Value.int .i64 z] [[Value.int .i64 z]] 0 [] ((Array.range (1 * 1)).map (z0.cells[· % z0.cells.size]!)) rfl (by simp) (by simp) (by simp) (by simp)
  have hr := run_buildSlice (P := P) w t te 1 #[(0, .int .i64 z)] #[.int .i64 z] it z0 ht hit hiz (by rw [hsz]; omega) (by rw [hsz]; omega) (by rw [hsz]; exact hfl)
  have hrun : (execOp ρ ⟨dst, .buildSlice t 1 #[(0, x)], ty, pos, aft, g⟩).run P w = .ok (.value (.slice (some ⟨w.heap.size, 0, none⟩) 1 1)) (w.alloc (.cells #[.int .i64 z] te)) := by
    simp only [execOp, Sem.run_bind, List.map_toArray, List.map_cons, List.map_nil, hxv, hr, Result.andThen_ok, Sem.run_pure]
  simp only [OpR, hrun]
  have hx := ext_alloc w (.cells #[.int .i64 z] te)
  have hBw : B ≤ w.heap.size := Nat.le_trans hB he.size
  refine ⟨hx, ⟨[.int .i64 z], ⟨rfl, .inr ⟨w.heap.size, 1, #[.int .i64 z], rfl, hBw, blk_alloc w _ _, Nat.le_refl _, by decide, rfl, rfl⟩⟩, ⟨[.int .i64 z], [], rfl, rfl, rfl⟩⟩, hG, Nat.le_trans hBw hx.size⟩
theorem OwR.slN {α : Type} {e : Enc α} [FlE e] {ty : TypeId} {B : Nat} {G N : Nat → Prop} {w : World} {xs : List α} {v : Value} (h : OwR e ty B G w xs v) (hN : ∀ b, v.ownBlock = some b → ¬N b) : (Dv (slE e) N xs).p v w := by
  obtain ⟨cs, h1, h2⟩ := h.own
  refine Dv.sl.2 ?_
  rcases h1.2 with ⟨hv, hn⟩ | ⟨g, cap, cur, hv, hB, hg, hn, hm, hs, ht⟩
  · exact .inl ⟨hv, List.eq_nil_of_length_eq_zero hn⟩
  · exact .inr ⟨_, cap, cs, hv, hn, hN g (by rw [hv]; rfl), (Array.getElem?_eq_some_iff.1 hg).1, Cells.fl h2, h1.cells (by rw [hv]; rfl)⟩
end Go.Mono
