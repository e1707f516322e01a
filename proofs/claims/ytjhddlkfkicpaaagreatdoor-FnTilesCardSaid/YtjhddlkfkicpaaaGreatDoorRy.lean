/- Rooms, in the abstract: their copies and their sameness in a law. -/
import Derived.Test.YtjhddlkfkicpaaaGreatDoorRx
import Derived.Test.YtjhddlkfkicpaaaGreatDoorRz
namespace Go.Proofs.YtjhddlkfkicpaaaGreatDoor.Vx
open Go Go.RowKit Fl
set_option maxRecDepth 100000
set_option maxHeartbeats 2000000
set_option linter.unusedSimpArgs false
set_option linter.unusedVariables false

abbrev romN (r : Rom) : SV := .agg [.f (.int .i8 r.wi), .f (.int .i8 r.hi), .f .nils]
theorem win_rows {n : Nat} {f : Nat → List FV} (h : ∀ i, i < n → RowK [.i .i8, .i .i8, .f .f32] (f i)) : ∃ us : Nat → Win, (∀ i, i < n → f i = (us i).fv) ∧ ∀ i, i < n → (us i).sm := by
  refine ⟨fun i => ⟨cZ f 0 i, cZ f 1 i, cN f 2 i⟩, fun i hi => ?_, fun i hi => ?_⟩
  all_goals (
    obtain ⟨x0, r, e, k0, h⟩ := rowK_cons (h i hi)
    obtain ⟨x1, r, rfl, k1, h⟩ := rowK_cons h
    obtain ⟨x2, r, rfl, k2, h⟩ := rowK_cons h
    obtain rfl := rowK_nil h)
  · simp only [Win.fv, cZ, cN, e, List.getD_cons_zero, List.getD_cons_succ]
    rw [← ck_f k2, ← (ck_i k0).1, ← (ck_i k1).1]
  · have a := ck_i k0
    have b := ck_i k1
    simp only [Win.sm, cZ, e, List.getD_cons_zero, List.getD_cons_succ]
    exact ⟨a.2, b.2⟩
end Go.Proofs.YtjhddlkfkicpaaaGreatDoor.Vx
