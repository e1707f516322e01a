/- Rooms, in the abstract: their copies and their sameness in a law. -/
import Derived.Test.YtpcnpmhpelbndaaGreatDoorRx
import Derived.Test.YtpcnpmhpelbndaaGreatDoorRz
namespace Go.Proofs.YtpcnpmhpelbndaaGreatDoor.Vx
open Go Go.RowKit Fl
set_option maxRecDepth 100000
set_option maxHeartbeats 2000000
set_option linter.unusedSimpArgs false
set_option linter.unusedVariables false

theorem eqRoom_cv (r : Rom) (us : Nat → Win) (n : Nat) (f g : Nat → List FV) (cap cap' : Nat) (hf : ∀ i, i < n → f i = (us i).fv) (hg : ∀ i, i < n → g i = (us i).fv) (h1 : n ≤ cap) (h2 : n ≤ cap') (hn : n ≤ 1048576) :
    CV Tryz.prog 8 [romV r n cap, .agg [.f (.int .i8 r.wi), .f (.int .i8 r.hi), .slc 1 0 n cap']] [.rows n cap 3 f false, .rows n cap' 3 g false] (fun v h => v = .f (.bool true) ∧ h = [.rows n cap 3 f false, .rows n cap' 3 g false]) := by
  refine cv_of_run 1000 sc8 sb8 21 [.tmp 4] tabOk (by kernel_rfl) Tryz.func8 rfl (by kernel_rfl) Tryz.ntmps8 rfl (by simp) rfl (by simp [bdL, SV.bd]) ?_
  simp (config := { maxSteps := 1000000 }) (disch := omega) only [go_sem, Int.reduceToNat, ↓reduceIte, Nat.reduceLT, Nat.reduceEqDiff, Nat.reduceAdd, Nat.reduceMul, Nat.reduceSub, Nat.reduceBEq, Nat.reduceLeDiff, reduceCtorEq, Nat.reduceLT, ↓Br_true, ↓Br_false, bind, pure, sc8, sb8]
  (have cc := eqWindowS_cv n f g cap cap' (fun i => (us i).w) (fun i => (us i).a) (fun i => (us i).l) hf hg h1 h2 hn; (first | ((first | refine callR (by rfl) (by rfl) (by rfl) cc ?_ | refine callM (by rfl) (by rfl) (by rfl) cc ?_ | refine callMo (by rfl) (by rfl) (by rfl) cc ?_); clear cc; rintro _ _ ⟨rfl, rfl⟩) | (refine callE (by rfl) cc (by rfl) ?_; clear cc)))
  simp (config := { maxSteps := 1000000 }) (disch := omega) only [go_sem, Int.reduceToNat, ↓reduceIte, Nat.reduceLT, Nat.reduceEqDiff, Nat.reduceAdd, Nat.reduceMul, Nat.reduceSub, Nat.reduceBEq, Nat.reduceLeDiff, reduceCtorEq, Nat.reduceLT, ↓Br_true, ↓Br_false, bind, pure, sc8, sb8]
abbrev romN (r : Rom) : SV := .agg [.f (.int .i8 r.wi), .f (.int .i8 r.hi), .f .nils]
theorem win_rows {n : Nat} {f : Nat → List FV} (h : ∀ i, i < n → RowK [.i .i8, .i .i8, .f .f32] (f i)) : ∃ us : Nat → Win, (∀ i, i < n → f i = (us i).fv) ∧ ∀ i, i < n → (us i).sm := by
  refine ⟨fun i => ⟨cZ f 0 i, cZ f 1 i, cN f 2 i⟩, fun i hi => ?_, fun i hi => ?_⟩
  all_goals (
    obtain ⟨x0, r, e, k0, h⟩ := rowK_cons (h i hi)
    obtain ⟨x1, r, rfl, k1, h⟩ := rowK_cons h
    obtain ⟨x2, r, rfl, k2, h⟩ := rowK_cons h
    obtain rfl := rowK_nil h)
  · simp only [Win.fv, cZ, cN, e, List.getD_cons_zero, List.getD_cons_succ]
    rw [← ck_f k2, ← (ck_i k0).1, ← (ck_i k1).1]
  · have a := ck_i k0
    have b := ck_i k1
    simp only [Win.sm, cZ, e, List.getD_cons_zero, List.getD_cons_succ]
    exact ⟨a.2, b.2⟩
end Go.Proofs.YtpcnpmhpelbndaaGreatDoor.Vx
