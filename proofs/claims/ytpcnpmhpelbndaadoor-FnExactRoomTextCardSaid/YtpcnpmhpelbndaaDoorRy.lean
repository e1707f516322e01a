/- Rooms, in the abstract: their copies and their sameness in a law. -/
import Derived.Test.YtpcnpmhpelbndaaDoorRx
import Derived.Test.YtpcnpmhpelbndaaDoorRz
namespace Go.Proofs.YtpcnpmhpelbndaaDoor.Vx
open Go Go.RowKit Fl
set_option maxRecDepth 100000
set_option maxHeartbeats 2000000
set_option linter.unusedSimpArgs false
set_option linter.unusedVariables false

theorem szRoomS_cv (r : Rom) (n cap : Nat) (f : Nat → List FV) (left : Int) (h1 : 0 ≤ left) (h2 : left ≤ 1048576) (hc : n ≤ cap) (hn : n ≤ 9223372036854775807) :
    CV Tryd.prog 13 [romV r n cap, .f (.int .i64 left)] [.rows n cap 3 f false] (fun v h => v = .f (.int .i64 (szI left n)) ∧ h = [.rows n cap 3 f false]) := by
  refine cv_of_run 1000 sc13 sb13 12 [.tmp 4] tabOk (by kernel_rfl) Tryd.func13 rfl (by kernel_rfl) Tryd.ntmps13 rfl (by simp) rfl (by simp [bdL, SV.bd]) ?_
  simp (config := { maxSteps := 1000000 }) (disch := omega) only [go_sem, Int.reduceToNat, ↓reduceIte, Nat.reduceLT, Nat.reduceEqDiff, Nat.reduceAdd, Nat.reduceMul, Nat.reduceSub, Nat.reduceBEq, Nat.reduceLeDiff, reduceCtorEq, Nat.reduceLT, ↓Br_true, ↓Br_false, bind, pure, sc13, sb13]
  repeat' (first | (with_reducible refine And.intro (by first | (unfold SOk; kernel_rfl) | (unfold SBOk; kernel_rfl) | (with_reducible assumption) | omega | assumption) ?_) | (with_reducible refine Br_intro (fun hc => ?_) (fun hc => ?_)) | ((have cc := szWindowS_cv n cap f left h1 h2 hn; (first | ((first | refine callR (by rfl) (by rfl) (by rfl) cc ?_ | refine callM (by rfl) (by rfl) (by rfl) cc ?_ | refine callMo (by rfl) (by rfl) (by rfl) cc ?_); clear cc; rintro _ _ ⟨rfl, rfl⟩) | (refine callE (by rfl) cc (by rfl) ?_; clear cc))); simp (config := { maxSteps := 1000000 }) (disch := omega) only [go_sem, Int.reduceToNat, ↓reduceIte, Nat.reduceLT, Nat.reduceEqDiff, Nat.reduceAdd, Nat.reduceMul, Nat.reduceSub, Nat.reduceBEq, Nat.reduceLeDiff, reduceCtorEq, Nat.reduceLT, ↓Br_true, ↓Br_false, bind, pure, sc13, sb13]) | ((with_reducible show WidN _ _ _ _ _ _ _ _); (first | refine widL (by decide) (by with_reducible assumption) ?_ | refine widL (by decide) (FWok_nn (by with_reducible assumption)) ?_ | refine widN (by decide) (fun c hc => ?_)); simp (config := { maxSteps := 1000000 }) (disch := omega) only [go_sem, Int.reduceToNat, ↓reduceIte, Nat.reduceLT, Nat.reduceEqDiff, Nat.reduceAdd, Nat.reduceMul, Nat.reduceSub, Nat.reduceBEq, Nat.reduceLeDiff, reduceCtorEq, Nat.reduceLT, ↓Br_true, ↓Br_false, bind, pure, sc13, sb13]))
  · simp only [decide_eq_true_eq] at hc
    have e : szI left n = -1 := by
      unfold szI at *
      split at hc
      · rename_i c; rw [if_pos c]
      · omega
    rw [e]
  · trivial
theorem szRoomN_cv (r : Rom) (left : Int) (h1 : 0 ≤ left) (h2 : left ≤ 1048576) :
    CV Tryd.prog 13 [.agg [.f (.int .i8 r.wi), .f (.int .i8 r.hi), .f .nils], .f (.int .i64 left)] [] (fun v h => v = .f (.int .i64 left) ∧ h = []) := by
  have : decide (left < 0) = false := decide_eq_false (by omega)
  refine cv_of_run 1000 sc13 sb13 12 [.tmp 4] tabOk (by kernel_rfl) Tryd.func13 rfl (by kernel_rfl) Tryd.ntmps13 rfl (by simp) rfl (by simp [bdL, SV.bd]) ?_
  simp (config := { maxSteps := 1000000 }) (disch := omega) only [go_sem, Int.reduceToNat, ↓reduceIte, Nat.reduceLT, Nat.reduceEqDiff, Nat.reduceAdd, Nat.reduceMul, Nat.reduceSub, Nat.reduceBEq, Nat.reduceLeDiff, reduceCtorEq, Nat.reduceLT, ↓Br_true, ↓Br_false, bind, pure, sc13, sb13, this]
  repeat' (first | (with_reducible refine And.intro (by first | (unfold SOk; kernel_rfl) | (unfold SBOk; kernel_rfl) | (with_reducible assumption) | omega | assumption) ?_) | (with_reducible refine Br_intro (fun hc => ?_) (fun hc => ?_)) | ((have cc := szWindowN_cv left h1 h2; (first | ((first | refine callR (by rfl) (by rfl) (by rfl) cc ?_ | refine callM (by rfl) (by rfl) (by rfl) cc ?_ | refine callMo (by rfl) (by rfl) (by rfl) cc ?_); clear cc; rintro _ _ ⟨rfl, rfl⟩) | (refine callE (by rfl) cc (by rfl) ?_; clear cc))); simp (config := { maxSteps := 1000000 }) (disch := omega) only [go_sem, Int.reduceToNat, ↓reduceIte, Nat.reduceLT, Nat.reduceEqDiff, Nat.reduceAdd, Nat.reduceMul, Nat.reduceSub, Nat.reduceBEq, Nat.reduceLeDiff, reduceCtorEq, Nat.reduceLT, ↓Br_true, ↓Br_false, bind, pure, sc13, sb13, this]) | ((with_reducible show WidN _ _ _ _ _ _ _ _); (first | refine widL (by decide) (by with_reducible assumption) ?_ | refine widL (by decide) (FWok_nn (by with_reducible assumption)) ?_ | refine widN (by decide) (fun c hc => ?_)); simp (config := { maxSteps := 1000000 }) (disch := omega) only [go_sem, Int.reduceToNat, ↓reduceIte, Nat.reduceLT, Nat.reduceEqDiff, Nat.reduceAdd, Nat.reduceMul, Nat.reduceSub, Nat.reduceBEq, Nat.reduceLeDiff, reduceCtorEq, Nat.reduceLT, ↓Br_true, ↓Br_false, bind, pure, sc13, sb13, this]))
theorem toRoomS_cv (r : Rom) (us : Nat → Win) (n cap : Nat) (f : Nat → List FV) (hf : ∀ i, i < n → f i = (us i).fv) (hn : n ≤ 1048576) (hc : n ≤ cap) :
    CV Tryd.prog 15 [romV r n cap] [.rows n cap 3 f false] (fun v h => ∃ g, (∀ i, i < n → g i = (us i).fv) ∧ v = .agg [.f (.int .i8 r.wi), .f (.int .i8 r.hi), .slc 1 0 n n] ∧ h = [.rows n cap 3 f false, .rows n n 3 g true]) := by
  refine cv_of_run 1000 sc15 sb15 15 [.cell 2 44] tabOk (by kernel_rfl) Tryd.func15 rfl (by kernel_rfl) Tryd.ntmps15 rfl (by simp) rfl (by simp [bdL, SV.bd]) ?_
  simp (config := { maxSteps := 1000000 }) (disch := omega) only [go_sem, Int.reduceToNat, ↓reduceIte, Nat.reduceLT, Nat.reduceEqDiff, Nat.reduceAdd, Nat.reduceMul, Nat.reduceSub, Nat.reduceBEq, Nat.reduceLeDiff, reduceCtorEq, Nat.reduceLT, ↓Br_true, ↓Br_false, bind, pure, sc15, sb15]
  have cc := toWindowS_cv n cap f (fun i => (us i).w) (fun i => (us i).a) (fun i => (us i).l) hf hn hc; (first | refine callR (by rfl) (by rfl) (by rfl) cc ?_ | refine callM (by rfl) (by rfl) (by rfl) cc ?_ | refine callMo (by rfl) (by rfl) (by rfl) cc ?_ | refine callG (by rfl) (by rfl) (by rfl) cc ?_ | refine callW (by rfl) (by first | rfl | (simp [ofL, kpB, kpR, ofB, isOwnB, isDead, inL, hget]; done)) (by rfl) (by rfl) cc ?_); clear cc; rintro _ _ ⟨g, hg, rfl, rfl⟩
  simp (config := { maxSteps := 1000000 }) (disch := omega) only [go_sem, Int.reduceToNat, ↓reduceIte, Nat.reduceLT, Nat.reduceEqDiff, Nat.reduceAdd, Nat.reduceMul, Nat.reduceSub, Nat.reduceBEq, Nat.reduceLeDiff, reduceCtorEq, Nat.reduceLT, ↓Br_true, ↓Br_false, bind, pure, sc15, sb15]
  exact ⟨g, hg, rfl⟩
theorem toRoomN_cv (r : Rom) : CV Tryd.prog 15 [.agg [.f (.int .i8 r.wi), .f (.int .i8 r.hi), .f .nils]] [] (fun v h => ∃ g, v = .agg [.f (.int .i8 r.wi), .f (.int .i8 r.hi), .slc 0 0 0 0] ∧ h = [.rows 0 0 3 g true]) := by
  refine cv_of_run 1000 sc15 sb15 15 [.cell 2 44] tabOk (by kernel_rfl) Tryd.func15 rfl (by kernel_rfl) Tryd.ntmps15 rfl (by simp) rfl (by simp [bdL, SV.bd]) ?_
  simp (config := { maxSteps := 1000000 }) (disch := omega) only [go_sem, Int.reduceToNat, ↓reduceIte, Nat.reduceLT, Nat.reduceEqDiff, Nat.reduceAdd, Nat.reduceMul, Nat.reduceSub, Nat.reduceBEq, Nat.reduceLeDiff, reduceCtorEq, Nat.reduceLT, ↓Br_true, ↓Br_false, bind, pure, sc15, sb15]
  have cc := toWindowN_cv; (first | refine callR (by rfl) (by rfl) (by rfl) cc ?_ | refine callM (by rfl) (by rfl) (by rfl) cc ?_ | refine callMo (by rfl) (by rfl) (by rfl) cc ?_ | refine callG (by rfl) (by rfl) (by rfl) cc ?_ | refine callW (by rfl) (by first | rfl | (simp [ofL, kpB, kpR, ofB, isOwnB, isDead, inL, hget]; done)) (by rfl) (by rfl) cc ?_); clear cc; rintro _ _ ⟨g, rfl, rfl⟩
  simp (config := { maxSteps := 1000000 }) (disch := omega) only [go_sem, Int.reduceToNat, ↓reduceIte, Nat.reduceLT, Nat.reduceEqDiff, Nat.reduceAdd, Nat.reduceMul, Nat.reduceSub, Nat.reduceBEq, Nat.reduceLeDiff, reduceCtorEq, Nat.reduceLT, ↓Br_true, ↓Br_false, bind, pure, sc15, sb15]
  exact ⟨g, rfl⟩
theorem eqRoom_cv (r : Rom) (us : Nat → Win) (n : Nat) (f g : Nat → List FV) (cap cap' : Nat) (hf : ∀ i, i < n → f i = (us i).fv) (hg : ∀ i, i < n → g i = (us i).fv) (h1 : n ≤ cap) (h2 : n ≤ cap') (hn : n ≤ 1048576) :
    CV Tryd.prog 17 [romV r n cap, .agg [.f (.int .i8 r.wi), .f (.int .i8 r.hi), .slc 1 0 n cap']] [.rows n cap 3 f false, .rows n cap' 3 g false] (fun v h => v = .f (.bool true) ∧ h = [.rows n cap 3 f false, .rows n cap' 3 g false]) := by
  refine cv_of_run 1000 sc17 sb17 21 [.tmp 4] tabOk (by kernel_rfl) Tryd.func17 rfl (by kernel_rfl) Tryd.ntmps17 rfl (by simp) rfl (by simp [bdL, SV.bd]) ?_
  simp (config := { maxSteps := 1000000 }) (disch := omega) only [go_sem, Int.reduceToNat, ↓reduceIte, Nat.reduceLT, Nat.reduceEqDiff, Nat.reduceAdd, Nat.reduceMul, Nat.reduceSub, Nat.reduceBEq, Nat.reduceLeDiff, reduceCtorEq, Nat.reduceLT, ↓Br_true, ↓Br_false, bind, pure, sc17, sb17]
  (have cc := eqWindowS_cv n f g cap cap' (fun i => (us i).w) (fun i => (us i).a) (fun i => (us i).l) hf hg h1 h2 hn; (first | ((first | refine callR (by rfl) (by rfl) (by rfl) cc ?_ | refine callM (by rfl) (by rfl) (by rfl) cc ?_ | refine callMo (by rfl) (by rfl) (by rfl) cc ?_); clear cc; rintro _ _ ⟨rfl, rfl⟩) | (refine callE (by rfl) cc (by rfl) ?_; clear cc)))
  simp (config := { maxSteps := 1000000 }) (disch := omega) only [go_sem, Int.reduceToNat, ↓reduceIte, Nat.reduceLT, Nat.reduceEqDiff, Nat.reduceAdd, Nat.reduceMul, Nat.reduceSub, Nat.reduceBEq, Nat.reduceLeDiff, reduceCtorEq, Nat.reduceLT, ↓Br_true, ↓Br_false, bind, pure, sc17, sb17]
abbrev romN (r : Rom) : SV := .agg [.f (.int .i8 r.wi), .f (.int .i8 r.hi), .f .nils]
theorem win_rows {n : Nat} {f : Nat → List FV} (h : ∀ i, i < n → RowK [.i .i8, .i .i8, .f .f32] (f i)) : ∃ us : Nat → Win, (∀ i, i < n → f i = (us i).fv) ∧ ∀ i, i < n → (us i).sm := by
  refine ⟨fun i => ⟨cZ f 0 i, cZ f 1 i, cN f 2 i⟩, fun i hi => ?_, fun i hi => ?_⟩
  all_goals (
    obtain ⟨x0, r, e, k0, h⟩ := rowK_cons (h i hi)
    obtain ⟨x1, r, rfl, k1, h⟩ := rowK_cons h
    obtain ⟨x2, r, rfl, k2, h⟩ := rowK_cons h
    obtain rfl := rowK_nil h)
  · simp only [Win.fv, cZ, cN, e, List.getD_cons_zero, List.getD_cons_succ]
    rw [← ck_f k2, ← (ck_i k0).1, ← (ck_i k1).1]
  · have a := ck_i k0
    have b := ck_i k1
    simp only [Win.sm, cZ, e, List.getD_cons_zero, List.getD_cons_succ]
    exact ⟨a.2, b.2⟩
end Go.Proofs.YtpcnpmhpelbndaaDoor.Vx
