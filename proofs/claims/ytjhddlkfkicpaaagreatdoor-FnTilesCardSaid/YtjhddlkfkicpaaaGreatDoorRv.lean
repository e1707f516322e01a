/- Rooms, in the abstract: are they valid. -/
import Derived.Test.YtjhddlkfkicpaaaGreatDoorRw
namespace Go.Proofs.YtjhddlkfkicpaaaGreatDoor.Vx
set_option linter.unusedSimpArgs false
set_option linter.unusedVariables false
open Go Go.RowKit Fl
set_option maxRecDepth 100000
set_option maxHeartbeats 2000000
set_option linter.unusedSimpArgs false
set_option linter.unusedVariables false

theorem rwithin_cv (n l u : Int) : CV Tryz.prog 37 [.f (.int .i64 n), .f (.int .i64 l), .f (.int .i64 u)] [] (fun v hh => v = .f (.bool (inn n l u)) ∧ hh = []) :=
  CV.old0 trivial (enters_of Tryz.func37 (by kernel_rfl) (by kernel_rfl)) fun w β _ => within_c n l u w
theorem rl00In_cv (n l u : Int) : CV Tryz.prog 62 [.f (.int .i64 n), .f (.int .i64 l), .f (.int .i64 u)] [] (fun v hh => v = .f (.bool (inn n l u)) ∧ hh = []) :=
  CV.old0 trivial (enters_of Tryz.func62 (by kernel_rfl) (by kernel_rfl)) fun w β _ => l00In_c n l u w
theorem rIsPart_cv (a : Nat) : CV Tryz.prog 60 [.f (.flt .f32 a)] [] (fun v hh => v = .f (.bool (isPart a)) ∧ hh = []) :=
  CV.old0 trivial (enters_of Tryz.func60 (by kernel_rfl) (by kernel_rfl)) fun w β _ => IsPart_c a w
theorem rl01Part_cv (a : Nat) : CV Tryz.prog 63 [.f (.flt .f32 a)] [] (fun v hh => v = .f (.bool (isPart a)) ∧ hh = []) :=
  CV.old0 trivial (enters_of Tryz.func63 (by kernel_rfl) (by kernel_rfl)) fun w β _ => l01Part_c a w
theorem l03Wall_cv (n : Int) : CV Tryz.prog 82 [.f (.int .i64 n)] [] (fun v hh => v = .f (.bool (inn n 0 3)) ∧ hh = []) := by
  refine cv_of_run 1000 sc82 sb82 5 [.tmp 2] tabOk (by kernel_rfl) Tryz.func82 rfl (by kernel_rfl) Tryz.ntmps82 rfl (by simp) rfl (by simp [bdL, SV.bd]) ?_
  simp (config := { maxSteps := 1000000 }) (disch := omega) only [go_sem, Int.reduceToNat, ↓reduceIte, Nat.reduceLT, Nat.reduceEqDiff, Nat.reduceAdd, Nat.reduceMul, Nat.reduceSub, Nat.reduceBEq, Nat.reduceLeDiff, reduceCtorEq, Nat.reduceLT, ↓Br_true, ↓Br_false, bind, pure, sc82, sb82]
  repeat' (first | (with_reducible refine And.intro (by first | (unfold SOk; kernel_rfl) | (unfold SBOk; kernel_rfl) | (with_reducible assumption) | omega | assumption) ?_) | (with_reducible refine Br_intro (fun hc => ?_) (fun hc => ?_)) | ((first | (refine callR (by rfl) (by rfl) (by rfl) (rl00In_cv _ _ _) ?_; rintro _ _ ⟨rfl, rfl⟩) | (refine callM (by rfl) (by rfl) (by rfl) (rl00In_cv _ _ _) ?_; rintro _ _ ⟨rfl, rfl⟩) | (refine callMo (by rfl) (by rfl) (by rfl) (rl00In_cv _ _ _) ?_; rintro _ _ ⟨rfl, rfl⟩) | (refine callE (by rfl) (rl00In_cv _ _ _) (by rfl) ?_)); simp (config := { maxSteps := 1000000 }) (disch := omega) only [go_sem, Int.reduceToNat, ↓reduceIte, Nat.reduceLT, Nat.reduceEqDiff, Nat.reduceAdd, Nat.reduceMul, Nat.reduceSub, Nat.reduceBEq, Nat.reduceLeDiff, reduceCtorEq, Nat.reduceLT, ↓Br_true, ↓Br_false, bind, pure, sc82, sb82]) | ((with_reducible show WidN _ _ _ _ _ _ _ _); (first | refine widL (by decide) (by with_reducible assumption) ?_ | refine widL (by decide) (FWok_nn (by with_reducible assumption)) ?_ | refine widN (by decide) (fun c hc => ?_)); simp (config := { maxSteps := 1000000 }) (disch := omega) only [go_sem, Int.reduceToNat, ↓reduceIte, Nat.reduceLT, Nat.reduceEqDiff, Nat.reduceAdd, Nat.reduceMul, Nat.reduceSub, Nat.reduceBEq, Nat.reduceLeDiff, reduceCtorEq, Nat.reduceLT, ↓Br_true, ↓Br_false, bind, pure, sc82, sb82]))
theorem along_cv (r : Rom) (w : Int) (n cap : Nat) (f : Nat → List FV) :
    CV Tryz.prog 80 [.ptr 0 0 0, .f (.int .i8 w)] [romB r n cap false, .rows n cap 3 f false] (fun v h => v = .f (.int .i8 (lastI r w)) ∧ h = [romB r n cap false, .rows n cap 3 f false]) := by
  refine cv_of_run 1000 sc80 sb80 19 [.tmp 4] tabOk (by kernel_rfl) Tryz.func80 rfl (by kernel_rfl) Tryz.ntmps80 rfl (by simp) rfl (by simp [bdL, SV.bd]) ?_
  simp (config := { maxSteps := 1000000 }) (disch := omega) only [go_sem, Int.reduceToNat, ↓reduceIte, Nat.reduceLT, Nat.reduceEqDiff, Nat.reduceAdd, Nat.reduceMul, Nat.reduceSub, Nat.reduceBEq, Nat.reduceLeDiff, reduceCtorEq, Nat.reduceLT, ↓Br_true, ↓Br_false, bind, pure, sc80, sb80]
  repeat' (first | (with_reducible refine And.intro (by first | (unfold SOk; kernel_rfl) | (unfold SBOk; kernel_rfl) | (with_reducible assumption) | omega | assumption) ?_) | (with_reducible refine Br_intro (fun hc => ?_) (fun hc => ?_)) | ((with_reducible show WidN _ _ _ _ _ _ _ _); (first | refine widL (by decide) (by with_reducible assumption) ?_ | refine widL (by decide) (FWok_nn (by with_reducible assumption)) ?_ | refine widN (by decide) (fun c hc => ?_)); simp (config := { maxSteps := 1000000 }) (disch := omega) only [go_sem, Int.reduceToNat, ↓reduceIte, Nat.reduceLT, Nat.reduceEqDiff, Nat.reduceAdd, Nat.reduceMul, Nat.reduceSub, Nat.reduceBEq, Nat.reduceLeDiff, reduceCtorEq, Nat.reduceLT, ↓Br_true, ↓Br_false, bind, pure, sc80, sb80]))
  all_goals simp only [decide_eq_true_eq, decide_eq_false_iff_not] at *
  all_goals simp [lastI, *]
def Win.sm (u : Win) : Prop := (-128 ≤ u.w ∧ u.w ≤ 127) ∧ (-128 ≤ u.a ∧ u.a ≤ 127)
theorem fits_cv (r : Rom) (u : Win) (n cap : Nat) (f : Nat → List FV) (hr : r.sz) (hu : u.sm) :
    CV Tryz.prog 54 [.ptr 0 0 0, winV u] [romB r n cap false, .rows n cap 3 f false] (fun v h => v = .f (.bool (u.ok r)) ∧ h = [romB r n cap false, .rows n cap 3 f false]) := by
  obtain ⟨⟨_, _⟩, _, _⟩ := hr
  obtain ⟨⟨_, _⟩, _, _⟩ := hu
  refine cv_of_run 1000 sc54 sb54 32 [.tmp 4] tabOk (by kernel_rfl) Tryz.func54 rfl (by kernel_rfl) Tryz.ntmps54 rfl (by simp) rfl (by simp [bdL, SV.bd]) ?_
  simp (config := { maxSteps := 1000000 }) (disch := omega) only [go_sem, Int.reduceToNat, ↓reduceIte, Nat.reduceLT, Nat.reduceEqDiff, Nat.reduceAdd, Nat.reduceMul, Nat.reduceSub, Nat.reduceBEq, Nat.reduceLeDiff, reduceCtorEq, Nat.reduceLT, ↓Br_true, ↓Br_false, bind, pure, sc54, sb54]
  repeat' (first | (with_reducible refine And.intro (by first | (unfold SOk; kernel_rfl) | (unfold SBOk; kernel_rfl) | (with_reducible assumption) | omega | assumption) ?_) | (with_reducible refine Br_intro (fun hc => ?_) (fun hc => ?_)) | ((have cc := along_cv r u.w n cap f; (first | ((first | refine callR (by rfl) (by rfl) (by rfl) cc ?_ | refine callM (by rfl) (by rfl) (by rfl) cc ?_ | refine callMo (by rfl) (by rfl) (by rfl) cc ?_); clear cc; rintro _ _ ⟨rfl, rfl⟩) | (refine callE (by rfl) cc (by rfl) ?_; clear cc))); simp (config := { maxSteps := 1000000 }) (disch := omega) only [go_sem, Int.reduceToNat, ↓reduceIte, Nat.reduceLT, Nat.reduceEqDiff, Nat.reduceAdd, Nat.reduceMul, Nat.reduceSub, Nat.reduceBEq, Nat.reduceLeDiff, reduceCtorEq, Nat.reduceLT, ↓Br_true, ↓Br_false, bind, pure, sc54, sb54]) | ((first | (refine callR (by rfl) (by rfl) (by rfl) (rIsPart_cv _) ?_; rintro _ _ ⟨rfl, rfl⟩) | (refine callM (by rfl) (by rfl) (by rfl) (rIsPart_cv _) ?_; rintro _ _ ⟨rfl, rfl⟩) | (refine callMo (by rfl) (by rfl) (by rfl) (rIsPart_cv _) ?_; rintro _ _ ⟨rfl, rfl⟩) | (refine callE (by rfl) (rIsPart_cv _) (by rfl) ?_)); simp (config := { maxSteps := 1000000 }) (disch := omega) only [go_sem, Int.reduceToNat, ↓reduceIte, Nat.reduceLT, Nat.reduceEqDiff, Nat.reduceAdd, Nat.reduceMul, Nat.reduceSub, Nat.reduceBEq, Nat.reduceLeDiff, reduceCtorEq, Nat.reduceLT, ↓Br_true, ↓Br_false, bind, pure, sc54, sb54]) | ((with_reducible show WidN _ _ _ _ _ _ _ _); (first | refine widL (by decide) (by with_reducible assumption) ?_ | refine widL (by decide) (FWok_nn (by with_reducible assumption)) ?_ | refine widN (by decide) (fun c hc => ?_)); simp (config := { maxSteps := 1000000 }) (disch := omega) only [go_sem, Int.reduceToNat, ↓reduceIte, Nat.reduceLT, Nat.reduceEqDiff, Nat.reduceAdd, Nat.reduceMul, Nat.reduceSub, Nat.reduceBEq, Nat.reduceLeDiff, reduceCtorEq, Nat.reduceLT, ↓Br_true, ↓Br_false, bind, pure, sc54, sb54]))
  all_goals simp only [decide_eq_true_eq, decide_eq_false_iff_not] at *
  · have h : inn u.w 0 3 = true := inn_true.2 ⟨by omega, by omega⟩
    have h2 : inn u.a 0 (lastI r u.w - 1) = true := inn_true.2 ⟨by omega, by omega⟩
    simp [Win.ok, h, h2]
  · have h2 : inn u.a 0 (lastI r u.w - 1) = false := inn_false.2 (by omega)
    simp [Win.ok, h2]
  · have h2 : inn u.a 0 (lastI r u.w - 1) = false := inn_false.2 (by omega)
    simp [Win.ok, h2]
  · have h2 : inn u.w 0 3 = false := inn_false.2 (by omega)
    simp [Win.ok, h2]
  · have h2 : inn u.w 0 3 = false := inn_false.2 (by omega)
    simp [Win.ok, h2]
theorem l03Window_cv (r : Rom) (u : Win) (n cap : Nat) (f : Nat → List FV) (hr : r.sz) (hu : u.sm) :
    CV Tryz.prog 65 [.ptr 0 0 0, winV u] [romB r n cap false, .rows n cap 3 f false] (fun v h => v = .f (.bool (u.ok r)) ∧ h = [romB r n cap false, .rows n cap 3 f false]) := by
  obtain ⟨⟨_, _⟩, _, _⟩ := hr
  obtain ⟨⟨_, _⟩, _, _⟩ := hu
  refine cv_of_run 1000 sc65 sb65 42 [.tmp 4] tabOk (by kernel_rfl) Tryz.func65 rfl (by kernel_rfl) Tryz.ntmps65 rfl (by simp) rfl (by simp [bdL, SV.bd]) ?_
  simp (config := { maxSteps := 1000000 }) (disch := omega) only [go_sem, Int.reduceToNat, ↓reduceIte, Nat.reduceLT, Nat.reduceEqDiff, Nat.reduceAdd, Nat.reduceMul, Nat.reduceSub, Nat.reduceBEq, Nat.reduceLeDiff, reduceCtorEq, Nat.reduceLT, ↓Br_true, ↓Br_false, bind, pure, sc65, sb65]
  repeat' (first | (with_reducible refine And.intro (by first | (unfold SOk; kernel_rfl) | (unfold SBOk; kernel_rfl) | (with_reducible assumption) | omega | assumption) ?_) | (with_reducible refine Br_intro (fun hc => ?_) (fun hc => ?_)) | ((first | (refine callR (by rfl) (by rfl) (by rfl) (l03Wall_cv _) ?_; rintro _ _ ⟨rfl, rfl⟩) | (refine callM (by rfl) (by rfl) (by rfl) (l03Wall_cv _) ?_; rintro _ _ ⟨rfl, rfl⟩) | (refine callMo (by rfl) (by rfl) (by rfl) (l03Wall_cv _) ?_; rintro _ _ ⟨rfl, rfl⟩) | (refine callE (by rfl) (l03Wall_cv _) (by rfl) ?_)); simp (config := { maxSteps := 1000000 }) (disch := omega) only [go_sem, Int.reduceToNat, ↓reduceIte, Nat.reduceLT, Nat.reduceEqDiff, Nat.reduceAdd, Nat.reduceMul, Nat.reduceSub, Nat.reduceBEq, Nat.reduceLeDiff, reduceCtorEq, Nat.reduceLT, ↓Br_true, ↓Br_false, bind, pure, sc65, sb65]) | ((first | (refine callR (by rfl) (by rfl) (by rfl) (rl00In_cv _ _ _) ?_; rintro _ _ ⟨rfl, rfl⟩) | (refine callM (by rfl) (by rfl) (by rfl) (rl00In_cv _ _ _) ?_; rintro _ _ ⟨rfl, rfl⟩) | (refine callMo (by rfl) (by rfl) (by rfl) (rl00In_cv _ _ _) ?_; rintro _ _ ⟨rfl, rfl⟩) | (refine callE (by rfl) (rl00In_cv _ _ _) (by rfl) ?_)); simp (config := { maxSteps := 1000000 }) (disch := omega) only [go_sem, Int.reduceToNat, ↓reduceIte, Nat.reduceLT, Nat.reduceEqDiff, Nat.reduceAdd, Nat.reduceMul, Nat.reduceSub, Nat.reduceBEq, Nat.reduceLeDiff, reduceCtorEq, Nat.reduceLT, ↓Br_true, ↓Br_false, bind, pure, sc65, sb65]) | ((first | (refine callR (by rfl) (by rfl) (by rfl) (rl01Part_cv _) ?_; rintro _ _ ⟨rfl, rfl⟩) | (refine callM (by rfl) (by rfl) (by rfl) (rl01Part_cv _) ?_; rintro _ _ ⟨rfl, rfl⟩) | (refine callMo (by rfl) (by rfl) (by rfl) (rl01Part_cv _) ?_; rintro _ _ ⟨rfl, rfl⟩) | (refine callE (by rfl) (rl01Part_cv _) (by rfl) ?_)); simp (config := { maxSteps := 1000000 }) (disch := omega) only [go_sem, Int.reduceToNat, ↓reduceIte, Nat.reduceLT, Nat.reduceEqDiff, Nat.reduceAdd, Nat.reduceMul, Nat.reduceSub, Nat.reduceBEq, Nat.reduceLeDiff, reduceCtorEq, Nat.reduceLT, ↓Br_true, ↓Br_false, bind, pure, sc65, sb65]) | ((with_reducible show WidN _ _ _ _ _ _ _ _); (first | refine widL (by decide) (by with_reducible assumption) ?_ | refine widL (by decide) (FWok_nn (by with_reducible assumption)) ?_ | refine widN (by decide) (fun c hc => ?_)); simp (config := { maxSteps := 1000000 }) (disch := omega) only [go_sem, Int.reduceToNat, ↓reduceIte, Nat.reduceLT, Nat.reduceEqDiff, Nat.reduceAdd, Nat.reduceMul, Nat.reduceSub, Nat.reduceBEq, Nat.reduceLeDiff, reduceCtorEq, Nat.reduceLT, ↓Br_true, ↓Br_false, bind, pure, sc65, sb65]))
  all_goals simp only [decide_eq_true_eq, decide_eq_false_iff_not] at *
  all_goals by_cases h3 : inn u.w 0 3 = true
  all_goals first
    | (have b := inn_true.1 h3
       have e : lastI r u.w = r.hi := by unfold lastI; rw [if_neg (by omega), if_neg (by omega)]
       unfold Win.ok
       rw [e]
       simp_all; done)
    | (have b := inn_true.1 h3
       have e : lastI r u.w = r.wi := by
         unfold lastI
         by_cases c : u.w = 0
         · rw [if_pos c]
         · rw [if_neg c, if_pos (by omega)]
       unfold Win.ok
       rw [e]
       simp_all; done)
    | (simp_all [Win.ok]; done)
end Go.Proofs.YtjhddlkfkicpaaaGreatDoor.Vx
