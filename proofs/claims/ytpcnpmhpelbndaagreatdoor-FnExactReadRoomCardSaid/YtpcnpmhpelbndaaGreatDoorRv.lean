/- Rooms, in the abstract: are they valid. -/
import Derived.Test.YtpcnpmhpelbndaaGreatDoorRw
namespace Go.Proofs.YtpcnpmhpelbndaaGreatDoor.Vx
set_option linter.unusedSimpArgs false
set_option linter.unusedVariables false
open Go Go.RowKit Fl
set_option maxRecDepth 100000
set_option maxHeartbeats 2000000
set_option linter.unusedSimpArgs false
set_option linter.unusedVariables false

theorem rwithin_cv (n l u : Int) : CV Tryz.prog 68 [.f (.int .i64 n), .f (.int .i64 l), .f (.int .i64 u)] [] (fun v hh => v = .f (.bool (inn n l u)) ∧ hh = []) :=
  CV.old0 trivial (enters_of Tryz.func68 (by kernel_rfl) (by kernel_rfl)) fun w β _ => within_c n l u w
theorem rl00In_cv (n l u : Int) : CV Tryz.prog 97 [.f (.int .i64 n), .f (.int .i64 l), .f (.int .i64 u)] [] (fun v hh => v = .f (.bool (inn n l u)) ∧ hh = []) :=
  CV.old0 trivial (enters_of Tryz.func97 (by kernel_rfl) (by kernel_rfl)) fun w β _ => l00In_c n l u w
theorem rIsPart_cv (a : Nat) : CV Tryz.prog 55 [.f (.flt .f32 a)] [] (fun v hh => v = .f (.bool (isPart a)) ∧ hh = []) :=
  CV.old0 trivial (enters_of Tryz.func55 (by kernel_rfl) (by kernel_rfl)) fun w β _ => IsPart_c a w
theorem rl01Part_cv (a : Nat) : CV Tryz.prog 98 [.f (.flt .f32 a)] [] (fun v hh => v = .f (.bool (isPart a)) ∧ hh = []) :=
  CV.old0 trivial (enters_of Tryz.func98 (by kernel_rfl) (by kernel_rfl)) fun w β _ => l01Part_c a w
theorem l03Wall_cv (n : Int) : CV Tryz.prog 147 [.f (.int .i64 n)] [] (fun v hh => v = .f (.bool (inn n 0 3)) ∧ hh = []) := by
  refine cv_of_run 1000 sc147 sb147 5 [.tmp 2] tabOk (by kernel_rfl) Tryz.func147 rfl (by kernel_rfl) Tryz.ntmps147 rfl (by simp) rfl (by simp [bdL, SV.bd]) ?_
  simp (config := { maxSteps := 1000000 }) (disch := omega) only [go_sem, Int.reduceToNat, ↓reduceIte, Nat.reduceLT, Nat.reduceEqDiff, Nat.reduceAdd, Nat.reduceMul, Nat.reduceSub, Nat.reduceBEq, Nat.reduceLeDiff, reduceCtorEq, Nat.reduceLT, ↓Br_true, ↓Br_false, bind, pure, sc147, sb147]
  repeat' (first | (with_reducible refine And.intro (by first | (unfold SOk; kernel_rfl) | (unfold SBOk; kernel_rfl) | (with_reducible assumption) | omega | assumption) ?_) | (with_reducible refine Br_intro (fun hc => ?_) (fun hc => ?_)) | ((first | (refine callR (by rfl) (by rfl) (by rfl) (rl00In_cv _ _ _) ?_; rintro _ _ ⟨rfl, rfl⟩) | (refine callM (by rfl) (by rfl) (by rfl) (rl00In_cv _ _ _) ?_; rintro _ _ ⟨rfl, rfl⟩) | (refine callMo (by rfl) (by rfl) (by rfl) (rl00In_cv _ _ _) ?_; rintro _ _ ⟨rfl, rfl⟩) | (refine callE (by rfl) (rl00In_cv _ _ _) (by rfl) ?_)); simp (config := { maxSteps := 1000000 }) (disch := omega) only [go_sem, Int.reduceToNat, ↓reduceIte, Nat.reduceLT, Nat.reduceEqDiff, Nat.reduceAdd, Nat.reduceMul, Nat.reduceSub, Nat.reduceBEq, Nat.reduceLeDiff, reduceCtorEq, Nat.reduceLT, ↓Br_true, ↓Br_false, bind, pure, sc147, sb147]) | ((with_reducible show WidN _ _ _ _ _ _ _ _); (first | refine widL (by decide) (by with_reducible assumption) ?_ | refine widL (by decide) (FWok_nn (by with_reducible assumption)) ?_ | refine widN (by decide) (fun c hc => ?_)); simp (config := { maxSteps := 1000000 }) (disch := omega) only [go_sem, Int.reduceToNat, ↓reduceIte, Nat.reduceLT, Nat.reduceEqDiff, Nat.reduceAdd, Nat.reduceMul, Nat.reduceSub, Nat.reduceBEq, Nat.reduceLeDiff, reduceCtorEq, Nat.reduceLT, ↓Br_true, ↓Br_false, bind, pure, sc147, sb147]))
theorem along_cv (r : Rom) (w : Int) (n cap : Nat) (f : Nat → List FV) :
    CV Tryz.prog 145 [.ptr 0 0 0, .f (.int .i8 w)] [romB r n cap false, .rows n cap 3 f false] (fun v h => v = .f (.int .i8 (lastI r w)) ∧ h = [romB r n cap false, .rows n cap 3 f false]) := by
  refine cv_of_run 1000 sc145 sb145 19 [.tmp 4] tabOk (by kernel_rfl) Tryz.func145 rfl (by kernel_rfl) Tryz.ntmps145 rfl (by simp) rfl (by simp [bdL, SV.bd]) ?_
  simp (config := { maxSteps := 1000000 }) (disch := omega) only [go_sem, Int.reduceToNat, ↓reduceIte, Nat.reduceLT, Nat.reduceEqDiff, Nat.reduceAdd, Nat.reduceMul, Nat.reduceSub, Nat.reduceBEq, Nat.reduceLeDiff, reduceCtorEq, Nat.reduceLT, ↓Br_true, ↓Br_false, bind, pure, sc145, sb145]
  repeat' (first | (with_reducible refine And.intro (by first | (unfold SOk; kernel_rfl) | (unfold SBOk; kernel_rfl) | (with_reducible assumption) | omega | assumption) ?_) | (with_reducible refine Br_intro (fun hc => ?_) (fun hc => ?_)) | ((with_reducible show WidN _ _ _ _ _ _ _ _); (first | refine widL (by decide) (by with_reducible assumption) ?_ | refine widL (by decide) (FWok_nn (by with_reducible assumption)) ?_ | refine widN (by decide) (fun c hc => ?_)); simp (config := { maxSteps := 1000000 }) (disch := omega) only [go_sem, Int.reduceToNat, ↓reduceIte, Nat.reduceLT, Nat.reduceEqDiff, Nat.reduceAdd, Nat.reduceMul, Nat.reduceSub, Nat.reduceBEq, Nat.reduceLeDiff, reduceCtorEq, Nat.reduceLT, ↓Br_true, ↓Br_false, bind, pure, sc145, sb145]))
  all_goals simp only [decide_eq_true_eq, decide_eq_false_iff_not] at *
  all_goals simp [lastI, *]
def Win.sm (u : Win) : Prop := (-128 ≤ u.w ∧ u.w ≤ 127) ∧ (-128 ≤ u.a ∧ u.a ≤ 127)
theorem fits_cv (r : Rom) (u : Win) (n cap : Nat) (f : Nat → List FV) (hr : r.sz) (hu : u.sm) :
    CV Tryz.prog 90 [.ptr 0 0 0, winV u] [romB r n cap false, .rows n cap 3 f false] (fun v h => v = .f (.bool (u.ok r)) ∧ h = [romB r n cap false, .rows n cap 3 f false]) := by
  obtain ⟨⟨_, _⟩, _, _⟩ := hr
  obtain ⟨⟨_, _⟩, _, _⟩ := hu
  refine cv_of_run 1000 sc90 sb90 32 [.tmp 4] tabOk (by kernel_rfl) Tryz.func90 rfl (by kernel_rfl) Tryz.ntmps90 rfl (by simp) rfl (by simp [bdL, SV.bd]) ?_
  simp (config := { maxSteps := 1000000 }) (disch := omega) only [go_sem, Int.reduceToNat, ↓reduceIte, Nat.reduceLT, Nat.reduceEqDiff, Nat.reduceAdd, Nat.reduceMul, Nat.reduceSub, Nat.reduceBEq, Nat.reduceLeDiff, reduceCtorEq, Nat.reduceLT, ↓Br_true, ↓Br_false, bind, pure, sc90, sb90]
  repeat' (first | (with_reducible refine And.intro (by first | (unfold SOk; kernel_rfl) | (unfold SBOk; kernel_rfl) | (with_reducible assumption) | omega | assumption) ?_) | (with_reducible refine Br_intro (fun hc => ?_) (fun hc => ?_)) | ((have cc := along_cv r u.w n cap f; (first | ((first | refine callR (by rfl) (by rfl) (by rfl) cc ?_ | refine callM (by rfl) (by rfl) (by rfl) cc ?_ | refine callMo (by rfl) (by rfl) (by rfl) cc ?_); clear cc; rintro _ _ ⟨rfl, rfl⟩) | (refine callE (by rfl) cc (by rfl) ?_; clear cc))); simp (config := { maxSteps := 1000000 }) (disch := omega) only [go_sem, Int.reduceToNat, ↓reduceIte, Nat.reduceLT, Nat.reduceEqDiff, Nat.reduceAdd, Nat.reduceMul, Nat.reduceSub, Nat.reduceBEq, Nat.reduceLeDiff, reduceCtorEq, Nat.reduceLT, ↓Br_true, ↓Br_false, bind, pure, sc90, sb90]) | ((first | (refine callR (by rfl) (by rfl) (by rfl) (rIsPart_cv _) ?_; rintro _ _ ⟨rfl, rfl⟩) | (refine callM (by rfl) (by rfl) (by rfl) (rIsPart_cv _) ?_; rintro _ _ ⟨rfl, rfl⟩) | (refine callMo (by rfl) (by rfl) (by rfl) (rIsPart_cv _) ?_; rintro _ _ ⟨rfl, rfl⟩) | (refine callE (by rfl) (rIsPart_cv _) (by rfl) ?_)); simp (config := { maxSteps := 1000000 }) (disch := omega) only [go_sem, Int.reduceToNat, ↓reduceIte, Nat.reduceLT, Nat.reduceEqDiff, Nat.reduceAdd, Nat.reduceMul, Nat.reduceSub, Nat.reduceBEq, Nat.reduceLeDiff, reduceCtorEq, Nat.reduceLT, ↓Br_true, ↓Br_false, bind, pure, sc90, sb90]) | ((with_reducible show WidN _ _ _ _ _ _ _ _); (first | refine widL (by decide) (by with_reducible assumption) ?_ | refine widL (by decide) (FWok_nn (by with_reducible assumption)) ?_ | refine widN (by decide) (fun c hc => ?_)); simp (config := { maxSteps := 1000000 }) (disch := omega) only [go_sem, Int.reduceToNat, ↓reduceIte, Nat.reduceLT, Nat.reduceEqDiff, Nat.reduceAdd, Nat.reduceMul, Nat.reduceSub, Nat.reduceBEq, Nat.reduceLeDiff, reduceCtorEq, Nat.reduceLT, ↓Br_true, ↓Br_false, bind, pure, sc90, sb90]))
  all_goals simp only [decide_eq_true_eq, decide_eq_false_iff_not] at *
  · have h : inn u.w 0 3 = true := inn_true.2 ⟨by omega, by omega⟩
    have h2 : inn u.a 0 (lastI r u.w - 1) = true := inn_true.2 ⟨by omega, by omega⟩
    simp [Win.ok, h, h2]
  · have h2 : inn u.a 0 (lastI r u.w - 1) = false := inn_false.2 (by omega)
    simp [Win.ok, h2]
  · have h2 : inn u.a 0 (lastI r u.w - 1) = false := inn_false.2 (by omega)
    simp [Win.ok, h2]
  · have h2 : inn u.w 0 3 = false := inn_false.2 (by omega)
    simp [Win.ok, h2]
  · have h2 : inn u.w 0 3 = false := inn_false.2 (by omega)
    simp [Win.ok, h2]
theorem l03Window_cv (r : Rom) (u : Win) (n cap : Nat) (f : Nat → List FV) (hr : r.sz) (hu : u.sm) :
    CV Tryz.prog 100 [.ptr 0 0 0, winV u] [romB r n cap false, .rows n cap 3 f false] (fun v h => v = .f (.bool (u.ok r)) ∧ h = [romB r n cap false, .rows n cap 3 f false]) := by
  obtain ⟨⟨_, _⟩, _, _⟩ := hr
  obtain ⟨⟨_, _⟩, _, _⟩ := hu
  refine cv_of_run 1000 sc100 sb100 42 [.tmp 4] tabOk (by kernel_rfl) Tryz.func100 rfl (by kernel_rfl) Tryz.ntmps100 rfl (by simp) rfl (by simp [bdL, SV.bd]) ?_
  simp (config := { maxSteps := 1000000 }) (disch := omega) only [go_sem, Int.reduceToNat, ↓reduceIte, Nat.reduceLT, Nat.reduceEqDiff, Nat.reduceAdd, Nat.reduceMul, Nat.reduceSub, Nat.reduceBEq, Nat.reduceLeDiff, reduceCtorEq, Nat.reduceLT, ↓Br_true, ↓Br_false, bind, pure, sc100, sb100]
  repeat' (first | (with_reducible refine And.intro (by first | (unfold SOk; kernel_rfl) | (unfold SBOk; kernel_rfl) | (with_reducible assumption) | omega | assumption) ?_) | (with_reducible refine Br_intro (fun hc => ?_) (fun hc => ?_)) | ((first | (refine callR (by rfl) (by rfl) (by rfl) (l03Wall_cv _) ?_; rintro _ _ ⟨rfl, rfl⟩) | (refine callM (by rfl) (by rfl) (by rfl) (l03Wall_cv _) ?_; rintro _ _ ⟨rfl, rfl⟩) | (refine callMo (by rfl) (by rfl) (by rfl) (l03Wall_cv _) ?_; rintro _ _ ⟨rfl, rfl⟩) | (refine callE (by rfl) (l03Wall_cv _) (by rfl) ?_)); simp (config := { maxSteps := 1000000 }) (disch := omega) only [go_sem, Int.reduceToNat, ↓reduceIte, Nat.reduceLT, Nat.reduceEqDiff, Nat.reduceAdd, Nat.reduceMul, Nat.reduceSub, Nat.reduceBEq, Nat.reduceLeDiff, reduceCtorEq, Nat.reduceLT, ↓Br_true, ↓Br_false, bind, pure, sc100, sb100]) | ((first | (refine callR (by rfl) (by rfl) (by rfl) (rl00In_cv _ _ _) ?_; rintro _ _ ⟨rfl, rfl⟩) | (refine callM (by rfl) (by rfl) (by rfl) (rl00In_cv _ _ _) ?_; rintro _ _ ⟨rfl, rfl⟩) | (refine callMo (by rfl) (by rfl) (by rfl) (rl00In_cv _ _ _) ?_; rintro _ _ ⟨rfl, rfl⟩) | (refine callE (by rfl) (rl00In_cv _ _ _) (by rfl) ?_)); simp (config := { maxSteps := 1000000 }) (disch := omega) only [go_sem, Int.reduceToNat, ↓reduceIte, Nat.reduceLT, Nat.reduceEqDiff, Nat.reduceAdd, Nat.reduceMul, Nat.reduceSub, Nat.reduceBEq, Nat.reduceLeDiff, reduceCtorEq, Nat.reduceLT, ↓Br_true, ↓Br_false, bind, pure, sc100, sb100]) | ((first | (refine callR (by rfl) (by rfl) (by rfl) (rl01Part_cv _) ?_; rintro _ _ ⟨rfl, rfl⟩) | (refine callM (by rfl) (by rfl) (by rfl) (rl01Part_cv _) ?_; rintro _ _ ⟨rfl, rfl⟩) | (refine callMo (by rfl) (by rfl) (by rfl) (rl01Part_cv _) ?_; rintro _ _ ⟨rfl, rfl⟩) | (refine callE (by rfl) (rl01Part_cv _) (by rfl) ?_)); simp (config := { maxSteps := 1000000 }) (disch := omega) only [go_sem, Int.reduceToNat, ↓reduceIte, Nat.reduceLT, Nat.reduceEqDiff, Nat.reduceAdd, Nat.reduceMul, Nat.reduceSub, Nat.reduceBEq, Nat.reduceLeDiff, reduceCtorEq, Nat.reduceLT, ↓Br_true, ↓Br_false, bind, pure, sc100, sb100]) | ((with_reducible show WidN _ _ _ _ _ _ _ _); (first | refine widL (by decide) (by with_reducible assumption) ?_ | refine widL (by decide) (FWok_nn (by with_reducible assumption)) ?_ | refine widN (by decide) (fun c hc => ?_)); simp (config := { maxSteps := 1000000 }) (disch := omega) only [go_sem, Int.reduceToNat, ↓reduceIte, Nat.reduceLT, Nat.reduceEqDiff, Nat.reduceAdd, Nat.reduceMul, Nat.reduceSub, Nat.reduceBEq, Nat.reduceLeDiff, reduceCtorEq, Nat.reduceLT, ↓Br_true, ↓Br_false, bind, pure, sc100, sb100]))
  all_goals simp only [decide_eq_true_eq, decide_eq_false_iff_not] at *
  all_goals by_cases h3 : inn u.w 0 3 = true
  all_goals first
    | (have b := inn_true.1 h3
       have e : lastI r u.w = r.hi := by unfold lastI; rw [if_neg (by omega), if_neg (by omega)]
       unfold Win.ok
       rw [e]
       simp_all; done)
    | (have b := inn_true.1 h3
       have e : lastI r u.w = r.wi := by
         unfold lastI
         by_cases c : u.w = 0
         · rw [if_pos c]
         · rw [if_neg c, if_pos (by omega)]
       unfold Win.ok
       rw [e]
       simp_all; done)
    | (simp_all [Win.ok]; done)
end Go.Proofs.YtpcnpmhpelbndaaGreatDoor.Vx
