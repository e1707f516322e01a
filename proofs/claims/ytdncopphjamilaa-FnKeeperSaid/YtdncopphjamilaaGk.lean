/- Keepers, in the abstract: the hours in which an awning is out; the law. -/
import Derived.Test.YtdncopphjamilaaVs
import Derived.Test.YtdncopphjamilaaVt
namespace Go.Proofs.Ytdncopphjamilaa.Vx
set_option linter.unusedSimpArgs false
set_option linter.unusedVariables false
open Go Go.RowKit Fl
set_option maxRecDepth 100000
set_option maxHeartbeats 1000000
set_option linter.unusedSimpArgs false
set_option linter.unusedVariables false

abbrev kpV (h c : Nat) (w : Int) : SV := .agg [.f (.flt .f32 h), .f (.flt .f32 c), .f (.int .i8 w)]
def vKpr (h c : Nat) (w : Int) : Bool := isFineF h && isFineF c && fle c h && inn w 1 24
theorem kwithin_cv (n l u : Int) : CV Try.prog 102 [.f (.int .i64 n), .f (.int .i64 l), .f (.int .i64 u)] [] (fun v hh => v = .f (.bool (inn n l u)) ∧ hh = []) :=
  CV.old0 trivial (enters_of Try.func102 (by kernel_rfl) (by kernel_rfl)) fun w β _ => within_c n l u w
theorem kl00In_cv (n l u : Int) : CV Try.prog 106 [.f (.int .i64 n), .f (.int .i64 l), .f (.int .i64 u)] [] (fun v hh => v = .f (.bool (inn n l u)) ∧ hh = []) :=
  CV.old0 trivial (enters_of Try.func106 (by kernel_rfl) (by kernel_rfl)) fun w β _ => l00In_c n l u w
theorem isFine_cv (a : Nat) : CV Try.prog 110 [.f (.flt .f32 a)] [] (fun v hh => v = .f (.bool (isFineF a)) ∧ hh = []) :=
  CV.old0 trivial (enters_of Try.func110 (by kernel_rfl) (by kernel_rfl)) fun w β _ => isFine_c a w
theorem l04Gust_cv (a : Nat) : CV Try.prog 112 [.f (.flt .f32 a)] [] (fun v hh => v = .f (.bool (isFineF a)) ∧ hh = []) :=
  CV.old0 trivial (enters_of Try.func112 (by kernel_rfl) (by kernel_rfl)) fun w β _ => l04Gust_c a w
theorem ValidKeeper_cv (h c : Nat) (w : Int) (hw : -128 ≤ w ∧ w ≤ 127) : CV Try.prog 50 [kpV h c w] [] (fun v hh => v = .f (.bool (vKpr h c w)) ∧ hh = []) := by
  refine cv_of_run 1000 sc50 sb50 24 [.tmp 2] tabOk (by kernel_rfl) Try.func50 rfl (by kernel_rfl) Try.ntmps50 rfl (by simp) rfl (by simp [bdL, SV.bd]) ?_
  simp (config := { maxSteps := 1000000 }) (disch := omega) only [go_sem, Int.reduceToNat, ↓reduceIte, Nat.reduceLT, Nat.reduceEqDiff, Nat.reduceAdd, Nat.reduceMul, Nat.reduceSub, Nat.reduceBEq, Nat.reduceLeDiff, reduceCtorEq, Nat.reduceLT, ↓Br_true, ↓Br_false, bind, pure, sc50, sb50]
  repeat' (first | (with_reducible refine And.intro (by first | (unfold SOk; kernel_rfl) | (unfold SBOk; kernel_rfl) | (with_reducible assumption) | omega | assumption) ?_) | (with_reducible refine Br_intro (fun hc => ?_) (fun hc => ?_)) | ((first | (refine callR (by rfl) (by rfl) (by rfl) (isFine_cv _) ?_; rintro _ _ ⟨rfl, rfl⟩) | (refine callM (by rfl) (by rfl) (by rfl) (isFine_cv _) ?_; rintro _ _ ⟨rfl, rfl⟩) | (refine callE (by rfl) (isFine_cv _) (by rfl) ?_)); simp (config := { maxSteps := 1000000 }) (disch := omega) only [go_sem, Int.reduceToNat, ↓reduceIte, Nat.reduceLT, Nat.reduceEqDiff, Nat.reduceAdd, Nat.reduceMul, Nat.reduceSub, Nat.reduceBEq, Nat.reduceLeDiff, reduceCtorEq, Nat.reduceLT, ↓Br_true, ↓Br_false, bind, pure, sc50, sb50]) | ((first | (refine callR (by rfl) (by rfl) (by rfl) (kwithin_cv _ _ _) ?_; rintro _ _ ⟨rfl, rfl⟩) | (refine callM (by rfl) (by rfl) (by rfl) (kwithin_cv _ _ _) ?_; rintro _ _ ⟨rfl, rfl⟩) | (refine callE (by rfl) (kwithin_cv _ _ _) (by rfl) ?_)); simp (config := { maxSteps := 1000000 }) (disch := omega) only [go_sem, Int.reduceToNat, ↓reduceIte, Nat.reduceLT, Nat.reduceEqDiff, Nat.reduceAdd, Nat.reduceMul, Nat.reduceSub, Nat.reduceBEq, Nat.reduceLeDiff, reduceCtorEq, Nat.reduceLT, ↓Br_true, ↓Br_false, bind, pure, sc50, sb50]) | ((with_reducible show WidN _ _ _ _ _ _ _ _); (first | refine widL (by decide) (by with_reducible assumption) ?_ | refine widL (by decide) (FWok_nn (by with_reducible assumption)) ?_ | refine widN (by decide) (fun c hc => ?_)); simp (config := { maxSteps := 1000000 }) (disch := omega) only [go_sem, Int.reduceToNat, ↓reduceIte, Nat.reduceLT, Nat.reduceEqDiff, Nat.reduceAdd, Nat.reduceMul, Nat.reduceSub, Nat.reduceBEq, Nat.reduceLeDiff, reduceCtorEq, Nat.reduceLT, ↓Br_true, ↓Br_false, bind, pure, sc50, sb50]))
  all_goals simp [vKpr, *]
theorem l04Keeper_cv (h c : Nat) (w : Int) (hw : -128 ≤ w ∧ w ≤ 127) : CV Try.prog 111 [kpV h c w] [] (fun v hh => v = .f (.bool (vKpr h c w)) ∧ hh = []) := by
  refine cv_of_run 1000 sc111 sb111 24 [.tmp 2] tabOk (by kernel_rfl) Try.func111 rfl (by kernel_rfl) Try.ntmps111 rfl (by simp) rfl (by simp [bdL, SV.bd]) ?_
  simp (config := { maxSteps := 1000000 }) (disch := omega) only [go_sem, Int.reduceToNat, ↓reduceIte, Nat.reduceLT, Nat.reduceEqDiff, Nat.reduceAdd, Nat.reduceMul, Nat.reduceSub, Nat.reduceBEq, Nat.reduceLeDiff, reduceCtorEq, Nat.reduceLT, ↓Br_true, ↓Br_false, bind, pure, sc111, sb111]
  repeat' (first | (with_reducible refine And.intro (by first | (unfold SOk; kernel_rfl) | (unfold SBOk; kernel_rfl) | (with_reducible assumption) | omega | assumption) ?_) | (with_reducible refine Br_intro (fun hc => ?_) (fun hc => ?_)) | ((first | (refine callR (by rfl) (by rfl) (by rfl) (l04Gust_cv _) ?_; rintro _ _ ⟨rfl, rfl⟩) | (refine callM (by rfl) (by rfl) (by rfl) (l04Gust_cv _) ?_; rintro _ _ ⟨rfl, rfl⟩) | (refine callE (by rfl) (l04Gust_cv _) (by rfl) ?_)); simp (config := { maxSteps := 1000000 }) (disch := omega) only [go_sem, Int.reduceToNat, ↓reduceIte, Nat.reduceLT, Nat.reduceEqDiff, Nat.reduceAdd, Nat.reduceMul, Nat.reduceSub, Nat.reduceBEq, Nat.reduceLeDiff, reduceCtorEq, Nat.reduceLT, ↓Br_true, ↓Br_false, bind, pure, sc111, sb111]) | ((first | (refine callR (by rfl) (by rfl) (by rfl) (kl00In_cv _ _ _) ?_; rintro _ _ ⟨rfl, rfl⟩) | (refine callM (by rfl) (by rfl) (by rfl) (kl00In_cv _ _ _) ?_; rintro _ _ ⟨rfl, rfl⟩) | (refine callE (by rfl) (kl00In_cv _ _ _) (by rfl) ?_)); simp (config := { maxSteps := 1000000 }) (disch := omega) only [go_sem, Int.reduceToNat, ↓reduceIte, Nat.reduceLT, Nat.reduceEqDiff, Nat.reduceAdd, Nat.reduceMul, Nat.reduceSub, Nat.reduceBEq, Nat.reduceLeDiff, reduceCtorEq, Nat.reduceLT, ↓Br_true, ↓Br_false, bind, pure, sc111, sb111]) | ((with_reducible show WidN _ _ _ _ _ _ _ _); (first | refine widL (by decide) (by with_reducible assumption) ?_ | refine widL (by decide) (FWok_nn (by with_reducible assumption)) ?_ | refine widN (by decide) (fun c hc => ?_)); simp (config := { maxSteps := 1000000 }) (disch := omega) only [go_sem, Int.reduceToNat, ↓reduceIte, Nat.reduceLT, Nat.reduceEqDiff, Nat.reduceAdd, Nat.reduceMul, Nat.reduceSub, Nat.reduceBEq, Nat.reduceLeDiff, reduceCtorEq, Nat.reduceLT, ↓Br_true, ↓Br_false, bind, pure, sc111, sb111]))
  all_goals simp [vKpr, *]
/-- Is it out, how long has it been calm, the hours so far. -/
def oh (hold calm : Nat) (wait : Int) (x : Nat → Nat) : Nat → Bool × Int × Int
  | 0 => (true, 0, 0)
  | k + 1 =>
    (if (oh hold calm wait x k).1 then !flt hold (x k) else (flt (x k) calm && decide ((oh hold calm wait x k).2.1 + 1 = wait)),
     if (oh hold calm wait x k).1 then 0 else if flt (x k) calm then (oh hold calm wait x k).2.1 + 1 else 0,
     if (if (oh hold calm wait x k).1 then !flt hold (x k) else (flt (x k) calm && decide ((oh hold calm wait x k).2.1 + 1 = wait))) then bitI .or .u32 (oh hold calm wait x k).2.2 (shlI .u32 1 k) else (oh hold calm wait x k).2.2)
theorem oh_inv {hold calm : Nat} {wait : Int} (x : Nat → Nat) (hw : 1 ≤ wait) : ∀ k, (oh hold calm wait x k).1 = false → 0 ≤ (oh hold calm wait x k).2.1 ∧ (oh hold calm wait x k).2.1 + 1 ≤ wait
  | 0, h => by simp [oh] at h
  | k + 1, h => by
    have ih := oh_inv (hold := hold) (calm := calm) x hw k
    simp only [oh] at h ⊢
    by_cases c : (oh hold calm wait x k).1 = true
    · simp only [c, if_true] at h ⊢; omega
    · have c' : (oh hold calm wait x k).1 = false := by simpa using c
      have := ih c'
      simp only [c', Bool.false_eq_true, if_false] at h ⊢
      split
      · rename_i d
        rw [d] at h
        simp only [Bool.true_and, decide_eq_false_iff_not] at h
        omega
      · omega
def fineA (x : Nat → Nat) (n : Nat) : Bool := (List.range n).all fun i => isFineF (x i)
theorem fineA_succ (x : Nat → Nat) (n : Nat) : fineA x (n + 1) = (fineA x n && isFineF (x n)) := by simp [fineA, List.range_succ, List.all_append]
theorem fineA_no {x : Nat → Nat} {n k : Nat} (hk : k < n) (h : isFineF (x k) = false) : fineA x n = false := List.all_eq_false.2 ⟨k, by simpa using hk, by simp [h]⟩
def ohC (hold calm : Nat) (wait : Int) (x : Nat → Nat) : Int := if vKpr hold calm wait then (if fineA x 24 then 0 else 2) else 1
def ohV (hold calm : Nat) (wait : Int) (x : Nat → Nat) : SV := .tup [.f (.int .u32 (if ohC hold calm wait x = 0 then (oh hold calm wait x 24).2.2 else 0)), .f (.int .i64 (ohC hold calm wait x))]
theorem kpr_wait {h c : Nat} {w : Int} (k : vKpr h c w = true) : 1 ≤ w ∧ w ≤ 24 := by
  simp only [vKpr, Bool.and_eq_true, inn_true] at k; exact k.2
theorem OutHours_cv (hold calm : Nat) (wait : Int) (g : Nat → FV) (x : Nat → Nat) (hg : ∀ j, j < 24 → g j = .flt .f32 (x j)) (hw : -128 ≤ wait ∧ wait ≤ 127) :
    CV Try.prog 48 [kpV hold calm wait, .arr 24 g] [] (fun v h => v = ohV hold calm wait x ∧ h = []) := by
  refine cv_of_run 1000 sc48 sb48 56 [.tmp 4, .tmp 5] tabOk (by kernel_rfl) Try.func48 rfl (by kernel_rfl) Try.ntmps48 rfl (by simp) rfl (by simp [bdL, SV.bd]) ?_
  simp (config := { maxSteps := 1000000 }) (disch := omega) only [go_sem, Int.reduceToNat, ↓reduceIte, Nat.reduceLT, Nat.reduceEqDiff, Nat.reduceAdd, Nat.reduceMul, Nat.reduceSub, Nat.reduceBEq, Nat.reduceLeDiff, reduceCtorEq, Nat.reduceLT, ↓Br_true, ↓Br_false, bind, pure, sc48, sb48]
  repeat' (first | (with_reducible refine And.intro (by first | (unfold SOk; kernel_rfl) | (unfold SBOk; kernel_rfl) | (with_reducible assumption) | omega | assumption) ?_) | (with_reducible refine Br_intro (fun hc => ?_) (fun hc => ?_)) | ((first | (refine callR (by rfl) (by rfl) (by rfl) (ValidKeeper_cv _ _ _ hw) ?_; rintro _ _ ⟨rfl, rfl⟩) | (refine callM (by rfl) (by rfl) (by rfl) (ValidKeeper_cv _ _ _ hw) ?_; rintro _ _ ⟨rfl, rfl⟩) | (refine callE (by rfl) (ValidKeeper_cv _ _ _ hw) (by rfl) ?_)); simp (config := { maxSteps := 1000000 }) (disch := omega) only [go_sem, Int.reduceToNat, ↓reduceIte, Nat.reduceLT, Nat.reduceEqDiff, Nat.reduceAdd, Nat.reduceMul, Nat.reduceSub, Nat.reduceBEq, Nat.reduceLeDiff, reduceCtorEq, Nat.reduceLT, ↓Br_true, ↓Br_false, bind, pure, sc48, sb48]) | ((with_reducible show WidN _ _ _ _ _ _ _ _); (first | refine widL (by decide) (by with_reducible assumption) ?_ | refine widL (by decide) (FWok_nn (by with_reducible assumption)) ?_ | refine widN (by decide) (fun c hc => ?_)); simp (config := { maxSteps := 1000000 }) (disch := omega) only [go_sem, Int.reduceToNat, ↓reduceIte, Nat.reduceLT, Nat.reduceEqDiff, Nat.reduceAdd, Nat.reduceMul, Nat.reduceSub, Nat.reduceBEq, Nat.reduceLeDiff, reduceCtorEq, Nat.reduceLT, ↓Br_true, ↓Br_false, bind, pure, sc48, sb48]))
  · simp only [Bool.not_eq_true'] at hc
    simp [ohV, ohC, hc]
  · simp only [Bool.not_eq_false'] at hc
    have hv := hc
    clear hc
    have hwt := kpr_wait hv
    have inv := oh_inv (hold := hold) (calm := calm) x hwt.1
    refine ⟨(Nat × Int), fun s => s.1 ≤ 24 ∧ fineA x s.1 = true ∧ ((oh hold calm wait x s.1).1 = false → s.2 = (oh hold calm wait x s.1).2.1), fun s => 24 - s.1, fun s => [(2, .ptr 0 0 0), (6, .f (.int .u32 (oh hold calm wait x s.1).2.2)), (7, .f (.bool (oh hold calm wait x s.1).1)), (8, .f (.int .i8 s.2)), (14, .arr 24 g), (15, .f (.int .i64 s.1))], fun s => [.lit [.f (.flt .f32 hold), .f (.flt .f32 calm), .f (.int .i8 wait)] true], (0, 0), (by intro _; simp), ?_, (by (try refine Or.inl ?_); simp [Cov, covE, covH, cb_dead, cb_lit, cb_rows, cb_cells, cd_lit, cd_rows, cd_cells, cd_dead, covRow, look, SV.known, SV.bd, bdL, oh] <;> omega), ?_⟩
    · exact ⟨by omega, rfl, fun h => by simp [oh] at h⟩
    · rintro ⟨k, cnt⟩ ⟨hk, hfn, hcnt⟩
      simp only at hk hfn hcnt
      have i1 := inv k
      by_cases hlt : k < 24
      · have hd : decide ((k : Int) < 24) = true := decide_eq_true (by omega)
        have e1 := hg k hlt
        cases ho : (oh hold calm wait x k).1
        · obtain ⟨j1, j2⟩ := i1 ho
          have hcn := hcnt ho
          subst hcn
          simp (config := { maxSteps := 1000000 }) (disch := omega) only [go_sem, Int.reduceToNat, ↓reduceIte, Nat.reduceLT, Nat.reduceEqDiff, Nat.reduceAdd, Nat.reduceMul, Nat.reduceSub, Nat.reduceBEq, Nat.reduceLeDiff, reduceCtorEq, Nat.reduceLT, ↓Br_true, ↓Br_false, bind, pure, sc48, sb48, hd, e1, ho]
          repeat' (first | (with_reducible refine And.intro (by first | (unfold SOk; kernel_rfl) | (unfold SBOk; kernel_rfl) | (with_reducible assumption) | omega | assumption) ?_) | (with_reducible refine Br_intro (fun hc => ?_) (fun hc => ?_)) | ((first | (refine callR (by rfl) (by rfl) (by rfl) (isFine_cv _) ?_; rintro _ _ ⟨rfl, rfl⟩) | (refine callM (by rfl) (by rfl) (by rfl) (isFine_cv _) ?_; rintro _ _ ⟨rfl, rfl⟩) | (refine callE (by rfl) (isFine_cv _) (by rfl) ?_)); simp (config := { maxSteps := 1000000 }) (disch := omega) only [go_sem, Int.reduceToNat, ↓reduceIte, Nat.reduceLT, Nat.reduceEqDiff, Nat.reduceAdd, Nat.reduceMul, Nat.reduceSub, Nat.reduceBEq, Nat.reduceLeDiff, reduceCtorEq, Nat.reduceLT, ↓Br_true, ↓Br_false, bind, pure, sc48, sb48, hd, e1, ho]) | ((with_reducible show WidN _ _ _ _ _ _ _ _); (first | refine widL (by decide) (by with_reducible assumption) ?_ | refine widL (by decide) (FWok_nn (by with_reducible assumption)) ?_ | refine widN (by decide) (fun c hc => ?_)); simp (config := { maxSteps := 1000000 }) (disch := omega) only [go_sem, Int.reduceToNat, ↓reduceIte, Nat.reduceLT, Nat.reduceEqDiff, Nat.reduceAdd, Nat.reduceMul, Nat.reduceSub, Nat.reduceBEq, Nat.reduceLeDiff, reduceCtorEq, Nat.reduceLT, ↓Br_true, ↓Br_false, bind, pure, sc48, sb48, hd, e1, ho]))
          all_goals simp only [Bool.not_eq_true', Bool.not_eq_false', decide_eq_true_eq, decide_eq_false_iff_not] at *
          · simp [ohV, ohC, hv, fineA_no hlt hc]
          · refine ⟨(k + 1, (oh hold calm wait x k).2.1 + 1), ⟨by omega, ?_, ?_⟩, by omega, ?_⟩
            · simp [fineA_succ, *]
            · simp [oh, *]
            · (try refine Or.inl ?_); simp [Cov, covE, covH, cb_dead, cb_lit, cb_rows, cb_cells, cd_lit, cd_rows, cd_cells, cd_dead, covRow, look, SV.known, SV.bd, bdL, oh, *] <;> omega
          · refine ⟨(k + 1, (oh hold calm wait x k).2.1 + 1), ⟨by omega, ?_, ?_⟩, by omega, ?_⟩
            · simp [fineA_succ, *]
            · simp [oh, *]
            · (try refine Or.inl ?_); simp [Cov, covE, covH, cb_dead, cb_lit, cb_rows, cb_cells, cd_lit, cd_rows, cd_cells, cd_dead, covRow, look, SV.known, SV.bd, bdL, oh, *] <;> omega
          · refine ⟨(k + 1, 0), ⟨by omega, ?_, ?_⟩, by omega, ?_⟩
            · simp [fineA_succ, *]
            · simp [oh, *]
            · (try refine Or.inl ?_); simp [Cov, covE, covH, cb_dead, cb_lit, cb_rows, cb_cells, cd_lit, cd_rows, cd_cells, cd_dead, covRow, look, SV.known, SV.bd, bdL, oh, *] <;> omega
        · simp (config := { maxSteps := 1000000 }) (disch := omega) only [go_sem, Int.reduceToNat, ↓reduceIte, Nat.reduceLT, Nat.reduceEqDiff, Nat.reduceAdd, Nat.reduceMul, Nat.reduceSub, Nat.reduceBEq, Nat.reduceLeDiff, reduceCtorEq, Nat.reduceLT, ↓Br_true, ↓Br_false, bind, pure, sc48, sb48, hd, e1, ho]
          repeat' (first | (with_reducible refine And.intro (by first | (unfold SOk; kernel_rfl) | (unfold SBOk; kernel_rfl) | (with_reducible assumption) | omega | assumption) ?_) | (with_reducible refine Br_intro (fun hc => ?_) (fun hc => ?_)) | ((first | (refine callR (by rfl) (by rfl) (by rfl) (isFine_cv _) ?_; rintro _ _ ⟨rfl, rfl⟩) | (refine callM (by rfl) (by rfl) (by rfl) (isFine_cv _) ?_; rintro _ _ ⟨rfl, rfl⟩) | (refine callE (by rfl) (isFine_cv _) (by rfl) ?_)); simp (config := { maxSteps := 1000000 }) (disch := omega) only [go_sem, Int.reduceToNat, ↓reduceIte, Nat.reduceLT, Nat.reduceEqDiff, Nat.reduceAdd, Nat.reduceMul, Nat.reduceSub, Nat.reduceBEq, Nat.reduceLeDiff, reduceCtorEq, Nat.reduceLT, ↓Br_true, ↓Br_false, bind, pure, sc48, sb48, hd, e1, ho]) | ((with_reducible show WidN _ _ _ _ _ _ _ _); (first | refine widL (by decide) (by with_reducible assumption) ?_ | refine widL (by decide) (FWok_nn (by with_reducible assumption)) ?_ | refine widN (by decide) (fun c hc => ?_)); simp (config := { maxSteps := 1000000 }) (disch := omega) only [go_sem, Int.reduceToNat, ↓reduceIte, Nat.reduceLT, Nat.reduceEqDiff, Nat.reduceAdd, Nat.reduceMul, Nat.reduceSub, Nat.reduceBEq, Nat.reduceLeDiff, reduceCtorEq, Nat.reduceLT, ↓Br_true, ↓Br_false, bind, pure, sc48, sb48, hd, e1, ho]))
          all_goals simp only [Bool.not_eq_true', Bool.not_eq_false', decide_eq_true_eq, decide_eq_false_iff_not] at *
          · simp [ohV, ohC, hv, fineA_no hlt hc]
          · refine ⟨(k + 1, 0), ⟨by omega, ?_, ?_⟩, by omega, ?_⟩
            · simp [fineA_succ, *]
            · simp [oh, *]
            · (try refine Or.inl ?_); simp [Cov, covE, covH, cb_dead, cb_lit, cb_rows, cb_cells, cd_lit, cd_rows, cd_cells, cd_dead, covRow, look, SV.known, SV.bd, bdL, oh, *] <;> omega
          · refine ⟨(k + 1, cnt), ⟨by omega, ?_, ?_⟩, by omega, ?_⟩
            · simp [fineA_succ, *]
            · simp [oh, *]
            · (try refine Or.inl ?_); simp [Cov, covE, covH, cb_dead, cb_lit, cb_rows, cb_cells, cd_lit, cd_rows, cd_cells, cd_dead, covRow, look, SV.known, SV.bd, bdL, oh, *] <;> omega
      · have hd : decide ((k : Int) < 24) = false := decide_eq_false (by omega)
        simp (config := { maxSteps := 1000000 }) (disch := omega) only [go_sem, Int.reduceToNat, ↓reduceIte, Nat.reduceLT, Nat.reduceEqDiff, Nat.reduceAdd, Nat.reduceMul, Nat.reduceSub, Nat.reduceBEq, Nat.reduceLeDiff, reduceCtorEq, Nat.reduceLT, ↓Br_true, ↓Br_false, bind, pure, sc48, sb48, hd]
        obtain rfl : k = 24 := by omega
        simp [ohV, ohC, hv, hfn]
theorem sOutHours_cv (hold calm : Nat) (wait : Int) (g : Nat → FV) (x : Nat → Nat) (hg : ∀ j, j < 24 → g j = .flt .f32 (x j)) (hw : -128 ≤ wait ∧ wait ≤ 127) :
    CV Try.prog 49 [kpV hold calm wait, .arr 24 g] [] (fun v h => v = ohV hold calm wait x ∧ h = []) := by
  refine cv_of_run 1000 sc49 sb49 57 [.tmp 4, .tmp 5] tabOk (by kernel_rfl) Try.func49 rfl (by kernel_rfl) Try.ntmps49 rfl (by simp) rfl (by simp [bdL, SV.bd]) ?_
  simp (config := { maxSteps := 1000000 }) (disch := omega) only [go_sem, Int.reduceToNat, ↓reduceIte, Nat.reduceLT, Nat.reduceEqDiff, Nat.reduceAdd, Nat.reduceMul, Nat.reduceSub, Nat.reduceBEq, Nat.reduceLeDiff, reduceCtorEq, Nat.reduceLT, ↓Br_true, ↓Br_false, bind, pure, sc49, sb49]
  repeat' (first | (with_reducible refine And.intro (by first | (unfold SOk; kernel_rfl) | (unfold SBOk; kernel_rfl) | (with_reducible assumption) | omega | assumption) ?_) | (with_reducible refine Br_intro (fun hc => ?_) (fun hc => ?_)) | ((first | (refine callR (by rfl) (by rfl) (by rfl) (l04Keeper_cv _ _ _ hw) ?_; rintro _ _ ⟨rfl, rfl⟩) | (refine callM (by rfl) (by rfl) (by rfl) (l04Keeper_cv _ _ _ hw) ?_; rintro _ _ ⟨rfl, rfl⟩) | (refine callE (by rfl) (l04Keeper_cv _ _ _ hw) (by rfl) ?_)); simp (config := { maxSteps := 1000000 }) (disch := omega) only [go_sem, Int.reduceToNat, ↓reduceIte, Nat.reduceLT, Nat.reduceEqDiff, Nat.reduceAdd, Nat.reduceMul, Nat.reduceSub, Nat.reduceBEq, Nat.reduceLeDiff, reduceCtorEq, Nat.reduceLT, ↓Br_true, ↓Br_false, bind, pure, sc49, sb49]) | ((with_reducible show WidN _ _ _ _ _ _ _ _); (first | refine widL (by decide) (by with_reducible assumption) ?_ | refine widL (by decide) (FWok_nn (by with_reducible assumption)) ?_ | refine widN (by decide) (fun c hc => ?_)); simp (config := { maxSteps := 1000000 }) (disch := omega) only [go_sem, Int.reduceToNat, ↓reduceIte, Nat.reduceLT, Nat.reduceEqDiff, Nat.reduceAdd, Nat.reduceMul, Nat.reduceSub, Nat.reduceBEq, Nat.reduceLeDiff, reduceCtorEq, Nat.reduceLT, ↓Br_true, ↓Br_false, bind, pure, sc49, sb49]))
  · simp only [Bool.not_eq_true'] at hc
    simp [ohV, ohC, hc]
  · simp only [Bool.not_eq_false'] at hc
    have hv := hc
    clear hc
    have hwt := kpr_wait hv
    have inv := oh_inv (hold := hold) (calm := calm) x hwt.1
    refine ⟨Nat, fun k => k ≤ 24 ∧ fineA x k = true, fun k => 24 - k, fun k => [(2, .ptr 0 0 0), (3, .ptr 1 0 0), (6, .f (.int .i64 k))], fun _ => [.lit [.f (.flt .f32 hold), .f (.flt .f32 calm), .f (.int .i8 wait)] true, .cells 24 g true], 0, (by intro _; simp), ?_, (by (try refine Or.inl ?_); simp [Cov, covE, covH, cb_dead, cb_lit, cb_rows, cb_cells, cd_lit, cd_rows, cd_cells, cd_dead, covRow, look, SV.known, SV.bd, bdL] <;> omega), ?_⟩
    · exact ⟨by omega, rfl⟩
    · rintro k ⟨hk, hfn⟩
      by_cases hlt : k < 24
      · have hd : decide ((k : Int) < 24) = true := decide_eq_true (by omega)
        have e1 := hg k hlt
        simp (config := { maxSteps := 1000000 }) (disch := omega) only [go_sem, Int.reduceToNat, ↓reduceIte, Nat.reduceLT, Nat.reduceEqDiff, Nat.reduceAdd, Nat.reduceMul, Nat.reduceSub, Nat.reduceBEq, Nat.reduceLeDiff, reduceCtorEq, Nat.reduceLT, ↓Br_true, ↓Br_false, bind, pure, sc49, sb49, hd, e1]
        repeat' (first | (with_reducible refine And.intro (by first | (unfold SOk; kernel_rfl) | (unfold SBOk; kernel_rfl) | (with_reducible assumption) | omega | assumption) ?_) | (with_reducible refine Br_intro (fun hc => ?_) (fun hc => ?_)) | ((first | (refine callR (by rfl) (by rfl) (by rfl) (l04Gust_cv _) ?_; rintro _ _ ⟨rfl, rfl⟩) | (refine callM (by rfl) (by rfl) (by rfl) (l04Gust_cv _) ?_; rintro _ _ ⟨rfl, rfl⟩) | (refine callE (by rfl) (l04Gust_cv _) (by rfl) ?_)); simp (config := { maxSteps := 1000000 }) (disch := omega) only [go_sem, Int.reduceToNat, ↓reduceIte, Nat.reduceLT, Nat.reduceEqDiff, Nat.reduceAdd, Nat.reduceMul, Nat.reduceSub, Nat.reduceBEq, Nat.reduceLeDiff, reduceCtorEq, Nat.reduceLT, ↓Br_true, ↓Br_false, bind, pure, sc49, sb49, hd, e1]) | ((with_reducible show WidN _ _ _ _ _ _ _ _); (first | refine widL (by decide) (by with_reducible assumption) ?_ | refine widL (by decide) (FWok_nn (by with_reducible assumption)) ?_ | refine widN (by decide) (fun c hc => ?_)); simp (config := { maxSteps := 1000000 }) (disch := omega) only [go_sem, Int.reduceToNat, ↓reduceIte, Nat.reduceLT, Nat.reduceEqDiff, Nat.reduceAdd, Nat.reduceMul, Nat.reduceSub, Nat.reduceBEq, Nat.reduceLeDiff, reduceCtorEq, Nat.reduceLT, ↓Br_true, ↓Br_false, bind, pure, sc49, sb49, hd, e1]))
        · simp only [Bool.not_eq_true'] at hc
          simp [ohV, ohC, hv, fineA_no hlt hc]
        · simp only [Bool.not_eq_false'] at hc
          exact ⟨k + 1, ⟨by omega, by rw [fineA_succ, hfn, hc]; rfl⟩, by omega, by (try refine Or.inl ?_); simp [Cov, covE, covH, cb_dead, cb_lit, cb_rows, cb_cells, cd_lit, cd_rows, cd_cells, cd_dead, covRow, look, SV.known, SV.bd, bdL] <;> omega⟩
      · have hd : decide ((k : Int) < 24) = false := decide_eq_false (by omega)
        simp (config := { maxSteps := 1000000 }) (disch := omega) only [go_sem, Int.reduceToNat, ↓reduceIte, Nat.reduceLT, Nat.reduceEqDiff, Nat.reduceAdd, Nat.reduceMul, Nat.reduceSub, Nat.reduceBEq, Nat.reduceLeDiff, reduceCtorEq, Nat.reduceLT, ↓Br_true, ↓Br_false, bind, pure, sc49, sb49, hd]
        obtain rfl : k = 24 := by omega
        refine ⟨(Nat × Int), fun s => s.1 ≤ 24 ∧ ((oh hold calm wait x s.1).1 = false → s.2 = (oh hold calm wait x s.1).2.1), fun s => 24 - s.1, fun s => [(2, .ptr 0 0 0), (3, .ptr 1 0 0), (7, .f (.int .u32 (oh hold calm wait x s.1).2.2)), (8, .f (.bool (!(oh hold calm wait x s.1).1))), (9, .f (.int .i8 s.2)), (10, .f (.int .i64 s.1))], fun s => [.lit [.f (.flt .f32 hold), .f (.flt .f32 calm), .f (.int .i8 wait)] true, .cells 24 g true], (0, 0), (by intro _; simp), ?_, (by (try refine Or.inl ?_); simp [Cov, covE, covH, cb_dead, cb_lit, cb_rows, cb_cells, cd_lit, cd_rows, cd_cells, cd_dead, covRow, look, SV.known, SV.bd, bdL, oh] <;> omega), ?_⟩
        · exact ⟨by omega, fun h => by simp [oh] at h⟩
        · rintro ⟨k, cnt⟩ ⟨hk', hcnt⟩
          simp only at hk' hcnt
          have i1 := inv k
          by_cases hlt : k < 24
          · have hd : decide ((k : Int) < 24) = true := decide_eq_true (by omega)
            have e1 := hg k hlt
            cases ho : (oh hold calm wait x k).1
            · obtain ⟨j1, j2⟩ := i1 ho
              have hcn := hcnt ho
              subst hcn
              simp (config := { maxSteps := 1000000 }) (disch := omega) only [go_sem, Int.reduceToNat, ↓reduceIte, Nat.reduceLT, Nat.reduceEqDiff, Nat.reduceAdd, Nat.reduceMul, Nat.reduceSub, Nat.reduceBEq, Nat.reduceLeDiff, reduceCtorEq, Nat.reduceLT, ↓Br_true, ↓Br_false, bind, pure, sc49, sb49, hd, e1, ho]
              repeat' (first | (with_reducible refine And.intro (by first | (unfold SOk; kernel_rfl) | (unfold SBOk; kernel_rfl) | (with_reducible assumption) | omega | assumption) ?_) | (with_reducible refine Br_intro (fun hc => ?_) (fun hc => ?_)) | ((with_reducible show WidN _ _ _ _ _ _ _ _); (first | refine widL (by decide) (by with_reducible assumption) ?_ | refine widL (by decide) (FWok_nn (by with_reducible assumption)) ?_ | refine widN (by decide) (fun c hc => ?_)); simp (config := { maxSteps := 1000000 }) (disch := omega) only [go_sem, Int.reduceToNat, ↓reduceIte, Nat.reduceLT, Nat.reduceEqDiff, Nat.reduceAdd, Nat.reduceMul, Nat.reduceSub, Nat.reduceBEq, Nat.reduceLeDiff, reduceCtorEq, Nat.reduceLT, ↓Br_true, ↓Br_false, bind, pure, sc49, sb49, hd, e1, ho]))
              · have e9 : decide ((oh hold calm wait x k).2.1 + 1 = wait) = true := by
                  simp only [Bool.not_eq_true', decide_eq_false_iff_not] at hc
                  exact decide_eq_true (by omega)
                rename_i hf9
                refine ⟨(k + 1, (oh hold calm wait x k).2.1 + 1), ⟨by omega, ?_⟩, by omega, ?_⟩
                · simp [oh, ho, hf9, e9]
                · have e8 : decide ((oh hold calm wait x k).2.1 + 1 < wait) = false := by simpa using hc
                  (try refine Or.inl ?_); simp [Cov, covE, covH, cb_dead, cb_lit, cb_rows, cb_cells, cd_lit, cd_rows, cd_cells, cd_dead, covRow, look, SV.known, SV.bd, bdL, oh, ho, hf9, e9, e8] <;> omega
              · have e9 : decide ((oh hold calm wait x k).2.1 + 1 = wait) = false := by
                  simp only [Bool.not_eq_false', decide_eq_true_eq] at hc
                  exact decide_eq_false (by omega)
                rename_i hf9
                refine ⟨(k + 1, (oh hold calm wait x k).2.1 + 1), ⟨by omega, ?_⟩, by omega, ?_⟩
                · simp [oh, ho, hf9, e9]
                · have e8 : decide ((oh hold calm wait x k).2.1 + 1 < wait) = true := by simpa using hc
                  (try refine Or.inl ?_); simp [Cov, covE, covH, cb_dead, cb_lit, cb_rows, cb_cells, cd_lit, cd_rows, cd_cells, cd_dead, covRow, look, SV.known, SV.bd, bdL, oh, ho, hf9, e9, e8] <;> omega
              · refine ⟨(k + 1, 0), ⟨by omega, ?_⟩, by omega, ?_⟩
                · simp [oh, ho, hc]
                · (try refine Or.inl ?_); simp [Cov, covE, covH, cb_dead, cb_lit, cb_rows, cb_cells, cd_lit, cd_rows, cd_cells, cd_dead, covRow, look, SV.known, SV.bd, bdL, oh, ho, hc] <;> omega
            · simp (config := { maxSteps := 1000000 }) (disch := omega) only [go_sem, Int.reduceToNat, ↓reduceIte, Nat.reduceLT, Nat.reduceEqDiff, Nat.reduceAdd, Nat.reduceMul, Nat.reduceSub, Nat.reduceBEq, Nat.reduceLeDiff, reduceCtorEq, Nat.reduceLT, ↓Br_true, ↓Br_false, bind, pure, sc49, sb49, hd, e1, ho]
              repeat' (first | (with_reducible refine And.intro (by first | (unfold SOk; kernel_rfl) | (unfold SBOk; kernel_rfl) | (with_reducible assumption) | omega | assumption) ?_) | (with_reducible refine Br_intro (fun hc => ?_) (fun hc => ?_)) | ((with_reducible show WidN _ _ _ _ _ _ _ _); (first | refine widL (by decide) (by with_reducible assumption) ?_ | refine widL (by decide) (FWok_nn (by with_reducible assumption)) ?_ | refine widN (by decide) (fun c hc => ?_)); simp (config := { maxSteps := 1000000 }) (disch := omega) only [go_sem, Int.reduceToNat, ↓reduceIte, Nat.reduceLT, Nat.reduceEqDiff, Nat.reduceAdd, Nat.reduceMul, Nat.reduceSub, Nat.reduceBEq, Nat.reduceLeDiff, reduceCtorEq, Nat.reduceLT, ↓Br_true, ↓Br_false, bind, pure, sc49, sb49, hd, e1, ho]))
              all_goals simp only [Bool.not_eq_true', Bool.not_eq_false'] at hc
              all_goals refine ⟨(k + 1, 0), ⟨by omega, ?_⟩, by omega, ?_⟩
              all_goals first
                | (simp [oh, ho, hc]; done)
                | ((try refine Or.inl ?_); simp [Cov, covE, covH, cb_dead, cb_lit, cb_rows, cb_cells, cd_lit, cd_rows, cd_cells, cd_dead, covRow, look, SV.known, SV.bd, bdL, oh, ho, hc] <;> omega; done)
          · have hd : decide ((k : Int) < 24) = false := decide_eq_false (by omega)
            simp (config := { maxSteps := 1000000 }) (disch := omega) only [go_sem, Int.reduceToNat, ↓reduceIte, Nat.reduceLT, Nat.reduceEqDiff, Nat.reduceAdd, Nat.reduceMul, Nat.reduceSub, Nat.reduceBEq, Nat.reduceLeDiff, reduceCtorEq, Nat.reduceLT, ↓Br_true, ↓Br_false, bind, pure, sc49, sb49, hd]
            obtain rfl : k = 24 := by omega
            simp [ohV, ohC, hv, hfn]
end Go.Proofs.Ytdncopphjamilaa.Vx
