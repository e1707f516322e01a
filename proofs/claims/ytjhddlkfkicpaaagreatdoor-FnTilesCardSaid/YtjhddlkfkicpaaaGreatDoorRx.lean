/- Rooms, in the abstract: valid rooms, codes, the light of a tile. -/
import Derived.Test.YtjhddlkfkicpaaaGreatDoorRv
namespace Go.Proofs.YtjhddlkfkicpaaaGreatDoor.Vx
open Go Go.RowKit Fl
set_option maxRecDepth 100000
set_option maxHeartbeats 2000000
set_option linter.unusedSimpArgs false
set_option linter.unusedVariables false

structure RomH (r : Rom) (us : Nat → Win) (n cap : Nat) (f : Nat → List FV) : Prop where
  hf : ∀ i, i < n → f i = (us i).fv
  hcap : n ≤ cap
  hn : n ≤ 1048576
  hw : -128 ≤ r.wi ∧ r.wi ≤ 127
  hh : -128 ≤ r.hi ∧ r.hi ≤ 127
  hs : ∀ i, i < n → (us i).sm
abbrev romV (r : Rom) (n cap : Nat) : SV := .agg [.f (.int .i8 r.wi), .f (.int .i8 r.hi), .slc 0 0 n cap]
def vRoom (r : Rom) (us : Nat → Win) (n : Nat) : Bool := inn r.wi 1 10 && inn r.hi 1 10 && decide (n ≤ 12) && allW r us n
theorem vRoom_at {r : Rom} {us : Nat → Win} {n : Nat} (h : vRoom r us n = true) : r.sz ∧ n ≤ 12 ∧ allW r us n = true := by
  simp only [vRoom, Bool.and_eq_true, inn_true, decide_eq_true_eq] at h
  exact ⟨⟨h.1.1.1, h.1.1.2⟩, h.1.2, h.2⟩
theorem allW_succ (r : Rom) (us : Nat → Win) (n : Nat) : allW r us (n + 1) = (allW r us n && (us n).ok r) := by simp [allW, List.range_succ, List.all_append]
theorem allW_no {r : Rom} {us : Nat → Win} {n k : Nat} (hk : k < n) (h : (us k).ok r = false) : allW r us n = false := List.all_eq_false.2 ⟨k, by simpa using hk, by simp [h]⟩
theorem ValidRoom_cv (r : Rom) (us : Nat → Win) (n cap : Nat) (f : Nat → List FV) (H : RomH r us n cap f) :
    CV Tryz.prog 19 [romV r n cap] [.rows n cap 3 f false] (fun v h => v = .f (.bool (vRoom r us n)) ∧ h = [.rows n cap 3 f false]) := by
  obtain ⟨hf, hcap, hn, ⟨_, _⟩, ⟨_, _⟩, hs⟩ := H
  refine cv_of_run 1000 sc19 sb19 34 [.tmp 2] tabOk (by kernel_rfl) Tryz.func19 rfl (by kernel_rfl) Tryz.ntmps19 rfl (by simp) rfl (by simp [bdL, SV.bd]) ?_
  simp (config := { maxSteps := 1000000 }) (disch := omega) only [go_sem, Int.reduceToNat, ↓reduceIte, Nat.reduceLT, Nat.reduceEqDiff, Nat.reduceAdd, Nat.reduceMul, Nat.reduceSub, Nat.reduceBEq, Nat.reduceLeDiff, reduceCtorEq, Nat.reduceLT, ↓Br_true, ↓Br_false, bind, pure, sc19, sb19]
  repeat' (first | (with_reducible refine And.intro (by first | (unfold SOk; kernel_rfl) | (unfold SBOk; kernel_rfl) | (with_reducible assumption) | omega | assumption) ?_) | (with_reducible refine Br_intro (fun hc => ?_) (fun hc => ?_)) | ((first | (refine callR (by rfl) (by rfl) (by rfl) (rwithin_cv _ _ _) ?_; rintro _ _ ⟨rfl, rfl⟩) | (refine callM (by rfl) (by rfl) (by rfl) (rwithin_cv _ _ _) ?_; rintro _ _ ⟨rfl, rfl⟩) | (refine callMo (by rfl) (by rfl) (by rfl) (rwithin_cv _ _ _) ?_; rintro _ _ ⟨rfl, rfl⟩) | (refine callE (by rfl) (rwithin_cv _ _ _) (by rfl) ?_)); simp (config := { maxSteps := 1000000 }) (disch := omega) only [go_sem, Int.reduceToNat, ↓reduceIte, Nat.reduceLT, Nat.reduceEqDiff, Nat.reduceAdd, Nat.reduceMul, Nat.reduceSub, Nat.reduceBEq, Nat.reduceLeDiff, reduceCtorEq, Nat.reduceLT, ↓Br_true, ↓Br_false, bind, pure, sc19, sb19]) | ((with_reducible show WidN _ _ _ _ _ _ _ _); (first | refine widL (by decide) (by with_reducible assumption) ?_ | refine widL (by decide) (FWok_nn (by with_reducible assumption)) ?_ | refine widN (by decide) (fun c hc => ?_)); simp (config := { maxSteps := 1000000 }) (disch := omega) only [go_sem, Int.reduceToNat, ↓reduceIte, Nat.reduceLT, Nat.reduceEqDiff, Nat.reduceAdd, Nat.reduceMul, Nat.reduceSub, Nat.reduceBEq, Nat.reduceLeDiff, reduceCtorEq, Nat.reduceLT, ↓Br_true, ↓Br_false, bind, pure, sc19, sb19]))
  all_goals simp only [Bool.not_eq_true', Bool.not_eq_false', decide_eq_true_eq, decide_eq_false_iff_not] at *
  · simp [vRoom, hc]
  · simp [vRoom, hc]
  · have : ¬ n ≤ 12 := by omega
    simp [vRoom, this]
  · have hz : r.sz := ⟨inn_true.1 (by assumption), inn_true.1 (by assumption)⟩
    have evr : vRoom r us n = allW r us n := by
      have h1 := inn_true.2 hz.1
      have h2 := inn_true.2 hz.2
      have h3 : n ≤ 12 := by omega
      simp [vRoom, h1, h2, h3]
    refine ⟨Nat, fun k => k ≤ n ∧ allW r us k = true, fun k => n - k, fun k => [(1, .ptr 1 0 0), (2, .f (.bool false)), (24, .slc 0 0 n cap), (25, .f (.int .i64 n)), (26, .f (.int .i64 k))], fun _ => [.rows n cap 3 f false, .lit [.f (.int .i8 r.wi), .f (.int .i8 r.hi), .slc 0 0 n cap] true], 0, (by intro _; simp), ?_, (by (try refine Or.inl ?_); simp [Cov, covE, covH, cb_dead, cb_lit, cb_rows, cb_cells, cd_lit, cd_rows, cd_cells, cd_dead, covRow, look, SV.known, SV.bd, bdL, hcap] <;> omega), ?_⟩
    · exact ⟨by omega, rfl⟩
    · rintro k ⟨hkn, hall⟩
      by_cases hlt : k < n
      · have hd : decide ((k : Int) < n) = true := decide_eq_true (by omega)
        have e1 := hf k hlt
        simp only [Win.fv] at e1
        simp (config := { maxSteps := 1000000 }) (disch := omega) only [go_sem, Int.reduceToNat, ↓reduceIte, Nat.reduceLT, Nat.reduceEqDiff, Nat.reduceAdd, Nat.reduceMul, Nat.reduceSub, Nat.reduceBEq, Nat.reduceLeDiff, reduceCtorEq, Nat.reduceLT, ↓Br_true, ↓Br_false, bind, pure, sc19, sb19, hd, e1]
        repeat' (first | (with_reducible refine And.intro (by first | (unfold SOk; kernel_rfl) | (unfold SBOk; kernel_rfl) | (with_reducible assumption) | omega | assumption) ?_) | (with_reducible refine Br_intro (fun hc => ?_) (fun hc => ?_)) | ((have cc := fits_cv r (us k) n cap f hz (hs k hlt); (first | ((first | refine callR (by rfl) (by rfl) (by rfl) cc ?_ | refine callM (by rfl) (by rfl) (by rfl) cc ?_ | refine callMo (by rfl) (by rfl) (by rfl) cc ?_); clear cc; rintro _ _ ⟨rfl, rfl⟩) | (refine callE (by rfl) cc (by rfl) ?_; clear cc))); simp (config := { maxSteps := 1000000 }) (disch := omega) only [go_sem, Int.reduceToNat, ↓reduceIte, Nat.reduceLT, Nat.reduceEqDiff, Nat.reduceAdd, Nat.reduceMul, Nat.reduceSub, Nat.reduceBEq, Nat.reduceLeDiff, reduceCtorEq, Nat.reduceLT, ↓Br_true, ↓Br_false, bind, pure, sc19, sb19, hd, e1]) | ((with_reducible show WidN _ _ _ _ _ _ _ _); (first | refine widL (by decide) (by with_reducible assumption) ?_ | refine widL (by decide) (FWok_nn (by with_reducible assumption)) ?_ | refine widN (by decide) (fun c hc => ?_)); simp (config := { maxSteps := 1000000 }) (disch := omega) only [go_sem, Int.reduceToNat, ↓reduceIte, Nat.reduceLT, Nat.reduceEqDiff, Nat.reduceAdd, Nat.reduceMul, Nat.reduceSub, Nat.reduceBEq, Nat.reduceLeDiff, reduceCtorEq, Nat.reduceLT, ↓Br_true, ↓Br_false, bind, pure, sc19, sb19, hd, e1]))
        · simp only [Bool.not_eq_true'] at hc
          simp [evr, allW_no hlt hc]
        · simp only [Bool.not_eq_false'] at hc
          exact ⟨k + 1, ⟨by omega, by rw [allW_succ, hall, hc]; rfl⟩, by omega, by (try refine Or.inl ?_); simp [Cov, covE, covH, cb_dead, cb_lit, cb_rows, cb_cells, cd_lit, cd_rows, cd_cells, cd_dead, covRow, look, SV.known, SV.bd, bdL, hcap] <;> omega⟩
      · have hd : decide ((k : Int) < n) = false := decide_eq_false (by omega)
        simp (config := { maxSteps := 1000000 }) (disch := omega) only [go_sem, Int.reduceToNat, ↓reduceIte, Nat.reduceLT, Nat.reduceEqDiff, Nat.reduceAdd, Nat.reduceMul, Nat.reduceSub, Nat.reduceBEq, Nat.reduceLeDiff, reduceCtorEq, Nat.reduceLT, ↓Br_true, ↓Br_false, bind, pure, sc19, sb19, hd]
        obtain rfl : k = n := by omega
        simp [evr, hall]
theorem l03Ok_cv (r : Rom) (us : Nat → Win) (n cap : Nat) (f : Nat → List FV) (H : RomH r us n cap f) :
    CV Tryz.prog 45 [.ptr 0 0 0] [romB r n cap false, .rows n cap 3 f false] (fun v h => v = .f (.bool (vRoom r us n)) ∧ h = [romB r n cap false, .rows n cap 3 f false]) := by
  obtain ⟨hf, hcap, hn, ⟨_, _⟩, ⟨_, _⟩, hs⟩ := H
  refine cv_of_run 1000 sc45 sb45 47 [.tmp 2] tabOk (by kernel_rfl) Tryz.func45 rfl (by kernel_rfl) Tryz.ntmps45 rfl (by simp) rfl (by simp [bdL, SV.bd]) ?_
  simp (config := { maxSteps := 1000000 }) (disch := omega) only [go_sem, Int.reduceToNat, ↓reduceIte, Nat.reduceLT, Nat.reduceEqDiff, Nat.reduceAdd, Nat.reduceMul, Nat.reduceSub, Nat.reduceBEq, Nat.reduceLeDiff, reduceCtorEq, Nat.reduceLT, ↓Br_true, ↓Br_false, bind, pure, sc45, sb45]
  repeat' (first | (with_reducible refine And.intro (by first | (unfold SOk; kernel_rfl) | (unfold SBOk; kernel_rfl) | (with_reducible assumption) | omega | assumption) ?_) | (with_reducible refine Br_intro (fun hc => ?_) (fun hc => ?_)) | ((first | (refine callR (by rfl) (by rfl) (by rfl) (rl00In_cv _ _ _) ?_; rintro _ _ ⟨rfl, rfl⟩) | (refine callM (by rfl) (by rfl) (by rfl) (rl00In_cv _ _ _) ?_; rintro _ _ ⟨rfl, rfl⟩) | (refine callMo (by rfl) (by rfl) (by rfl) (rl00In_cv _ _ _) ?_; rintro _ _ ⟨rfl, rfl⟩) | (refine callE (by rfl) (rl00In_cv _ _ _) (by rfl) ?_)); simp (config := { maxSteps := 1000000 }) (disch := omega) only [go_sem, Int.reduceToNat, ↓reduceIte, Nat.reduceLT, Nat.reduceEqDiff, Nat.reduceAdd, Nat.reduceMul, Nat.reduceSub, Nat.reduceBEq, Nat.reduceLeDiff, reduceCtorEq, Nat.reduceLT, ↓Br_true, ↓Br_false, bind, pure, sc45, sb45]) | ((with_reducible show WidN _ _ _ _ _ _ _ _); (first | refine widL (by decide) (by with_reducible assumption) ?_ | refine widL (by decide) (FWok_nn (by with_reducible assumption)) ?_ | refine widN (by decide) (fun c hc => ?_)); simp (config := { maxSteps := 1000000 }) (disch := omega) only [go_sem, Int.reduceToNat, ↓reduceIte, Nat.reduceLT, Nat.reduceEqDiff, Nat.reduceAdd, Nat.reduceMul, Nat.reduceSub, Nat.reduceBEq, Nat.reduceLeDiff, reduceCtorEq, Nat.reduceLT, ↓Br_true, ↓Br_false, bind, pure, sc45, sb45]))
  all_goals simp only [Bool.not_eq_true', Bool.not_eq_false', decide_eq_true_eq, decide_eq_false_iff_not] at *
  · simp [vRoom, hc]
  · simp [vRoom, hc]
  · have : ¬ n ≤ 12 := by omega
    simp [vRoom, this]
  · have hz : r.sz := ⟨inn_true.1 (by assumption), inn_true.1 (by assumption)⟩
    have evr : vRoom r us n = allW r us n := by
      have h1 := inn_true.2 hz.1
      have h2 := inn_true.2 hz.2
      have h3 : n ≤ 12 := by omega
      simp [vRoom, h1, h2, h3]
    refine ⟨Nat, fun k => k ≤ n ∧ allW r us k = true, fun k => n - k, fun k => [(0, .ptr 0 0 0), (2, .f (.bool false)), (3, .f (.int .i64 k))], fun _ => [romB r n cap false, .rows n cap 3 f false], 0, (by intro _; simp), ?_, (by (try refine Or.inl ?_); simp [Cov, covE, covH, cb_dead, cb_lit, cb_rows, cb_cells, cd_lit, cd_rows, cd_cells, cd_dead, covRow, look, SV.known, SV.bd, bdL, hcap] <;> omega), ?_⟩
    · exact ⟨by omega, rfl⟩
    · rintro k ⟨hkn, hall⟩
      by_cases hlt : k < n
      · have hd : decide ((k : Int) < n) = true := decide_eq_true (by omega)
        have e1 := hf k hlt
        simp only [Win.fv] at e1
        simp (config := { maxSteps := 1000000 }) (disch := omega) only [go_sem, Int.reduceToNat, ↓reduceIte, Nat.reduceLT, Nat.reduceEqDiff, Nat.reduceAdd, Nat.reduceMul, Nat.reduceSub, Nat.reduceBEq, Nat.reduceLeDiff, reduceCtorEq, Nat.reduceLT, ↓Br_true, ↓Br_false, bind, pure, sc45, sb45, hd, e1]
        repeat' (first | (with_reducible refine And.intro (by first | (unfold SOk; kernel_rfl) | (unfold SBOk; kernel_rfl) | (with_reducible assumption) | omega | assumption) ?_) | (with_reducible refine Br_intro (fun hc => ?_) (fun hc => ?_)) | ((have cc := l03Window_cv r (us k) n cap f hz (hs k hlt); (first | ((first | refine callR (by rfl) (by rfl) (by rfl) cc ?_ | refine callM (by rfl) (by rfl) (by rfl) cc ?_ | refine callMo (by rfl) (by rfl) (by rfl) cc ?_); clear cc; rintro _ _ ⟨rfl, rfl⟩) | (refine callE (by rfl) cc (by rfl) ?_; clear cc))); simp (config := { maxSteps := 1000000 }) (disch := omega) only [go_sem, Int.reduceToNat, ↓reduceIte, Nat.reduceLT, Nat.reduceEqDiff, Nat.reduceAdd, Nat.reduceMul, Nat.reduceSub, Nat.reduceBEq, Nat.reduceLeDiff, reduceCtorEq, Nat.reduceLT, ↓Br_true, ↓Br_false, bind, pure, sc45, sb45, hd, e1]) | ((with_reducible show WidN _ _ _ _ _ _ _ _); (first | refine widL (by decide) (by with_reducible assumption) ?_ | refine widL (by decide) (FWok_nn (by with_reducible assumption)) ?_ | refine widN (by decide) (fun c hc => ?_)); simp (config := { maxSteps := 1000000 }) (disch := omega) only [go_sem, Int.reduceToNat, ↓reduceIte, Nat.reduceLT, Nat.reduceEqDiff, Nat.reduceAdd, Nat.reduceMul, Nat.reduceSub, Nat.reduceBEq, Nat.reduceLeDiff, reduceCtorEq, Nat.reduceLT, ↓Br_true, ↓Br_false, bind, pure, sc45, sb45, hd, e1]))
        · simp only [Bool.not_eq_true'] at hc
          simp [evr, allW_no hlt hc]
        · simp only [Bool.not_eq_false'] at hc
          exact ⟨k + 1, ⟨by omega, by rw [allW_succ, hall, hc]; rfl⟩, by omega, by (try refine Or.inl ?_); simp [Cov, covE, covH, cb_dead, cb_lit, cb_rows, cb_cells, cd_lit, cd_rows, cd_cells, cd_dead, covRow, look, SV.known, SV.bd, bdL, hcap] <;> omega⟩
      · have hd : decide ((k : Int) < n) = false := decide_eq_false (by omega)
        simp (config := { maxSteps := 1000000 }) (disch := omega) only [go_sem, Int.reduceToNat, ↓reduceIte, Nat.reduceLT, Nat.reduceEqDiff, Nat.reduceAdd, Nat.reduceMul, Nat.reduceSub, Nat.reduceBEq, Nat.reduceLeDiff, reduceCtorEq, Nat.reduceLT, ↓Br_true, ↓Br_false, bind, pure, sc45, sb45, hd]
        obtain rfl : k = n := by omega
        simp [evr, hall]
def askC (b c : Bool) : Int := if b then (if c then 0 else 2) else 1
theorem askC_zero {b c : Bool} (h : askC b c = 0) : b = true ∧ c = true := by
  cases b <;> cases c <;> simp_all [askC]
theorem roomCode_cv (r : Rom) (us : Nat → Win) (n cap : Nat) (f : Nat → List FV) (b : Bool) (H : RomH r us n cap f) :
    CV Tryz.prog 42 [romV r n cap, .f (.bool b)] [.rows n cap 3 f false] (fun v h => v = .f (.int .i64 (askC (vRoom r us n) b)) ∧ h = [.rows n cap 3 f false]) := by
  have hcap := H.hcap
  have c := ValidRoom_cv r us n cap f H
  generalize vRoom r us n = V at *
  refine cv_of_run 1000 sc42 sb42 12 [.tmp 4] tabOk (by kernel_rfl) Tryz.func42 rfl (by kernel_rfl) Tryz.ntmps42 rfl (by simp) rfl (by simp [bdL, SV.bd]) ?_
  simp (config := { maxSteps := 1000000 }) (disch := omega) only [go_sem, Int.reduceToNat, ↓reduceIte, Nat.reduceLT, Nat.reduceEqDiff, Nat.reduceAdd, Nat.reduceMul, Nat.reduceSub, Nat.reduceBEq, Nat.reduceLeDiff, reduceCtorEq, Nat.reduceLT, ↓Br_true, ↓Br_false, bind, pure, sc42, sb42]
  repeat' (first | (with_reducible refine And.intro (by first | (unfold SOk; kernel_rfl) | (unfold SBOk; kernel_rfl) | (with_reducible assumption) | omega | assumption) ?_) | (with_reducible refine Br_intro (fun hc => ?_) (fun hc => ?_)) | ((have cc := c; (first | ((first | refine callR (by rfl) (by rfl) (by rfl) cc ?_ | refine callM (by rfl) (by rfl) (by rfl) cc ?_ | refine callMo (by rfl) (by rfl) (by rfl) cc ?_); clear cc; rintro _ _ ⟨rfl, rfl⟩) | (refine callE (by rfl) cc (by rfl) ?_; clear cc))); simp (config := { maxSteps := 1000000 }) (disch := omega) only [go_sem, Int.reduceToNat, ↓reduceIte, Nat.reduceLT, Nat.reduceEqDiff, Nat.reduceAdd, Nat.reduceMul, Nat.reduceSub, Nat.reduceBEq, Nat.reduceLeDiff, reduceCtorEq, Nat.reduceLT, ↓Br_true, ↓Br_false, bind, pure, sc42, sb42]) | ((with_reducible show WidN _ _ _ _ _ _ _ _); (first | refine widL (by decide) (by with_reducible assumption) ?_ | refine widL (by decide) (FWok_nn (by with_reducible assumption)) ?_ | refine widN (by decide) (fun c hc => ?_)); simp (config := { maxSteps := 1000000 }) (disch := omega) only [go_sem, Int.reduceToNat, ↓reduceIte, Nat.reduceLT, Nat.reduceEqDiff, Nat.reduceAdd, Nat.reduceMul, Nat.reduceSub, Nat.reduceBEq, Nat.reduceLeDiff, reduceCtorEq, Nat.reduceLT, ↓Br_true, ↓Br_false, bind, pure, sc42, sb42]))
  all_goals (clear c; cases V <;> cases b <;> simp_all [askC])
theorem l03Asked_cv (r : Rom) (us : Nat → Win) (n cap : Nat) (f : Nat → List FV) (b : Bool) (H : RomH r us n cap f) :
    CV Tryz.prog 50 [.ptr 0 0 0, .f (.bool b)] [romB r n cap false, .rows n cap 3 f false] (fun v h => v = .f (.int .i64 (askC (vRoom r us n) b)) ∧ h = [romB r n cap false, .rows n cap 3 f false]) := by
  have hcap := H.hcap
  have c := l03Ok_cv r us n cap f H
  generalize vRoom r us n = V at *
  refine cv_of_run 1000 sc50 sb50 10 [.tmp 4] tabOk (by kernel_rfl) Tryz.func50 rfl (by kernel_rfl) Tryz.ntmps50 rfl (by simp) rfl (by simp [bdL, SV.bd]) ?_
  simp (config := { maxSteps := 1000000 }) (disch := omega) only [go_sem, Int.reduceToNat, ↓reduceIte, Nat.reduceLT, Nat.reduceEqDiff, Nat.reduceAdd, Nat.reduceMul, Nat.reduceSub, Nat.reduceBEq, Nat.reduceLeDiff, reduceCtorEq, Nat.reduceLT, ↓Br_true, ↓Br_false, bind, pure, sc50, sb50]
  repeat' (first | (with_reducible refine And.intro (by first | (unfold SOk; kernel_rfl) | (unfold SBOk; kernel_rfl) | (with_reducible assumption) | omega | assumption) ?_) | (with_reducible refine Br_intro (fun hc => ?_) (fun hc => ?_)) | ((have cc := c; (first | ((first | refine callR (by rfl) (by rfl) (by rfl) cc ?_ | refine callM (by rfl) (by rfl) (by rfl) cc ?_ | refine callMo (by rfl) (by rfl) (by rfl) cc ?_); clear cc; rintro _ _ ⟨rfl, rfl⟩) | (refine callE (by rfl) cc (by rfl) ?_; clear cc))); simp (config := { maxSteps := 1000000 }) (disch := omega) only [go_sem, Int.reduceToNat, ↓reduceIte, Nat.reduceLT, Nat.reduceEqDiff, Nat.reduceAdd, Nat.reduceMul, Nat.reduceSub, Nat.reduceBEq, Nat.reduceLeDiff, reduceCtorEq, Nat.reduceLT, ↓Br_true, ↓Br_false, bind, pure, sc50, sb50]) | ((with_reducible show WidN _ _ _ _ _ _ _ _); (first | refine widL (by decide) (by with_reducible assumption) ?_ | refine widL (by decide) (FWok_nn (by with_reducible assumption)) ?_ | refine widN (by decide) (fun c hc => ?_)); simp (config := { maxSteps := 1000000 }) (disch := omega) only [go_sem, Int.reduceToNat, ↓reduceIte, Nat.reduceLT, Nat.reduceEqDiff, Nat.reduceAdd, Nat.reduceMul, Nat.reduceSub, Nat.reduceBEq, Nat.reduceLeDiff, reduceCtorEq, Nat.reduceLT, ↓Br_true, ↓Br_false, bind, pure, sc50, sb50]))
  all_goals (clear c; cases V <;> cases b <;> simp_all [askC])
def hasT (r : Rom) (p : Int × Int) : Bool := decide ((0 ≤ p.1 ∧ p.1 < r.wi) ∧ 0 ≤ p.2 ∧ p.2 < r.hi)
def smT (p : Int × Int) : Prop := (-128 ≤ p.1 ∧ p.1 ≤ 127) ∧ -128 ≤ p.2 ∧ p.2 ≤ 127
theorem has_in {r : Rom} {p : Int × Int} (hr : r.sz) (h : hasT r p = true) : inR p := by
  obtain ⟨⟨_, _⟩, _, _⟩ := hr
  simp only [hasT, decide_eq_true_eq] at h
  exact ⟨⟨by omega, by omega⟩, by omega, by omega⟩
theorem has_cv (r : Rom) (p : Int × Int) (n cap : Nat) (f : Nat → List FV) (hcap : n ≤ cap) :
    CV Tryz.prog 55 [.ptr 0 0 0, tilV p] [romB r n cap false, .rows n cap 3 f false] (fun v h => v = .f (.bool (hasT r p)) ∧ h = [romB r n cap false, .rows n cap 3 f false]) := by
  refine cv_of_run 1000 sc55 sb55 31 [.tmp 4] tabOk (by kernel_rfl) Tryz.func55 rfl (by kernel_rfl) Tryz.ntmps55 rfl (by simp) rfl (by simp [bdL, SV.bd]) ?_
  simp (config := { maxSteps := 1000000 }) (disch := omega) only [go_sem, Int.reduceToNat, ↓reduceIte, Nat.reduceLT, Nat.reduceEqDiff, Nat.reduceAdd, Nat.reduceMul, Nat.reduceSub, Nat.reduceBEq, Nat.reduceLeDiff, reduceCtorEq, Nat.reduceLT, ↓Br_true, ↓Br_false, bind, pure, sc55, sb55]
  repeat' (first | (with_reducible refine And.intro (by first | (unfold SOk; kernel_rfl) | (unfold SBOk; kernel_rfl) | (with_reducible assumption) | omega | assumption) ?_) | (with_reducible refine Br_intro (fun hc => ?_) (fun hc => ?_)) | ((with_reducible show WidN _ _ _ _ _ _ _ _); (first | refine widL (by decide) (by with_reducible assumption) ?_ | refine widL (by decide) (FWok_nn (by with_reducible assumption)) ?_ | refine widN (by decide) (fun c hc => ?_)); simp (config := { maxSteps := 1000000 }) (disch := omega) only [go_sem, Int.reduceToNat, ↓reduceIte, Nat.reduceLT, Nat.reduceEqDiff, Nat.reduceAdd, Nat.reduceMul, Nat.reduceSub, Nat.reduceBEq, Nat.reduceLeDiff, reduceCtorEq, Nat.reduceLT, ↓Br_true, ↓Br_false, bind, pure, sc55, sb55]))
  all_goals simp only [decide_eq_true_eq, decide_eq_false_iff_not] at *
  all_goals (simp only [hasT, SV.f.injEq, FV.bool.injEq]; rw [Bool.eq_iff_iff]; simp only [decide_eq_true_eq, Bool.false_eq_true, false_iff]; omega)
theorem room_asked {r : Rom} {us : Nat → Win} {n : Nat} {b : Bool} (h : askC (vRoom r us n) b = 0) : r.sz ∧ n ≤ 12 ∧ allW r us n = true ∧ b = true := by
  obtain ⟨h1, h2⟩ := askC_zero h
  obtain ⟨a, b, c⟩ := vRoom_at h1
  exact ⟨a, b, c, h2⟩
abbrev latV (r : Rom) (us : Nat → Win) (n : Nat) (p : Int × Int) : SV :=
  .tup [.f (.flt .f32 (if askC (vRoom r us n) (hasT r p) = 0 then litF r us p n else 0)), .f (.int .i64 (askC (vRoom r us n) (hasT r p)))]
theorem LightAt_cv (r : Rom) (us : Nat → Win) (p : Int × Int) (n cap : Nat) (f : Nat → List FV) (H : RomH r us n cap f) (hp : smT p) :
    CV Tryz.prog 23 [romV r n cap, tilV p] [.rows n cap 3 f false] (fun v h => v = latV r us n p ∧ h = [.rows n cap 3 f false]) := by
  have hcap := H.hcap
  refine cv_of_run 1000 sc23 sb23 16 [.tmp 4, .tmp 5] tabOk (by kernel_rfl) Tryz.func23 rfl (by kernel_rfl) Tryz.ntmps23 rfl (by simp) rfl (by simp [bdL, SV.bd]) ?_
  simp (config := { maxSteps := 1000000 }) (disch := omega) only [go_sem, Int.reduceToNat, ↓reduceIte, Nat.reduceLT, Nat.reduceEqDiff, Nat.reduceAdd, Nat.reduceMul, Nat.reduceSub, Nat.reduceBEq, Nat.reduceLeDiff, reduceCtorEq, Nat.reduceLT, ↓Br_true, ↓Br_false, bind, pure, sc23, sb23]
  repeat' (first | (with_reducible refine And.intro (by first | (unfold SOk; kernel_rfl) | (unfold SBOk; kernel_rfl) | (with_reducible assumption) | omega | assumption) ?_) | (with_reducible refine Br_intro (fun hc => ?_) (fun hc => ?_)) | ((have cc := has_cv r p n cap f hcap; (first | ((first | refine callR (by rfl) (by rfl) (by rfl) cc ?_ | refine callM (by rfl) (by rfl) (by rfl) cc ?_ | refine callMo (by rfl) (by rfl) (by rfl) cc ?_); clear cc; rintro _ _ ⟨rfl, rfl⟩) | (refine callE (by rfl) cc (by rfl) ?_; clear cc))); simp (config := { maxSteps := 1000000 }) (disch := omega) only [go_sem, Int.reduceToNat, ↓reduceIte, Nat.reduceLT, Nat.reduceEqDiff, Nat.reduceAdd, Nat.reduceMul, Nat.reduceSub, Nat.reduceBEq, Nat.reduceLeDiff, reduceCtorEq, Nat.reduceLT, ↓Br_true, ↓Br_false, bind, pure, sc23, sb23]) | ((first | (refine callR (by rfl) (by rfl) (by rfl) (roomCode_cv r us n cap f _ H) ?_; rintro _ _ ⟨rfl, rfl⟩) | (refine callM (by rfl) (by rfl) (by rfl) (roomCode_cv r us n cap f _ H) ?_; rintro _ _ ⟨rfl, rfl⟩) | (refine callMo (by rfl) (by rfl) (by rfl) (roomCode_cv r us n cap f _ H) ?_; rintro _ _ ⟨rfl, rfl⟩) | (refine callE (by rfl) (roomCode_cv r us n cap f _ H) (by rfl) ?_)); simp (config := { maxSteps := 1000000 }) (disch := omega) only [go_sem, Int.reduceToNat, ↓reduceIte, Nat.reduceLT, Nat.reduceEqDiff, Nat.reduceAdd, Nat.reduceMul, Nat.reduceSub, Nat.reduceBEq, Nat.reduceLeDiff, reduceCtorEq, Nat.reduceLT, ↓Br_true, ↓Br_false, bind, pure, sc23, sb23]) | ((with_reducible show WidN _ _ _ _ _ _ _ _); (first | refine widL (by decide) (by with_reducible assumption) ?_ | refine widL (by decide) (FWok_nn (by with_reducible assumption)) ?_ | refine widN (by decide) (fun c hc => ?_)); simp (config := { maxSteps := 1000000 }) (disch := omega) only [go_sem, Int.reduceToNat, ↓reduceIte, Nat.reduceLT, Nat.reduceEqDiff, Nat.reduceAdd, Nat.reduceMul, Nat.reduceSub, Nat.reduceBEq, Nat.reduceLeDiff, reduceCtorEq, Nat.reduceLT, ↓Br_true, ↓Br_false, bind, pure, sc23, sb23]))
  · simp only [Bool.not_eq_true', decide_eq_false_iff_not] at hc
    simp [latV, hc]
  · simp only [Bool.not_eq_false', decide_eq_true_eq] at hc
    obtain ⟨hz, h12, hw, hb⟩ := room_asked hc
    have hI := has_in hz hb
    (have cc := light_cv r us p n cap f H.hf hcap H.hn hz hw hI; (first | ((first | refine callR (by rfl) (by rfl) (by rfl) cc ?_ | refine callM (by rfl) (by rfl) (by rfl) cc ?_ | refine callMo (by rfl) (by rfl) (by rfl) cc ?_); clear cc; rintro _ _ ⟨rfl, rfl⟩) | (refine callE (by rfl) cc (by rfl) ?_; clear cc)))
    simp (config := { maxSteps := 1000000 }) (disch := omega) only [go_sem, Int.reduceToNat, ↓reduceIte, Nat.reduceLT, Nat.reduceEqDiff, Nat.reduceAdd, Nat.reduceMul, Nat.reduceSub, Nat.reduceBEq, Nat.reduceLeDiff, reduceCtorEq, Nat.reduceLT, ↓Br_true, ↓Br_false, bind, pure, sc23, sb23]
    simp [latV, hc]
end Go.Proofs.YtjhddlkfkicpaaaGreatDoor.Vx
