/- Rooms as answers, in the abstract: their sameness, marks, what is held. -/
import Derived.Test.YtpcnpmhpelbndaaGreatDoorRy
namespace Go.Proofs.YtpcnpmhpelbndaaGreatDoor.Vx
open Go Go.RowKit Fl
set_option maxRecDepth 100000
set_option maxHeartbeats 2000000
set_option linter.unusedSimpArgs false
set_option linter.unusedVariables false

theorem eqWindowNS_cv (g : Nat → List FV) (cap : Nat) : CV Tryz.prog 71 [.f .nils, .slc 0 0 0 cap] [.rows 0 cap 3 g false] (fun v h => v = .f (.bool true) ∧ h = [.rows 0 cap 3 g false]) := by
  have e0 : ((0 : Nat) : Int) = 0 := rfl
  refine cv_of_run 1000 sc71 sb71 27 [.tmp 4] tabOk (by kernel_rfl) Tryz.func71 rfl (by kernel_rfl) Tryz.ntmps71 rfl (by simp) rfl (by simp [bdL, SV.bd]) ?_
  simp (config := { maxSteps := 1000000 }) (disch := omega) only [go_sem, Int.reduceToNat, ↓reduceIte, Nat.reduceLT, Nat.reduceEqDiff, Nat.reduceAdd, Nat.reduceMul, Nat.reduceSub, Nat.reduceBEq, Nat.reduceLeDiff, reduceCtorEq, Nat.reduceLT, ↓Br_true, ↓Br_false, bind, pure, sc71, sb71, e0]
  refine ⟨Unit, fun _ => True, fun _ => 0, fun _ => [(0, .f .nils), (5, .f (.int .i64 0))], fun _ => [.rows 0 cap 3 g false], (), (by intro _; simp), ?_, (by (try refine Or.inl ?_); simp [Cov, covE, covH, cb_dead, cb_lit, cb_rows, cb_cells, cd_lit, cd_rows, cd_cells, cd_dead, covRow, look, SV.known, SV.bd, bdL] <;> omega), ?_⟩
  · trivial
  · intro _ _
    simp (config := { maxSteps := 1000000 }) (disch := omega) only [go_sem, Int.reduceToNat, ↓reduceIte, Nat.reduceLT, Nat.reduceEqDiff, Nat.reduceAdd, Nat.reduceMul, Nat.reduceSub, Nat.reduceBEq, Nat.reduceLeDiff, reduceCtorEq, Nat.reduceLT, ↓Br_true, ↓Br_false, bind, pure, sc71, sb71, Int.lt_irrefl]
theorem eqWindowNN_cv : CV Tryz.prog 71 [.f .nils, .f .nils] [] (fun v h => v = .f (.bool true) ∧ h = []) := by
  refine cv_of_run 1000 sc71 sb71 27 [.tmp 4] tabOk (by kernel_rfl) Tryz.func71 rfl (by kernel_rfl) Tryz.ntmps71 rfl (by simp) rfl (by simp [bdL, SV.bd]) ?_
  simp (config := { maxSteps := 1000000 }) (disch := omega) only [go_sem, Int.reduceToNat, ↓reduceIte, Nat.reduceLT, Nat.reduceEqDiff, Nat.reduceAdd, Nat.reduceMul, Nat.reduceSub, Nat.reduceBEq, Nat.reduceLeDiff, reduceCtorEq, Nat.reduceLT, ↓Br_true, ↓Br_false, bind, pure, sc71, sb71]
  refine ⟨Unit, fun _ => True, fun _ => 0, fun _ => [(0, .f .nils), (5, .f (.int .i64 0))], fun _ => [], (), (by intro _; simp), ?_, (by (try refine Or.inl ?_); simp [Cov, covE, covH, cb_dead, cb_lit, cb_rows, cb_cells, cd_lit, cd_rows, cd_cells, cd_dead, covRow, look, SV.known, SV.bd, bdL] <;> omega), ?_⟩
  · trivial
  · intro _ _
    simp (config := { maxSteps := 1000000 }) (disch := omega) only [go_sem, Int.reduceToNat, ↓reduceIte, Nat.reduceLT, Nat.reduceEqDiff, Nat.reduceAdd, Nat.reduceMul, Nat.reduceSub, Nat.reduceBEq, Nat.reduceLeDiff, reduceCtorEq, Nat.reduceLT, ↓Br_true, ↓Br_false, bind, pure, sc71, sb71, Int.lt_irrefl]
theorem eqRoomNS_cv (a b : Int) (g : Nat → List FV) (cap : Nat) : CV Tryz.prog 8 [.agg [.f (.int .i8 a), .f (.int .i8 b), .f .nils], .agg [.f (.int .i8 a), .f (.int .i8 b), .slc 0 0 0 cap]] [.rows 0 cap 3 g false] (fun v h => v = .f (.bool true) ∧ h = [.rows 0 cap 3 g false]) := by
  refine cv_of_run 1000 sc8 sb8 21 [.tmp 4] tabOk (by kernel_rfl) Tryz.func8 rfl (by kernel_rfl) Tryz.ntmps8 rfl (by simp) rfl (by simp [bdL, SV.bd]) ?_
  simp (config := { maxSteps := 1000000 }) (disch := omega) only [go_sem, Int.reduceToNat, ↓reduceIte, Nat.reduceLT, Nat.reduceEqDiff, Nat.reduceAdd, Nat.reduceMul, Nat.reduceSub, Nat.reduceBEq, Nat.reduceLeDiff, reduceCtorEq, Nat.reduceLT, ↓Br_true, ↓Br_false, bind, pure, sc8, sb8]
  (have cc := eqWindowNS_cv g cap; (first | ((first | refine callR (by rfl) (by rfl) (by rfl) cc ?_ | refine callM (by rfl) (by rfl) (by rfl) cc ?_ | refine callMo (by rfl) (by rfl) (by rfl) cc ?_); clear cc; rintro _ _ ⟨rfl, rfl⟩) | (refine callE (by rfl) cc (by rfl) ?_; clear cc)))
  simp (config := { maxSteps := 1000000 }) (disch := omega) only [go_sem, Int.reduceToNat, ↓reduceIte, Nat.reduceLT, Nat.reduceEqDiff, Nat.reduceAdd, Nat.reduceMul, Nat.reduceSub, Nat.reduceBEq, Nat.reduceLeDiff, reduceCtorEq, Nat.reduceLT, ↓Br_true, ↓Br_false, bind, pure, sc8, sb8]
theorem eqRoomNN_cv (a b : Int) : CV Tryz.prog 8 [.agg [.f (.int .i8 a), .f (.int .i8 b), .f .nils], .agg [.f (.int .i8 a), .f (.int .i8 b), .f .nils]] [] (fun v h => v = .f (.bool true) ∧ h = []) := by
  refine cv_of_run 1000 sc8 sb8 21 [.tmp 4] tabOk (by kernel_rfl) Tryz.func8 rfl (by kernel_rfl) Tryz.ntmps8 rfl (by simp) rfl (by simp [bdL, SV.bd]) ?_
  simp (config := { maxSteps := 1000000 }) (disch := omega) only [go_sem, Int.reduceToNat, ↓reduceIte, Nat.reduceLT, Nat.reduceEqDiff, Nat.reduceAdd, Nat.reduceMul, Nat.reduceSub, Nat.reduceBEq, Nat.reduceLeDiff, reduceCtorEq, Nat.reduceLT, ↓Br_true, ↓Br_false, bind, pure, sc8, sb8]
  (have cc := eqWindowNN_cv; (first | ((first | refine callR (by rfl) (by rfl) (by rfl) cc ?_ | refine callM (by rfl) (by rfl) (by rfl) cc ?_ | refine callMo (by rfl) (by rfl) (by rfl) cc ?_); clear cc; rintro _ _ ⟨rfl, rfl⟩) | (refine callE (by rfl) cc (by rfl) ?_; clear cc)))
  simp (config := { maxSteps := 1000000 }) (disch := omega) only [go_sem, Int.reduceToNat, ↓reduceIte, Nat.reduceLT, Nat.reduceEqDiff, Nat.reduceAdd, Nat.reduceMul, Nat.reduceSub, Nat.reduceBEq, Nat.reduceLeDiff, reduceCtorEq, Nat.reduceLT, ↓Br_true, ↓Br_false, bind, pure, sc8, sb8]
/-- The marks of a window, the marks counted from 1. -/
def mkW (j : Nat) : List FV := [.int .i8 (IntKind.i8.wrap (1 + 3 * (j : Int))), .int .i8 (IntKind.i8.wrap (1 + 3 * (j : Int) + 1)), .flt .f32 (fofInt (1 + 3 * (j : Int) + 1 + 1))]
theorem markWindowS_cv (n : Nat) (f : Nat → List FV) (cap : Nat) (h1 : n ≤ cap) (hL : n ≤ 1048576) (hf : ∀ i, i < n → (f i).length = 3) :
    CV Tryz.prog 72 [.slc 0 0 n cap, .f (.int .i64 1)] [.rows n cap 3 f true] (fun v h => v = .f (.int .i64 (1 + 3 * n)) ∧ ∃ f', (∀ i, i < n → f' i = mkW i) ∧ h = [.rows n cap 3 f' true]) := by
  refine cv_of_run 1000 sc72 sb72 37 [.tmp 4] tabOk (by kernel_rfl) Tryz.func72 rfl (by kernel_rfl) Tryz.ntmps72 rfl (by simp) rfl (by simp [bdL, SV.bd]) ?_
  simp (config := { maxSteps := 1000000 }) (disch := omega) only [go_sem, Int.reduceToNat, ↓reduceIte, Nat.reduceLT, Nat.reduceEqDiff, Nat.reduceAdd, Nat.reduceMul, Nat.reduceSub, Nat.reduceBEq, Nat.reduceLeDiff, reduceCtorEq, Nat.reduceLT, ↓Br_true, ↓Br_false, bind, pure, sc72, sb72]
  refine ⟨(Nat × (Nat → List FV)), fun s => s.1 ≤ n ∧ (∀ i, i < s.1 → s.2 i = mkW i) ∧ (∀ i, i < n → (s.2 i).length = 3), fun s => n - s.1, fun s => [(0, .slc 0 0 n cap), (1, .f (.int .i64 (1 + 3 * (s.1 : Int)))), (5, .f (.int .i64 s.1))], fun s => [.rows n cap 3 s.2 true], (0, f), (by intro _; simp), ?_, (by (try refine Or.inl ?_); simp [Cov, covE, covH, cb_dead, cb_lit, cb_rows, cb_cells, cd_lit, cd_rows, cd_cells, cd_dead, covRow, look, SV.known, SV.bd, bdL, h1] <;> omega), ?_⟩
  · exact ⟨by omega, fun i hi => by omega, hf⟩
  · rintro ⟨j, g⟩ ⟨hj, hg, hl⟩
    simp only at hj hg hl
    by_cases hlt : j < n
    · have hd : decide ((j : Int) < n) = true := decide_eq_true (by omega)
      simp (config := { maxSteps := 1000000 }) (disch := omega) only [go_sem, Int.reduceToNat, ↓reduceIte, Nat.reduceLT, Nat.reduceEqDiff, Nat.reduceAdd, Nat.reduceMul, Nat.reduceSub, Nat.reduceBEq, Nat.reduceLeDiff, reduceCtorEq, Nat.reduceLT, ↓Br_true, ↓Br_false, bind, pure, sc72, sb72, hd]
      repeat' (first | (with_reducible refine And.intro (by first | (unfold SOk; kernel_rfl) | (unfold SBOk; kernel_rfl) | (with_reducible assumption) | omega | assumption) ?_) | (with_reducible refine Br_intro (fun hc => ?_) (fun hc => ?_)) | ((with_reducible show WidN _ _ _ _ _ _ _ _); (first | refine widL (by decide) (by with_reducible assumption) ?_ | refine widL (by decide) (FWok_nn (by with_reducible assumption)) ?_ | refine widN (by decide) (fun c hc => ?_)); simp (config := { maxSteps := 1000000 }) (disch := omega) only [go_sem, Int.reduceToNat, ↓reduceIte, Nat.reduceLT, Nat.reduceEqDiff, Nat.reduceAdd, Nat.reduceMul, Nat.reduceSub, Nat.reduceBEq, Nat.reduceLeDiff, reduceCtorEq, Nat.reduceLT, ↓Br_true, ↓Br_false, bind, pure, sc72, sb72]))
      refine ⟨(j + 1, updR (updR (updR g j 0 (.int .i8 (IntKind.i8.wrap (1 + 3 * (j : Int))))) j 1 (.int .i8 (IntKind.i8.wrap (1 + 3 * (j : Int) + 1)))) j 2 (.flt .f32 (fofInt (1 + 3 * (j : Int) + 1 + 1)))), ⟨by omega, fun i hi => ?_, fun i hi => ?_⟩, by omega, by (try refine Or.inl ?_); simp [Cov, covE, covH, cb_dead, cb_lit, cb_rows, cb_cells, cd_lit, cd_rows, cd_cells, cd_dead, covRow, look, SV.known, SV.bd, bdL, h1] <;> omega⟩
      · by_cases c : i = j
        · subst c
          have := hl i (by omega)
          simp only [updR, if_true]
          match hg' : g i, this with
          | [a, b, c], _ => rfl
        · simp only [updR, if_neg c]; exact hg i (by omega)
      · by_cases c : i = j
        · subst c
          simp only [updR, if_true, rset_eq, List.length_set]
          exact hl i hi
        · simp only [updR, if_neg c]; exact hl i hi
    · have hd : decide ((j : Int) < n) = false := decide_eq_false (by omega)
      simp (config := { maxSteps := 1000000 }) (disch := omega) only [go_sem, Int.reduceToNat, ↓reduceIte, Nat.reduceLT, Nat.reduceEqDiff, Nat.reduceAdd, Nat.reduceMul, Nat.reduceSub, Nat.reduceBEq, Nat.reduceLeDiff, reduceCtorEq, Nat.reduceLT, ↓Br_true, ↓Br_false, bind, pure, sc72, sb72, hd]
      obtain rfl : j = n := by omega
      exact ⟨rfl, g, hg, rfl⟩
theorem heldWindowS_cv (n : Nat) (f : Nat → List FV) (cap : Nat) (h1 : n ≤ cap) (hL : n ≤ 12) (hf : ∀ i, i < n → f i = mkW i) :
    CV Tryz.prog 73 [.slc 0 0 n cap, .f (.int .i64 1)] [.rows n cap 3 f false] (fun v h => v = .f (.int .i64 (1 + 3 * n)) ∧ h = [.rows n cap 3 f false]) := by
  refine cv_of_run 1000 sc73 sb73 43 [.tmp 4] tabOk (by kernel_rfl) Tryz.func73 rfl (by kernel_rfl) Tryz.ntmps73 rfl (by simp) rfl (by simp [bdL, SV.bd]) ?_
  simp (config := { maxSteps := 1000000 }) (disch := omega) only [go_sem, Int.reduceToNat, ↓reduceIte, Nat.reduceLT, Nat.reduceEqDiff, Nat.reduceAdd, Nat.reduceMul, Nat.reduceSub, Nat.reduceBEq, Nat.reduceLeDiff, reduceCtorEq, Nat.reduceLT, ↓Br_true, ↓Br_false, bind, pure, sc73, sb73]
  refine ⟨Nat, fun j => j ≤ n, fun j => n - j, fun j => [(0, .slc 0 0 n cap), (1, .f (.int .i64 (1 + 3 * (j : Int)))), (5, .f (.int .i64 j))], fun _ => [.rows n cap 3 f false], 0, (by intro _; simp), ?_, (by (try refine Or.inl ?_); simp [Cov, covE, covH, cb_dead, cb_lit, cb_rows, cb_cells, cd_lit, cd_rows, cd_cells, cd_dead, covRow, look, SV.known, SV.bd, bdL, h1] <;> omega), ?_⟩
  · omega
  · intro j hj
    by_cases hlt : j < n
    · have hd : decide ((j : Int) < n) = true := decide_eq_true (by omega)
      have e1 := hf j hlt
      simp only [mkW] at e1
      simp (config := { maxSteps := 1000000 }) (disch := omega) only [go_sem, Int.reduceToNat, ↓reduceIte, Nat.reduceLT, Nat.reduceEqDiff, Nat.reduceAdd, Nat.reduceMul, Nat.reduceSub, Nat.reduceBEq, Nat.reduceLeDiff, reduceCtorEq, Nat.reduceLT, ↓Br_true, ↓Br_false, bind, pure, sc73, sb73, hd, e1]
      have hnn : feq (fofInt (1 + 3 * (j : Int) + 1 + 1)) (fofInt (1 + 3 * (j : Int) + 1 + 1)) = true := by
        have := List.all_eq_true.1 disT_all (3 * j + 2) (by simp; omega)
        simp only [disT, Bool.and_eq_true, decide_eq_true_eq] at this
        rw [show ((3 * j + 2 : Nat) : Int) + 1 = 1 + 3 * (j : Int) + 1 + 1 by omega] at this
        rw [feq_self]
        exact decide_eq_true (fin.nn this.2)
      repeat' (first | (with_reducible refine And.intro (by first | (unfold SOk; kernel_rfl) | (unfold SBOk; kernel_rfl) | (with_reducible assumption) | omega | assumption) ?_) | (with_reducible refine Br_intro (fun hc => ?_) (fun hc => ?_)) | ((with_reducible show WidN _ _ _ _ _ _ _ _); (first | refine widL (by decide) (by with_reducible assumption) ?_ | refine widL (by decide) (FWok_nn (by with_reducible assumption)) ?_ | refine widN (by decide) (fun c hc => ?_)); simp (config := { maxSteps := 1000000 }) (disch := omega) only [go_sem, Int.reduceToNat, ↓reduceIte, Nat.reduceLT, Nat.reduceEqDiff, Nat.reduceAdd, Nat.reduceMul, Nat.reduceSub, Nat.reduceBEq, Nat.reduceLeDiff, reduceCtorEq, Nat.reduceLT, ↓Br_true, ↓Br_false, bind, pure, sc73, sb73, hd, e1]))
      · rw [hnn] at hc; cases hc
      · exact ⟨j + 1, by omega, by omega, by (try refine Or.inl ?_); simp [Cov, covE, covH, cb_dead, cb_lit, cb_rows, cb_cells, cd_lit, cd_rows, cd_cells, cd_dead, covRow, look, SV.known, SV.bd, bdL, h1] <;> omega⟩
    · have hd : decide ((j : Int) < n) = false := decide_eq_false (by omega)
      simp (config := { maxSteps := 1000000 }) (disch := omega) only [go_sem, Int.reduceToNat, ↓reduceIte, Nat.reduceLT, Nat.reduceEqDiff, Nat.reduceAdd, Nat.reduceMul, Nat.reduceSub, Nat.reduceBEq, Nat.reduceLeDiff, reduceCtorEq, Nat.reduceLT, ↓Br_true, ↓Br_false, bind, pure, sc73, sb73, hd]
      obtain rfl : j = n := by omega
      rfl
theorem markWindowN_cv (k : Int) : CV Tryz.prog 72 [.f .nils, .f (.int .i64 k)] [] (fun v h => v = .f (.int .i64 k) ∧ h = []) := by
  refine cv_of_run 1000 sc72 sb72 37 [.tmp 4] tabOk (by kernel_rfl) Tryz.func72 rfl (by kernel_rfl) Tryz.ntmps72 rfl (by simp) rfl (by simp [bdL, SV.bd]) ?_
  simp (config := { maxSteps := 1000000 }) (disch := omega) only [go_sem, Int.reduceToNat, ↓reduceIte, Nat.reduceLT, Nat.reduceEqDiff, Nat.reduceAdd, Nat.reduceMul, Nat.reduceSub, Nat.reduceBEq, Nat.reduceLeDiff, reduceCtorEq, Nat.reduceLT, ↓Br_true, ↓Br_false, bind, pure, sc72, sb72]
  refine ⟨Unit, fun _ => True, fun _ => 0, fun _ => [(0, .f .nils), (1, .f (.int .i64 k)), (5, .f (.int .i64 0))], fun _ => [], (), (by intro _; simp), ?_, (by (try refine Or.inl ?_); simp [Cov, covE, covH, cb_dead, cb_lit, cb_rows, cb_cells, cd_lit, cd_rows, cd_cells, cd_dead, covRow, look, SV.known, SV.bd, bdL] <;> omega), ?_⟩
  · trivial
  · intro _ _
    simp (config := { maxSteps := 1000000 }) (disch := omega) only [go_sem, Int.reduceToNat, ↓reduceIte, Nat.reduceLT, Nat.reduceEqDiff, Nat.reduceAdd, Nat.reduceMul, Nat.reduceSub, Nat.reduceBEq, Nat.reduceLeDiff, reduceCtorEq, Nat.reduceLT, ↓Br_true, ↓Br_false, bind, pure, sc72, sb72, Int.lt_irrefl]
theorem heldWindowN_cv (k : Int) : CV Tryz.prog 73 [.f .nils, .f (.int .i64 k)] [] (fun v h => v = .f (.int .i64 k) ∧ h = []) := by
  refine cv_of_run 1000 sc73 sb73 43 [.tmp 4] tabOk (by kernel_rfl) Tryz.func73 rfl (by kernel_rfl) Tryz.ntmps73 rfl (by simp) rfl (by simp [bdL, SV.bd]) ?_
  simp (config := { maxSteps := 1000000 }) (disch := omega) only [go_sem, Int.reduceToNat, ↓reduceIte, Nat.reduceLT, Nat.reduceEqDiff, Nat.reduceAdd, Nat.reduceMul, Nat.reduceSub, Nat.reduceBEq, Nat.reduceLeDiff, reduceCtorEq, Nat.reduceLT, ↓Br_true, ↓Br_false, bind, pure, sc73, sb73]
  refine ⟨Unit, fun _ => True, fun _ => 0, fun _ => [(0, .f .nils), (1, .f (.int .i64 k)), (5, .f (.int .i64 0))], fun _ => [], (), (by intro _; simp), ?_, (by (try refine Or.inl ?_); simp [Cov, covE, covH, cb_dead, cb_lit, cb_rows, cb_cells, cd_lit, cd_rows, cd_cells, cd_dead, covRow, look, SV.known, SV.bd, bdL] <;> omega), ?_⟩
  · trivial
  · intro _ _
    simp (config := { maxSteps := 1000000 }) (disch := omega) only [go_sem, Int.reduceToNat, ↓reduceIte, Nat.reduceLT, Nat.reduceEqDiff, Nat.reduceAdd, Nat.reduceMul, Nat.reduceSub, Nat.reduceBEq, Nat.reduceLeDiff, reduceCtorEq, Nat.reduceLT, ↓Br_true, ↓Br_false, bind, pure, sc73, sb73, Int.lt_irrefl]
theorem markRoom_cv (r : Rom) (n : Nat) (f : Nat → List FV) (cap : Nat) (h1 : n ≤ cap) (hL : n ≤ 1048576) (hf : ∀ i, i < n → (f i).length = 3) :
    CV Tryz.prog 9 [romV r n cap, .f (.int .i64 1)] [.rows n cap 3 f true] (fun v h => v = .f (.int .i64 (1 + 3 * n)) ∧ ∃ f', (∀ i, i < n → f' i = mkW i) ∧ h = [.rows n cap 3 f' true]) := by
  refine cv_of_run 1000 sc9 sb9 10 [.tmp 4] tabOk (by kernel_rfl) Tryz.func9 rfl (by kernel_rfl) Tryz.ntmps9 rfl (by simp) rfl (by simp [bdL, SV.bd]) ?_
  simp (config := { maxSteps := 1000000 }) (disch := omega) only [go_sem, Int.reduceToNat, ↓reduceIte, Nat.reduceLT, Nat.reduceEqDiff, Nat.reduceAdd, Nat.reduceMul, Nat.reduceSub, Nat.reduceBEq, Nat.reduceLeDiff, reduceCtorEq, Nat.reduceLT, ↓Br_true, ↓Br_false, bind, pure, sc9, sb9]
  have cc := markWindowS_cv n f cap h1 hL hf; (first | refine callR (by rfl) (by rfl) (by rfl) cc ?_ | refine callM (by rfl) (by rfl) (by rfl) cc ?_ | refine callMo (by rfl) (by rfl) (by rfl) cc ?_ | refine callG (by rfl) (by rfl) (by rfl) cc ?_ | refine callW (by rfl) (by first | rfl | (simp [ofL, kpB, kpR, ofB, isOwnB, isDead, inL, hget]; done)) (by rfl) (by rfl) cc ?_); clear cc; rintro _ _ ⟨rfl, f', hf', rfl⟩
  simp (config := { maxSteps := 1000000 }) (disch := omega) only [go_sem, Int.reduceToNat, ↓reduceIte, Nat.reduceLT, Nat.reduceEqDiff, Nat.reduceAdd, Nat.reduceMul, Nat.reduceSub, Nat.reduceBEq, Nat.reduceLeDiff, reduceCtorEq, Nat.reduceLT, ↓Br_true, ↓Br_false, bind, pure, sc9, sb9]
  exact ⟨f', hf', rfl⟩
theorem markRoomN_cv (a b : Int) : CV Tryz.prog 9 [.agg [.f (.int .i8 a), .f (.int .i8 b), .f .nils], .f (.int .i64 1)] [] (fun v h => v = .f (.int .i64 1) ∧ h = []) := by
  refine cv_of_run 1000 sc9 sb9 10 [.tmp 4] tabOk (by kernel_rfl) Tryz.func9 rfl (by kernel_rfl) Tryz.ntmps9 rfl (by simp) rfl (by simp [bdL, SV.bd]) ?_
  simp (config := { maxSteps := 1000000 }) (disch := omega) only [go_sem, Int.reduceToNat, ↓reduceIte, Nat.reduceLT, Nat.reduceEqDiff, Nat.reduceAdd, Nat.reduceMul, Nat.reduceSub, Nat.reduceBEq, Nat.reduceLeDiff, reduceCtorEq, Nat.reduceLT, ↓Br_true, ↓Br_false, bind, pure, sc9, sb9]
  (have cc := markWindowN_cv 1; (first | ((first | refine callR (by rfl) (by rfl) (by rfl) cc ?_ | refine callM (by rfl) (by rfl) (by rfl) cc ?_ | refine callMo (by rfl) (by rfl) (by rfl) cc ?_); clear cc; rintro _ _ ⟨rfl, rfl⟩) | (refine callE (by rfl) cc (by rfl) ?_; clear cc)))
  simp (config := { maxSteps := 1000000 }) (disch := omega) only [go_sem, Int.reduceToNat, ↓reduceIte, Nat.reduceLT, Nat.reduceEqDiff, Nat.reduceAdd, Nat.reduceMul, Nat.reduceSub, Nat.reduceBEq, Nat.reduceLeDiff, reduceCtorEq, Nat.reduceLT, ↓Br_true, ↓Br_false, bind, pure, sc9, sb9]
theorem heldRoom_cv (r : Rom) (n : Nat) (f : Nat → List FV) (cap : Nat) (h1 : n ≤ cap) (hL : n ≤ 12) (hf : ∀ i, i < n → f i = mkW i) :
    CV Tryz.prog 10 [romV r n cap, .f (.int .i64 1)] [.rows n cap 3 f false] (fun v h => v = .f (.int .i64 (1 + 3 * n)) ∧ h = [.rows n cap 3 f false]) := by
  have hq : decide (1 + 3 * (n : Int) < 0) = false := decide_eq_false (by omega)
  refine cv_of_run 1000 sc10 sb10 12 [.tmp 4] tabOk (by kernel_rfl) Tryz.func10 rfl (by kernel_rfl) Tryz.ntmps10 rfl (by simp) rfl (by simp [bdL, SV.bd]) ?_
  simp (config := { maxSteps := 1000000 }) (disch := omega) only [go_sem, Int.reduceToNat, ↓reduceIte, Nat.reduceLT, Nat.reduceEqDiff, Nat.reduceAdd, Nat.reduceMul, Nat.reduceSub, Nat.reduceBEq, Nat.reduceLeDiff, reduceCtorEq, Nat.reduceLT, ↓Br_true, ↓Br_false, bind, pure, sc10, sb10]
  (have cc := heldWindowS_cv n f cap h1 hL hf; (first | ((first | refine callR (by rfl) (by rfl) (by rfl) cc ?_ | refine callM (by rfl) (by rfl) (by rfl) cc ?_ | refine callMo (by rfl) (by rfl) (by rfl) cc ?_); clear cc; rintro _ _ ⟨rfl, rfl⟩) | (refine callE (by rfl) cc (by rfl) ?_; clear cc)))
  simp (config := { maxSteps := 1000000 }) (disch := omega) only [go_sem, Int.reduceToNat, ↓reduceIte, Nat.reduceLT, Nat.reduceEqDiff, Nat.reduceAdd, Nat.reduceMul, Nat.reduceSub, Nat.reduceBEq, Nat.reduceLeDiff, reduceCtorEq, Nat.reduceLT, ↓Br_true, ↓Br_false, bind, pure, sc10, sb10, hq]
theorem heldRoomN_cv (a b : Int) : CV Tryz.prog 10 [.agg [.f (.int .i8 a), .f (.int .i8 b), .f .nils], .f (.int .i64 1)] [] (fun v h => v = .f (.int .i64 1) ∧ h = []) := by
  have hq : decide ((1 : Int) < 0) = false := by decide
  refine cv_of_run 1000 sc10 sb10 12 [.tmp 4] tabOk (by kernel_rfl) Tryz.func10 rfl (by kernel_rfl) Tryz.ntmps10 rfl (by simp) rfl (by simp [bdL, SV.bd]) ?_
  simp (config := { maxSteps := 1000000 }) (disch := omega) only [go_sem, Int.reduceToNat, ↓reduceIte, Nat.reduceLT, Nat.reduceEqDiff, Nat.reduceAdd, Nat.reduceMul, Nat.reduceSub, Nat.reduceBEq, Nat.reduceLeDiff, reduceCtorEq, Nat.reduceLT, ↓Br_true, ↓Br_false, bind, pure, sc10, sb10]
  (have cc := heldWindowN_cv 1; (first | ((first | refine callR (by rfl) (by rfl) (by rfl) cc ?_ | refine callM (by rfl) (by rfl) (by rfl) cc ?_ | refine callMo (by rfl) (by rfl) (by rfl) cc ?_); clear cc; rintro _ _ ⟨rfl, rfl⟩) | (refine callE (by rfl) cc (by rfl) ?_; clear cc)))
  simp (config := { maxSteps := 1000000 }) (disch := omega) only [go_sem, Int.reduceToNat, ↓reduceIte, Nat.reduceLT, Nat.reduceEqDiff, Nat.reduceAdd, Nat.reduceMul, Nat.reduceSub, Nat.reduceBEq, Nat.reduceLeDiff, reduceCtorEq, Nat.reduceLT, ↓Br_true, ↓Br_false, bind, pure, sc10, sb10, hq]
end Go.Proofs.YtpcnpmhpelbndaaGreatDoor.Vx
