/- Slices of whole numbers as answers, in the abstract: their sameness, marks, what is held. -/
import Derived.Test.YtdncopphjamilaaRse
import Derived.Test.YtdncopphjamilaaRsm
namespace Go.Proofs.Ytdncopphjamilaa.Vx
open Go Go.RowKit Fl
set_option maxRecDepth 100000
set_option maxHeartbeats 2000000
set_option linter.unusedSimpArgs false
set_option linter.unusedVariables false

theorem eqInt64S_cv (L : List Int) (m : Nat) (f g : Nat → List FV) (cap cap' : Nat) (hLm : L.length = m) (hf : IntAt L f) (hg : IntAt L g) (h1 : m ≤ cap) (h2 : m ≤ cap') (hL : m ≤ 1048576) :
    CV Try.prog 14 [.slc 0 0 m cap, .slc 1 0 m cap'] [.rows m cap 1 f false, .rows m cap' 1 g false] (fun v h => v = .f (.bool true) ∧ h = [.rows m cap 1 f false, .rows m cap' 1 g false]) := by
  refine cv_of_run 1000 sc14 sb14 26 [.tmp 4] tabOk (by kernel_rfl) Try.func14 rfl (by kernel_rfl) Try.ntmps14 rfl (by simp) rfl (by simp [bdL, SV.bd]) ?_
  simp (config := { maxSteps := 1000000 }) (disch := omega) only [go_sem, Int.reduceToNat, ↓reduceIte, Nat.reduceLT, Nat.reduceEqDiff, Nat.reduceAdd, Nat.reduceMul, Nat.reduceSub, Nat.reduceBEq, Nat.reduceLeDiff, reduceCtorEq, Nat.reduceLT, ↓Br_true, ↓Br_false, bind, pure, sc14, sb14]
  refine ⟨Nat, fun k => k ≤ m, fun k => m - k, fun k => [(0, .slc 0 0 m cap), (1, .slc 1 0 m cap'), (5, .f (.int .i64 k))], fun _ => [.rows m cap 1 f false, .rows m cap' 1 g false], 0, (by intro _; simp), ?_, (by (try refine Or.inl ?_); simp [Cov, covE, covH, cb_dead, cb_lit, cb_rows, cb_cells, cd_lit, cd_rows, cd_cells, cd_dead, covRow, look, SV.known, SV.bd, bdL, h1, h2] <;> omega), ?_⟩
  · omega
  · intro k hk
    by_cases hlt : k < m
    · have hd : decide ((k : Int) < m) = true := decide_eq_true (by omega)
      have e1 := hf k (by omega)
      have e2 := hg k (by omega)
      simp (config := { maxSteps := 1000000 }) (disch := omega) only [go_sem, Int.reduceToNat, ↓reduceIte, Nat.reduceLT, Nat.reduceEqDiff, Nat.reduceAdd, Nat.reduceMul, Nat.reduceSub, Nat.reduceBEq, Nat.reduceLeDiff, reduceCtorEq, Nat.reduceLT, ↓Br_true, ↓Br_false, bind, pure, sc14, sb14, hd, e1, e2]
      repeat' (first | (with_reducible refine And.intro (by first | (unfold SOk; kernel_rfl) | (unfold SBOk; kernel_rfl) | (with_reducible assumption) | omega | assumption) ?_) | (with_reducible refine Br_intro (fun hc => ?_) (fun hc => ?_)) | ((with_reducible show WidN _ _ _ _ _ _ _ _); (first | refine widL (by decide) (by with_reducible assumption) ?_ | refine widL (by decide) (FWok_nn (by with_reducible assumption)) ?_ | refine widN (by decide) (fun c hc => ?_)); simp (config := { maxSteps := 1000000 }) (disch := omega) only [go_sem, Int.reduceToNat, ↓reduceIte, Nat.reduceLT, Nat.reduceEqDiff, Nat.reduceAdd, Nat.reduceMul, Nat.reduceSub, Nat.reduceBEq, Nat.reduceLeDiff, reduceCtorEq, Nat.reduceLT, ↓Br_true, ↓Br_false, bind, pure, sc14, sb14]))
      exact ⟨k + 1, by omega, by omega, by (try refine Or.inl ?_); simp [Cov, covE, covH, cb_dead, cb_lit, cb_rows, cb_cells, cd_lit, cd_rows, cd_cells, cd_dead, covRow, look, SV.known, SV.bd, bdL, h1, h2] <;> omega⟩
    · have hd : decide ((k : Int) < m) = false := decide_eq_false (by omega)
      simp (config := { maxSteps := 1000000 }) (disch := omega) only [go_sem, Int.reduceToNat, ↓reduceIte, Nat.reduceLT, Nat.reduceEqDiff, Nat.reduceAdd, Nat.reduceMul, Nat.reduceSub, Nat.reduceBEq, Nat.reduceLeDiff, reduceCtorEq, Nat.reduceLT, ↓Br_true, ↓Br_false, bind, pure, sc14, sb14, hd]
theorem eqInt64NS_cv (g : Nat → List FV) (cap : Nat) : CV Try.prog 14 [.f .nils, .slc 0 0 0 cap] [.rows 0 cap 1 g false] (fun v h => v = .f (.bool true) ∧ h = [.rows 0 cap 1 g false]) := by
  have e0 : ((0 : Nat) : Int) = 0 := rfl
  refine cv_of_run 1000 sc14 sb14 26 [.tmp 4] tabOk (by kernel_rfl) Try.func14 rfl (by kernel_rfl) Try.ntmps14 rfl (by simp) rfl (by simp [bdL, SV.bd]) ?_
  simp (config := { maxSteps := 1000000 }) (disch := omega) only [go_sem, Int.reduceToNat, ↓reduceIte, Nat.reduceLT, Nat.reduceEqDiff, Nat.reduceAdd, Nat.reduceMul, Nat.reduceSub, Nat.reduceBEq, Nat.reduceLeDiff, reduceCtorEq, Nat.reduceLT, ↓Br_true, ↓Br_false, bind, pure, sc14, sb14, e0]
  refine ⟨Unit, fun _ => True, fun _ => 0, fun _ => [(0, .f .nils), (5, .f (.int .i64 0))], fun _ => [.rows 0 cap 1 g false], (), (by intro _; simp), ?_, (by (try refine Or.inl ?_); simp [Cov, covE, covH, cb_dead, cb_lit, cb_rows, cb_cells, cd_lit, cd_rows, cd_cells, cd_dead, covRow, look, SV.known, SV.bd, bdL] <;> omega), ?_⟩
  · trivial
  · intro _ _
    simp (config := { maxSteps := 1000000 }) (disch := omega) only [go_sem, Int.reduceToNat, ↓reduceIte, Nat.reduceLT, Nat.reduceEqDiff, Nat.reduceAdd, Nat.reduceMul, Nat.reduceSub, Nat.reduceBEq, Nat.reduceLeDiff, reduceCtorEq, Nat.reduceLT, ↓Br_true, ↓Br_false, bind, pure, sc14, sb14, Int.lt_irrefl]
def mkI (i : Nat) : List FV := [.int .i64 (1 + (i : Int))]
theorem markInt64S_cv (n : Nat) (f : Nat → List FV) (cap : Nat) (h1 : n ≤ cap) (hL : n ≤ 1048576) (hf : ∀ i, i < n → (f i).length = 1) :
    CV Try.prog 21 [.slc 0 0 n cap, .f (.int .i64 1)] [.rows n cap 1 f true] (fun v h => v = .f (.int .i64 (1 + n)) ∧ ∃ f', (∀ i, i < n → f' i = mkI i) ∧ h = [.rows n cap 1 f' true]) := by
  refine cv_of_run 1000 sc21 sb21 19 [.tmp 4] tabOk (by kernel_rfl) Try.func21 rfl (by kernel_rfl) Try.ntmps21 rfl (by simp) rfl (by simp [bdL, SV.bd]) ?_
  simp (config := { maxSteps := 1000000 }) (disch := omega) only [go_sem, Int.reduceToNat, ↓reduceIte, Nat.reduceLT, Nat.reduceEqDiff, Nat.reduceAdd, Nat.reduceMul, Nat.reduceSub, Nat.reduceBEq, Nat.reduceLeDiff, reduceCtorEq, Nat.reduceLT, ↓Br_true, ↓Br_false, bind, pure, sc21, sb21]
  refine ⟨(Nat × (Nat → List FV)), fun s => s.1 ≤ n ∧ (∀ i, i < s.1 → s.2 i = mkI i) ∧ (∀ i, i < n → (s.2 i).length = 1), fun s => n - s.1, fun s => [(0, .slc 0 0 n cap), (1, .f (.int .i64 (1 + (s.1 : Int)))), (5, .f (.int .i64 s.1))], fun s => [.rows n cap 1 s.2 true], (0, f), (by intro _; simp), ?_, (by (try refine Or.inl ?_); simp [Cov, covE, covH, cb_dead, cb_lit, cb_rows, cb_cells, cd_lit, cd_rows, cd_cells, cd_dead, covRow, look, SV.known, SV.bd, bdL, h1] <;> omega), ?_⟩
  · exact ⟨by omega, fun i hi => by omega, hf⟩
  · rintro ⟨j, g⟩ ⟨hj, hg, hl⟩
    simp only at hj hg hl
    by_cases hlt : j < n
    · have hd : decide ((j : Int) < n) = true := decide_eq_true (by omega)
      simp (config := { maxSteps := 1000000 }) (disch := omega) only [go_sem, Int.reduceToNat, ↓reduceIte, Nat.reduceLT, Nat.reduceEqDiff, Nat.reduceAdd, Nat.reduceMul, Nat.reduceSub, Nat.reduceBEq, Nat.reduceLeDiff, reduceCtorEq, Nat.reduceLT, ↓Br_true, ↓Br_false, bind, pure, sc21, sb21, hd]
      repeat' (first | (with_reducible refine And.intro (by first | (unfold SOk; kernel_rfl) | (unfold SBOk; kernel_rfl) | (with_reducible assumption) | omega | assumption) ?_) | (with_reducible refine Br_intro (fun hc => ?_) (fun hc => ?_)) | ((with_reducible show WidN _ _ _ _ _ _ _ _); (first | refine widL (by decide) (by with_reducible assumption) ?_ | refine widL (by decide) (FWok_nn (by with_reducible assumption)) ?_ | refine widN (by decide) (fun c hc => ?_)); simp (config := { maxSteps := 1000000 }) (disch := omega) only [go_sem, Int.reduceToNat, ↓reduceIte, Nat.reduceLT, Nat.reduceEqDiff, Nat.reduceAdd, Nat.reduceMul, Nat.reduceSub, Nat.reduceBEq, Nat.reduceLeDiff, reduceCtorEq, Nat.reduceLT, ↓Br_true, ↓Br_false, bind, pure, sc21, sb21]))
      refine ⟨(j + 1, updR g j 0 (.int .i64 (1 + (j : Int)))), ⟨by omega, fun i hi => ?_, fun i hi => ?_⟩, by omega, by (try refine Or.inl ?_); simp [Cov, covE, covH, cb_dead, cb_lit, cb_rows, cb_cells, cd_lit, cd_rows, cd_cells, cd_dead, covRow, look, SV.known, SV.bd, bdL, h1, Int.add_assoc] <;> omega⟩
      · by_cases c : i = j
        · subst c
          have := hl i (by omega)
          simp only [updR, if_true]
          match hg' : g i, this with
          | [a], _ => rfl
        · simp only [updR, if_neg c]; exact hg i (by omega)
      · by_cases c : i = j
        · subst c
          simp only [updR, if_true, rset_eq, List.length_set]
          exact hl i hi
        · simp only [updR, if_neg c]; exact hl i hi
    · have hd : decide ((j : Int) < n) = false := decide_eq_false (by omega)
      simp (config := { maxSteps := 1000000 }) (disch := omega) only [go_sem, Int.reduceToNat, ↓reduceIte, Nat.reduceLT, Nat.reduceEqDiff, Nat.reduceAdd, Nat.reduceMul, Nat.reduceSub, Nat.reduceBEq, Nat.reduceLeDiff, reduceCtorEq, Nat.reduceLT, ↓Br_true, ↓Br_false, bind, pure, sc21, sb21, hd]
      obtain rfl : j = n := by omega
      exact ⟨rfl, g, hg, rfl⟩
theorem heldInt64S_cv (n : Nat) (f : Nat → List FV) (cap : Nat) (h1 : n ≤ cap) (hL : n ≤ 8) (hf : ∀ i, i < n → f i = mkI i) :
    CV Try.prog 22 [.slc 0 0 n cap, .f (.int .i64 1)] [.rows n cap 1 f false] (fun v h => v = .f (.int .i64 (1 + n)) ∧ h = [.rows n cap 1 f false]) := by
  refine cv_of_run 1000 sc22 sb22 21 [.tmp 4] tabOk (by kernel_rfl) Try.func22 rfl (by kernel_rfl) Try.ntmps22 rfl (by simp) rfl (by simp [bdL, SV.bd]) ?_
  simp (config := { maxSteps := 1000000 }) (disch := omega) only [go_sem, Int.reduceToNat, ↓reduceIte, Nat.reduceLT, Nat.reduceEqDiff, Nat.reduceAdd, Nat.reduceMul, Nat.reduceSub, Nat.reduceBEq, Nat.reduceLeDiff, reduceCtorEq, Nat.reduceLT, ↓Br_true, ↓Br_false, bind, pure, sc22, sb22]
  refine ⟨Nat, fun j => j ≤ n, fun j => n - j, fun j => [(0, .slc 0 0 n cap), (1, .f (.int .i64 (1 + (j : Int)))), (5, .f (.int .i64 j))], fun _ => [.rows n cap 1 f false], 0, (by intro _; simp), ?_, (by (try refine Or.inl ?_); simp [Cov, covE, covH, cb_dead, cb_lit, cb_rows, cb_cells, cd_lit, cd_rows, cd_cells, cd_dead, covRow, look, SV.known, SV.bd, bdL, h1] <;> omega), ?_⟩
  · omega
  · intro j hj
    by_cases hlt : j < n
    · have hd : decide ((j : Int) < n) = true := decide_eq_true (by omega)
      have e1 := hf j hlt
      simp only [mkI] at e1
      simp (config := { maxSteps := 1000000 }) (disch := omega) only [go_sem, Int.reduceToNat, ↓reduceIte, Nat.reduceLT, Nat.reduceEqDiff, Nat.reduceAdd, Nat.reduceMul, Nat.reduceSub, Nat.reduceBEq, Nat.reduceLeDiff, reduceCtorEq, Nat.reduceLT, ↓Br_true, ↓Br_false, bind, pure, sc22, sb22, hd, e1]
      repeat' (first | (with_reducible refine And.intro (by first | (unfold SOk; kernel_rfl) | (unfold SBOk; kernel_rfl) | (with_reducible assumption) | omega | assumption) ?_) | (with_reducible refine Br_intro (fun hc => ?_) (fun hc => ?_)) | ((with_reducible show WidN _ _ _ _ _ _ _ _); (first | refine widL (by decide) (by with_reducible assumption) ?_ | refine widL (by decide) (FWok_nn (by with_reducible assumption)) ?_ | refine widN (by decide) (fun c hc => ?_)); simp (config := { maxSteps := 1000000 }) (disch := omega) only [go_sem, Int.reduceToNat, ↓reduceIte, Nat.reduceLT, Nat.reduceEqDiff, Nat.reduceAdd, Nat.reduceMul, Nat.reduceSub, Nat.reduceBEq, Nat.reduceLeDiff, reduceCtorEq, Nat.reduceLT, ↓Br_true, ↓Br_false, bind, pure, sc22, sb22, hd, e1]))
      all_goals exact ⟨j + 1, by omega, by omega, by (try refine Or.inl ?_); simp [Cov, covE, covH, cb_dead, cb_lit, cb_rows, cb_cells, cd_lit, cd_rows, cd_cells, cd_dead, covRow, look, SV.known, SV.bd, bdL, h1, Int.add_assoc] <;> omega⟩
    · have hd : decide ((j : Int) < n) = false := decide_eq_false (by omega)
      simp (config := { maxSteps := 1000000 }) (disch := omega) only [go_sem, Int.reduceToNat, ↓reduceIte, Nat.reduceLT, Nat.reduceEqDiff, Nat.reduceAdd, Nat.reduceMul, Nat.reduceSub, Nat.reduceBEq, Nat.reduceLeDiff, reduceCtorEq, Nat.reduceLT, ↓Br_true, ↓Br_false, bind, pure, sc22, sb22, hd]
      obtain rfl : j = n := by omega
      rfl
theorem markInt64N_cv (k : Int) : CV Try.prog 21 [.f .nils, .f (.int .i64 k)] [] (fun v h => v = .f (.int .i64 k) ∧ h = []) := by
  refine cv_of_run 1000 sc21 sb21 19 [.tmp 4] tabOk (by kernel_rfl) Try.func21 rfl (by kernel_rfl) Try.ntmps21 rfl (by simp) rfl (by simp [bdL, SV.bd]) ?_
  simp (config := { maxSteps := 1000000 }) (disch := omega) only [go_sem, Int.reduceToNat, ↓reduceIte, Nat.reduceLT, Nat.reduceEqDiff, Nat.reduceAdd, Nat.reduceMul, Nat.reduceSub, Nat.reduceBEq, Nat.reduceLeDiff, reduceCtorEq, Nat.reduceLT, ↓Br_true, ↓Br_false, bind, pure, sc21, sb21]
  refine ⟨Unit, fun _ => True, fun _ => 0, fun _ => [(0, .f .nils), (1, .f (.int .i64 k)), (5, .f (.int .i64 0))], fun _ => [], (), (by intro _; simp), ?_, (by (try refine Or.inl ?_); simp [Cov, covE, covH, cb_dead, cb_lit, cb_rows, cb_cells, cd_lit, cd_rows, cd_cells, cd_dead, covRow, look, SV.known, SV.bd, bdL] <;> omega), ?_⟩
  · trivial
  · intro _ _
    simp (config := { maxSteps := 1000000 }) (disch := omega) only [go_sem, Int.reduceToNat, ↓reduceIte, Nat.reduceLT, Nat.reduceEqDiff, Nat.reduceAdd, Nat.reduceMul, Nat.reduceSub, Nat.reduceBEq, Nat.reduceLeDiff, reduceCtorEq, Nat.reduceLT, ↓Br_true, ↓Br_false, bind, pure, sc21, sb21, Int.lt_irrefl]
theorem heldInt64N_cv (k : Int) : CV Try.prog 22 [.f .nils, .f (.int .i64 k)] [] (fun v h => v = .f (.int .i64 k) ∧ h = []) := by
  refine cv_of_run 1000 sc22 sb22 21 [.tmp 4] tabOk (by kernel_rfl) Try.func22 rfl (by kernel_rfl) Try.ntmps22 rfl (by simp) rfl (by simp [bdL, SV.bd]) ?_
  simp (config := { maxSteps := 1000000 }) (disch := omega) only [go_sem, Int.reduceToNat, ↓reduceIte, Nat.reduceLT, Nat.reduceEqDiff, Nat.reduceAdd, Nat.reduceMul, Nat.reduceSub, Nat.reduceBEq, Nat.reduceLeDiff, reduceCtorEq, Nat.reduceLT, ↓Br_true, ↓Br_false, bind, pure, sc22, sb22]
  refine ⟨Unit, fun _ => True, fun _ => 0, fun _ => [(0, .f .nils), (1, .f (.int .i64 k)), (5, .f (.int .i64 0))], fun _ => [], (), (by intro _; simp), ?_, (by (try refine Or.inl ?_); simp [Cov, covE, covH, cb_dead, cb_lit, cb_rows, cb_cells, cd_lit, cd_rows, cd_cells, cd_dead, covRow, look, SV.known, SV.bd, bdL] <;> omega), ?_⟩
  · trivial
  · intro _ _
    simp (config := { maxSteps := 1000000 }) (disch := omega) only [go_sem, Int.reduceToNat, ↓reduceIte, Nat.reduceLT, Nat.reduceEqDiff, Nat.reduceAdd, Nat.reduceMul, Nat.reduceSub, Nat.reduceBEq, Nat.reduceLeDiff, reduceCtorEq, Nat.reduceLT, ↓Br_true, ↓Br_false, bind, pure, sc22, sb22, Int.lt_irrefl]
end Go.Proofs.Ytdncopphjamilaa.Vx
