/- Slices of bits as answers, in the abstract: their sameness, marks, what is held. -/
import Derived.Test.YtdncopphjamilaaRk
import Derived.Test.YtdncopphjamilaaRe
namespace Go.Proofs.Ytdncopphjamilaa.Vx
open Go Go.RowKit Fl
set_option maxRecDepth 100000
set_option maxHeartbeats 2000000
set_option linter.unusedSimpArgs false
set_option linter.unusedVariables false

def U16At (B : Nat → Int) (m : Nat) (u : Nat → List FV) : Prop := ∀ j, j < m → u j = [.int .u16 (B j)]
theorem markDeskS_cv (n : Nat) (f : Nat → List FV) (cap : Nat) (k : Int) (h1 : n ≤ cap) (hL : n ≤ 1048576) (hk1 : 0 ≤ k) (hk2 : k ≤ 100000000) (hf : ∀ i, i < n → (f i).length = 3) :
    CV Try.prog 19 [.slc 0 0 n cap, .f (.int .i64 k)] [.rows n cap 3 f true] (fun v h => v = .f (.int .i64 (k + 3 * n)) ∧ ∃ f', (∀ i, i < n → (f' i).length = 3) ∧ h = [.rows n cap 3 f' true]) := by
  refine cv_of_run 1000 sc19 sb19 39 [.tmp 4] tabOk (by kernel_rfl) Try.func19 rfl (by kernel_rfl) Try.ntmps19 rfl (by simp) rfl (by simp [bdL, SV.bd]) ?_
  simp (config := { maxSteps := 1000000 }) (disch := omega) only [go_sem, Int.reduceToNat, ↓reduceIte, Nat.reduceLT, Nat.reduceEqDiff, Nat.reduceAdd, Nat.reduceMul, Nat.reduceSub, Nat.reduceBEq, Nat.reduceLeDiff, reduceCtorEq, Nat.reduceLT, ↓Br_true, ↓Br_false, bind, pure, sc19, sb19]
  refine ⟨(Nat × (Nat → List FV)), fun s => s.1 ≤ n ∧ (∀ i, i < n → (s.2 i).length = 3), fun s => n - s.1, fun s => [(0, .slc 0 0 n cap), (1, .f (.int .i64 (k + 3 * (s.1 : Int)))), (5, .f (.int .i64 s.1))], fun s => [.rows n cap 3 s.2 true], (0, f), (by intro _; simp), ?_, (by (try refine Or.inl ?_); simp [Cov, covE, covH, cb_dead, cb_lit, cb_rows, cb_cells, cd_lit, cd_rows, cd_cells, cd_dead, covRow, look, SV.known, SV.bd, bdL, h1] <;> omega), ?_⟩
  · exact ⟨by omega, hf⟩
  · rintro ⟨j, g⟩ ⟨hj, hl⟩
    simp only at hj hl
    by_cases hlt : j < n
    · have hd : decide ((j : Int) < n) = true := decide_eq_true (by omega)
      simp (config := { maxSteps := 1000000 }) (disch := omega) only [go_sem, Int.reduceToNat, ↓reduceIte, Nat.reduceLT, Nat.reduceEqDiff, Nat.reduceAdd, Nat.reduceMul, Nat.reduceSub, Nat.reduceBEq, Nat.reduceLeDiff, reduceCtorEq, Nat.reduceLT, ↓Br_true, ↓Br_false, bind, pure, sc19, sb19, hd]
      repeat' (first | (with_reducible refine And.intro (by first | (unfold SOk; kernel_rfl) | (unfold SBOk; kernel_rfl) | (with_reducible assumption) | omega | assumption) ?_) | (with_reducible refine Br_intro (fun hc => ?_) (fun hc => ?_)) | ((with_reducible show WidN _ _ _ _ _ _ _ _); (first | refine widL (by decide) (by with_reducible assumption) ?_ | refine widL (by decide) (FWok_nn (by with_reducible assumption)) ?_ | refine widN (by decide) (fun c hc => ?_)); simp (config := { maxSteps := 1000000 }) (disch := omega) only [go_sem, Int.reduceToNat, ↓reduceIte, Nat.reduceLT, Nat.reduceEqDiff, Nat.reduceAdd, Nat.reduceMul, Nat.reduceSub, Nat.reduceBEq, Nat.reduceLeDiff, reduceCtorEq, Nat.reduceLT, ↓Br_true, ↓Br_false, bind, pure, sc19, sb19]))
      refine ⟨(j + 1, updR (updR (updR g j 0 (.int .i8 (IntKind.i8.wrap (k + 3 * (j : Int))))) j 1 (.int .i8 (IntKind.i8.wrap (k + 3 * (j : Int) + 1)))) j 2 (.int .i8 (IntKind.i8.wrap (k + 3 * (j : Int) + 1 + 1)))), ⟨by omega, fun i hi => ?_⟩, by omega, by (try refine Or.inl ?_); simp [Cov, covE, covH, cb_dead, cb_lit, cb_rows, cb_cells, cd_lit, cd_rows, cd_cells, cd_dead, covRow, look, SV.known, SV.bd, bdL, h1] <;> omega⟩
      by_cases c : i = j
      · subst c
        simp only [updR, if_true, rset_eq, List.length_set]
        exact hl i hi
      · simp only [updR, if_neg c]; exact hl i hi
    · have hd : decide ((j : Int) < n) = false := decide_eq_false (by omega)
      simp (config := { maxSteps := 1000000 }) (disch := omega) only [go_sem, Int.reduceToNat, ↓reduceIte, Nat.reduceLT, Nat.reduceEqDiff, Nat.reduceAdd, Nat.reduceMul, Nat.reduceSub, Nat.reduceBEq, Nat.reduceLeDiff, reduceCtorEq, Nat.reduceLT, ↓Br_true, ↓Br_false, bind, pure, sc19, sb19, hd]
      obtain rfl : j = n := by omega
      exact ⟨rfl, g, hl, rfl⟩
theorem markPersonS_cv (n : Nat) (f : Nat → List FV) (cap : Nat) (k : Int) (h1 : n ≤ cap) (hL : n ≤ 1048576) (hk1 : 0 ≤ k) (hk2 : k ≤ 100000000) (hf : ∀ i, i < n → (f i).length = 3) :
    CV Try.prog 20 [.slc 0 0 n cap, .f (.int .i64 k)] [.rows n cap 3 f true] (fun v h => v = .f (.int .i64 (k + 3 * n)) ∧ ∃ f', (∀ i, i < n → (f' i).length = 3) ∧ h = [.rows n cap 3 f' true]) := by
  refine cv_of_run 1000 sc20 sb20 37 [.tmp 4] tabOk (by kernel_rfl) Try.func20 rfl (by kernel_rfl) Try.ntmps20 rfl (by simp) rfl (by simp [bdL, SV.bd]) ?_
  simp (config := { maxSteps := 1000000 }) (disch := omega) only [go_sem, Int.reduceToNat, ↓reduceIte, Nat.reduceLT, Nat.reduceEqDiff, Nat.reduceAdd, Nat.reduceMul, Nat.reduceSub, Nat.reduceBEq, Nat.reduceLeDiff, reduceCtorEq, Nat.reduceLT, ↓Br_true, ↓Br_false, bind, pure, sc20, sb20]
  refine ⟨(Nat × (Nat → List FV)), fun s => s.1 ≤ n ∧ (∀ i, i < n → (s.2 i).length = 3), fun s => n - s.1, fun s => [(0, .slc 0 0 n cap), (1, .f (.int .i64 (k + 3 * (s.1 : Int)))), (5, .f (.int .i64 s.1))], fun s => [.rows n cap 3 s.2 true], (0, f), (by intro _; simp), ?_, (by (try refine Or.inl ?_); simp [Cov, covE, covH, cb_dead, cb_lit, cb_rows, cb_cells, cd_lit, cd_rows, cd_cells, cd_dead, covRow, look, SV.known, SV.bd, bdL, h1] <;> omega), ?_⟩
  · exact ⟨by omega, hf⟩
  · rintro ⟨j, g⟩ ⟨hj, hl⟩
    simp only at hj hl
    by_cases hlt : j < n
    · have hd : decide ((j : Int) < n) = true := decide_eq_true (by omega)
      simp (config := { maxSteps := 1000000 }) (disch := omega) only [go_sem, Int.reduceToNat, ↓reduceIte, Nat.reduceLT, Nat.reduceEqDiff, Nat.reduceAdd, Nat.reduceMul, Nat.reduceSub, Nat.reduceBEq, Nat.reduceLeDiff, reduceCtorEq, Nat.reduceLT, ↓Br_true, ↓Br_false, bind, pure, sc20, sb20, hd]
      repeat' (first | (with_reducible refine And.intro (by first | (unfold SOk; kernel_rfl) | (unfold SBOk; kernel_rfl) | (with_reducible assumption) | omega | assumption) ?_) | (with_reducible refine Br_intro (fun hc => ?_) (fun hc => ?_)) | ((with_reducible show WidN _ _ _ _ _ _ _ _); (first | refine widL (by decide) (by with_reducible assumption) ?_ | refine widL (by decide) (FWok_nn (by with_reducible assumption)) ?_ | refine widN (by decide) (fun c hc => ?_)); simp (config := { maxSteps := 1000000 }) (disch := omega) only [go_sem, Int.reduceToNat, ↓reduceIte, Nat.reduceLT, Nat.reduceEqDiff, Nat.reduceAdd, Nat.reduceMul, Nat.reduceSub, Nat.reduceBEq, Nat.reduceLeDiff, reduceCtorEq, Nat.reduceLT, ↓Br_true, ↓Br_false, bind, pure, sc20, sb20]))
      refine ⟨(j + 1, updR (updR (updR g j 0 (.flt .f32 (fofInt (k + 3 * (j : Int))))) j 1 (.flt .f32 (fofInt (k + 3 * (j : Int) + 1)))) j 2 (.flt .f32 (fofInt (k + 3 * (j : Int) + 1 + 1)))), ⟨by omega, fun i hi => ?_⟩, by omega, by (try refine Or.inl ?_); simp [Cov, covE, covH, cb_dead, cb_lit, cb_rows, cb_cells, cd_lit, cd_rows, cd_cells, cd_dead, covRow, look, SV.known, SV.bd, bdL, h1] <;> omega⟩
      by_cases c : i = j
      · subst c
        simp only [updR, if_true, rset_eq, List.length_set]
        exact hl i hi
      · simp only [updR, if_neg c]; exact hl i hi
    · have hd : decide ((j : Int) < n) = false := decide_eq_false (by omega)
      simp (config := { maxSteps := 1000000 }) (disch := omega) only [go_sem, Int.reduceToNat, ↓reduceIte, Nat.reduceLT, Nat.reduceEqDiff, Nat.reduceAdd, Nat.reduceMul, Nat.reduceSub, Nat.reduceBEq, Nat.reduceLeDiff, reduceCtorEq, Nat.reduceLT, ↓Br_true, ↓Br_false, bind, pure, sc20, sb20, hd]
      obtain rfl : j = n := by omega
      exact ⟨rfl, g, hl, rfl⟩
end Go.Proofs.Ytdncopphjamilaa.Vx
