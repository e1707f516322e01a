/- Rooms, in the abstract: slices of tiles as answers: their sameness, marks, what is held. -/
import Derived.Test.YtgepaaakleomeabRt
import Derived.Test.YtgepaaakleomeabRe
namespace Go.Proofs.Ytgepaaakleomeab.Vx
open Go Go.RowKit Fl
set_option maxRecDepth 100000
set_option maxHeartbeats 2000000
set_option linter.unusedSimpArgs false
set_option linter.unusedVariables false

theorem eqTileS_cv (L : List (Int × Int)) (f g : Nat → List FV) (cap cap' : Nat) (hf : TilAt L f) (hg : TilAt L g) (h1 : L.length ≤ cap) (h2 : L.length ≤ cap') (hL : L.length ≤ 1048576) :
    CV Try.prog 46 [.slc 0 0 L.length cap, .slc 1 0 L.length cap'] [.rows L.length cap 2 f false, .rows L.length cap' 2 g false] (fun v h => v = .f (.bool true) ∧ h = [.rows L.length cap 2 f false, .rows L.length cap' 2 g false]) := by
  have ce : ∀ p : Int × Int, CV Try.prog 81 [tilV p, tilV p] [] (fun v h => v = .f (.bool true) ∧ h = []) := by
    intro p
    refine cv_of_run 1000 sc81 sb81 15 [.tmp 4] tabOk (by kernel_rfl) Try.func81 rfl (by kernel_rfl) Try.ntmps81 rfl (by simp) rfl (by simp [bdL, SV.bd]) ?_
    simp (config := { maxSteps := 1000000 }) (disch := omega) only [go_sem, Int.reduceToNat, ↓reduceIte, Nat.reduceLT, Nat.reduceEqDiff, Nat.reduceAdd, Nat.reduceMul, Nat.reduceSub, Nat.reduceBEq, Nat.reduceLeDiff, reduceCtorEq, Nat.reduceLT, ↓Br_true, ↓Br_false, bind, pure, sc81, sb81]
  refine cv_of_run 1000 sc46 sb46 27 [.tmp 4] tabOk (by kernel_rfl) Try.func46 rfl (by kernel_rfl) Try.ntmps46 rfl (by simp) rfl (by simp [bdL, SV.bd]) ?_
  simp (config := { maxSteps := 1000000 }) (disch := omega) only [go_sem, Int.reduceToNat, ↓reduceIte, Nat.reduceLT, Nat.reduceEqDiff, Nat.reduceAdd, Nat.reduceMul, Nat.reduceSub, Nat.reduceBEq, Nat.reduceLeDiff, reduceCtorEq, Nat.reduceLT, ↓Br_true, ↓Br_false, bind, pure, sc46, sb46]
  refine ⟨Nat, fun k => k ≤ L.length, fun k => L.length - k, fun k => [(0, .slc 0 0 L.length cap), (1, .slc 1 0 L.length cap'), (5, .f (.int .i64 k))], fun _ => [.rows L.length cap 2 f false, .rows L.length cap' 2 g false], 0, (by intro _; simp), ?_, (by (try refine Or.inl ?_); simp [Cov, covE, covH, cb_dead, cb_lit, cb_rows, cb_cells, cd_lit, cd_rows, cd_cells, cd_dead, covRow, look, SV.known, SV.bd, bdL, h1, h2] <;> omega), ?_⟩
  · omega
  · intro k hk
    by_cases hlt : k < L.length
    · have hd : decide ((k : Int) < L.length) = true := decide_eq_true (by omega)
      have e1 := hf k hlt
      have e2 := hg k hlt
      simp (config := { maxSteps := 1000000 }) (disch := omega) only [go_sem, Int.reduceToNat, ↓reduceIte, Nat.reduceLT, Nat.reduceEqDiff, Nat.reduceAdd, Nat.reduceMul, Nat.reduceSub, Nat.reduceBEq, Nat.reduceLeDiff, reduceCtorEq, Nat.reduceLT, ↓Br_true, ↓Br_false, bind, pure, sc46, sb46, hd, e1, e2]
      repeat' (first | (with_reducible refine And.intro (by first | (unfold SOk; kernel_rfl) | (unfold SBOk; kernel_rfl) | (with_reducible assumption) | omega | assumption) ?_) | (with_reducible refine Br_intro (fun hc => ?_) (fun hc => ?_)) | ((have cc := ce (tlN L k); (first | ((first | refine callR (by rfl) (by rfl) (by rfl) cc ?_ | refine callM (by rfl) (by rfl) (by rfl) cc ?_); clear cc; rintro _ _ ⟨rfl, rfl⟩) | (refine callE (by rfl) cc (by rfl) ?_; clear cc))); simp (config := { maxSteps := 1000000 }) (disch := omega) only [go_sem, Int.reduceToNat, ↓reduceIte, Nat.reduceLT, Nat.reduceEqDiff, Nat.reduceAdd, Nat.reduceMul, Nat.reduceSub, Nat.reduceBEq, Nat.reduceLeDiff, reduceCtorEq, Nat.reduceLT, ↓Br_true, ↓Br_false, bind, pure, sc46, sb46, hd, e1, e2]) | ((with_reducible show WidN _ _ _ _ _ _ _ _); (first | refine widL (by decide) (by with_reducible assumption) ?_ | refine widL (by decide) (FWok_nn (by with_reducible assumption)) ?_ | refine widN (by decide) (fun c hc => ?_)); simp (config := { maxSteps := 1000000 }) (disch := omega) only [go_sem, Int.reduceToNat, ↓reduceIte, Nat.reduceLT, Nat.reduceEqDiff, Nat.reduceAdd, Nat.reduceMul, Nat.reduceSub, Nat.reduceBEq, Nat.reduceLeDiff, reduceCtorEq, Nat.reduceLT, ↓Br_true, ↓Br_false, bind, pure, sc46, sb46, hd, e1, e2]))
      exact ⟨k + 1, by omega, by omega, by (try refine Or.inl ?_); simp [Cov, covE, covH, cb_dead, cb_lit, cb_rows, cb_cells, cd_lit, cd_rows, cd_cells, cd_dead, covRow, look, SV.known, SV.bd, bdL, h1, h2] <;> omega⟩
    · have hd : decide ((k : Int) < L.length) = false := decide_eq_false (by omega)
      simp (config := { maxSteps := 1000000 }) (disch := omega) only [go_sem, Int.reduceToNat, ↓reduceIte, Nat.reduceLT, Nat.reduceEqDiff, Nat.reduceAdd, Nat.reduceMul, Nat.reduceSub, Nat.reduceBEq, Nat.reduceLeDiff, reduceCtorEq, Nat.reduceLT, ↓Br_true, ↓Br_false, bind, pure, sc46, sb46, hd]
theorem eqTileNS_cv (g : Nat → List FV) (cap : Nat) : CV Try.prog 46 [.f .nils, .slc 0 0 0 cap] [.rows 0 cap 2 g false] (fun v h => v = .f (.bool true) ∧ h = [.rows 0 cap 2 g false]) := by
  have e0 : ((0 : Nat) : Int) = 0 := rfl
  refine cv_of_run 1000 sc46 sb46 27 [.tmp 4] tabOk (by kernel_rfl) Try.func46 rfl (by kernel_rfl) Try.ntmps46 rfl (by simp) rfl (by simp [bdL, SV.bd]) ?_
  simp (config := { maxSteps := 1000000 }) (disch := omega) only [go_sem, Int.reduceToNat, ↓reduceIte, Nat.reduceLT, Nat.reduceEqDiff, Nat.reduceAdd, Nat.reduceMul, Nat.reduceSub, Nat.reduceBEq, Nat.reduceLeDiff, reduceCtorEq, Nat.reduceLT, ↓Br_true, ↓Br_false, bind, pure, sc46, sb46, e0]
  refine ⟨Unit, fun _ => True, fun _ => 0, fun _ => [(0, .f .nils), (5, .f (.int .i64 0))], fun _ => [.rows 0 cap 2 g false], (), (by intro _; simp), ?_, (by (try refine Or.inl ?_); simp [Cov, covE, covH, cb_dead, cb_lit, cb_rows, cb_cells, cd_lit, cd_rows, cd_cells, cd_dead, covRow, look, SV.known, SV.bd, bdL] <;> omega), ?_⟩
  · trivial
  · intro _ _
    simp (config := { maxSteps := 1000000 }) (disch := omega) only [go_sem, Int.reduceToNat, ↓reduceIte, Nat.reduceLT, Nat.reduceEqDiff, Nat.reduceAdd, Nat.reduceMul, Nat.reduceSub, Nat.reduceBEq, Nat.reduceLeDiff, reduceCtorEq, Nat.reduceLT, ↓Br_true, ↓Br_false, bind, pure, sc46, sb46, Int.lt_irrefl]
def mkTl (i : Nat) : List FV := [.int .i8 (IntKind.i8.wrap (1 + 2 * (i : Int))), .int .i8 (IntKind.i8.wrap (1 + 2 * (i : Int) + 1))]
theorem markTileS_cv (n : Nat) (f : Nat → List FV) (cap : Nat) (h1 : n ≤ cap) (hL : n ≤ 1048576) (hf : ∀ i, i < n → (f i).length = 2) :
    CV Try.prog 47 [.slc 0 0 n cap, .f (.int .i64 1)] [.rows n cap 2 f true] (fun v h => v = .f (.int .i64 (1 + 2 * n)) ∧ ∃ f', (∀ i, i < n → f' i = mkTl i) ∧ h = [.rows n cap 2 f' true]) := by
  refine cv_of_run 1000 sc47 sb47 29 [.tmp 4] tabOk (by kernel_rfl) Try.func47 rfl (by kernel_rfl) Try.ntmps47 rfl (by simp) rfl (by simp [bdL, SV.bd]) ?_
  simp (config := { maxSteps := 1000000 }) (disch := omega) only [go_sem, Int.reduceToNat, ↓reduceIte, Nat.reduceLT, Nat.reduceEqDiff, Nat.reduceAdd, Nat.reduceMul, Nat.reduceSub, Nat.reduceBEq, Nat.reduceLeDiff, reduceCtorEq, Nat.reduceLT, ↓Br_true, ↓Br_false, bind, pure, sc47, sb47]
  refine ⟨(Nat × (Nat → List FV)), fun s => s.1 ≤ n ∧ (∀ i, i < s.1 → s.2 i = mkTl i) ∧ (∀ i, i < n → (s.2 i).length = 2), fun s => n - s.1, fun s => [(0, .slc 0 0 n cap), (1, .f (.int .i64 (1 + 2 * (s.1 : Int)))), (5, .f (.int .i64 s.1))], fun s => [.rows n cap 2 s.2 true], (0, f), (by intro _; simp), ?_, (by (try refine Or.inl ?_); simp [Cov, covE, covH, cb_dead, cb_lit, cb_rows, cb_cells, cd_lit, cd_rows, cd_cells, cd_dead, covRow, look, SV.known, SV.bd, bdL, h1] <;> omega), ?_⟩
  · exact ⟨by omega, fun i hi => by omega, hf⟩
  · rintro ⟨j, g⟩ ⟨hj, hg, hl⟩
    simp only at hj hg hl
    by_cases hlt : j < n
    · have hd : decide ((j : Int) < n) = true := decide_eq_true (by omega)
      simp (config := { maxSteps := 1000000 }) (disch := omega) only [go_sem, Int.reduceToNat, ↓reduceIte, Nat.reduceLT, Nat.reduceEqDiff, Nat.reduceAdd, Nat.reduceMul, Nat.reduceSub, Nat.reduceBEq, Nat.reduceLeDiff, reduceCtorEq, Nat.reduceLT, ↓Br_true, ↓Br_false, bind, pure, sc47, sb47, hd]
      repeat' (first | (with_reducible refine And.intro (by first | (unfold SOk; kernel_rfl) | (unfold SBOk; kernel_rfl) | (with_reducible assumption) | omega | assumption) ?_) | (with_reducible refine Br_intro (fun hc => ?_) (fun hc => ?_)) | ((with_reducible show WidN _ _ _ _ _ _ _ _); (first | refine widL (by decide) (by with_reducible assumption) ?_ | refine widL (by decide) (FWok_nn (by with_reducible assumption)) ?_ | refine widN (by decide) (fun c hc => ?_)); simp (config := { maxSteps := 1000000 }) (disch := omega) only [go_sem, Int.reduceToNat, ↓reduceIte, Nat.reduceLT, Nat.reduceEqDiff, Nat.reduceAdd, Nat.reduceMul, Nat.reduceSub, Nat.reduceBEq, Nat.reduceLeDiff, reduceCtorEq, Nat.reduceLT, ↓Br_true, ↓Br_false, bind, pure, sc47, sb47]))
      refine ⟨(j + 1, updR (updR g j 0 (.int .i8 (IntKind.i8.wrap (1 + 2 * (j : Int))))) j 1 (.int .i8 (IntKind.i8.wrap (1 + 2 * (j : Int) + 1)))), ⟨by omega, fun i hi => ?_, fun i hi => ?_⟩, by omega, by (try refine Or.inl ?_); simp [Cov, covE, covH, cb_dead, cb_lit, cb_rows, cb_cells, cd_lit, cd_rows, cd_cells, cd_dead, covRow, look, SV.known, SV.bd, bdL, h1] <;> omega⟩
      · by_cases c : i = j
        · subst c
          have := hl i (by omega)
          simp only [updR, if_true]
          match hg' : g i, this with
          | [a, b], _ => rfl
        · simp only [updR, if_neg c]; exact hg i (by omega)
      · by_cases c : i = j
        · subst c
          simp only [updR, if_true, rset_eq, List.length_set]
          exact hl i hi
        · simp only [updR, if_neg c]; exact hl i hi
    · have hd : decide ((j : Int) < n) = false := decide_eq_false (by omega)
      simp (config := { maxSteps := 1000000 }) (disch := omega) only [go_sem, Int.reduceToNat, ↓reduceIte, Nat.reduceLT, Nat.reduceEqDiff, Nat.reduceAdd, Nat.reduceMul, Nat.reduceSub, Nat.reduceBEq, Nat.reduceLeDiff, reduceCtorEq, Nat.reduceLT, ↓Br_true, ↓Br_false, bind, pure, sc47, sb47, hd]
      obtain rfl : j = n := by omega
      exact ⟨rfl, g, hg, rfl⟩
theorem heldTileS_cv (n : Nat) (f : Nat → List FV) (cap : Nat) (h1 : n ≤ cap) (hL : n ≤ 12) (hf : ∀ i, i < n → f i = mkTl i) :
    CV Try.prog 48 [.slc 0 0 n cap, .f (.int .i64 1)] [.rows n cap 2 f false] (fun v h => v = .f (.int .i64 (1 + 2 * n)) ∧ h = [.rows n cap 2 f false]) := by
  refine cv_of_run 1000 sc48 sb48 33 [.tmp 4] tabOk (by kernel_rfl) Try.func48 rfl (by kernel_rfl) Try.ntmps48 rfl (by simp) rfl (by simp [bdL, SV.bd]) ?_
  simp (config := { maxSteps := 1000000 }) (disch := omega) only [go_sem, Int.reduceToNat, ↓reduceIte, Nat.reduceLT, Nat.reduceEqDiff, Nat.reduceAdd, Nat.reduceMul, Nat.reduceSub, Nat.reduceBEq, Nat.reduceLeDiff, reduceCtorEq, Nat.reduceLT, ↓Br_true, ↓Br_false, bind, pure, sc48, sb48]
  refine ⟨Nat, fun j => j ≤ n, fun j => n - j, fun j => [(0, .slc 0 0 n cap), (1, .f (.int .i64 (1 + 2 * (j : Int)))), (5, .f (.int .i64 j))], fun _ => [.rows n cap 2 f false], 0, (by intro _; simp), ?_, (by (try refine Or.inl ?_); simp [Cov, covE, covH, cb_dead, cb_lit, cb_rows, cb_cells, cd_lit, cd_rows, cd_cells, cd_dead, covRow, look, SV.known, SV.bd, bdL, h1] <;> omega), ?_⟩
  · omega
  · intro j hj
    by_cases hlt : j < n
    · have hd : decide ((j : Int) < n) = true := decide_eq_true (by omega)
      have e1 := hf j hlt
      simp only [mkTl] at e1
      simp (config := { maxSteps := 1000000 }) (disch := omega) only [go_sem, Int.reduceToNat, ↓reduceIte, Nat.reduceLT, Nat.reduceEqDiff, Nat.reduceAdd, Nat.reduceMul, Nat.reduceSub, Nat.reduceBEq, Nat.reduceLeDiff, reduceCtorEq, Nat.reduceLT, ↓Br_true, ↓Br_false, bind, pure, sc48, sb48, hd, e1]
      repeat' (first | (with_reducible refine And.intro (by first | (unfold SOk; kernel_rfl) | (unfold SBOk; kernel_rfl) | (with_reducible assumption) | omega | assumption) ?_) | (with_reducible refine Br_intro (fun hc => ?_) (fun hc => ?_)) | ((with_reducible show WidN _ _ _ _ _ _ _ _); (first | refine widL (by decide) (by with_reducible assumption) ?_ | refine widL (by decide) (FWok_nn (by with_reducible assumption)) ?_ | refine widN (by decide) (fun c hc => ?_)); simp (config := { maxSteps := 1000000 }) (disch := omega) only [go_sem, Int.reduceToNat, ↓reduceIte, Nat.reduceLT, Nat.reduceEqDiff, Nat.reduceAdd, Nat.reduceMul, Nat.reduceSub, Nat.reduceBEq, Nat.reduceLeDiff, reduceCtorEq, Nat.reduceLT, ↓Br_true, ↓Br_false, bind, pure, sc48, sb48, hd, e1]))
      all_goals exact ⟨j + 1, by omega, by omega, by (try refine Or.inl ?_); simp [Cov, covE, covH, cb_dead, cb_lit, cb_rows, cb_cells, cd_lit, cd_rows, cd_cells, cd_dead, covRow, look, SV.known, SV.bd, bdL, h1] <;> omega⟩
    · have hd : decide ((j : Int) < n) = false := decide_eq_false (by omega)
      simp (config := { maxSteps := 1000000 }) (disch := omega) only [go_sem, Int.reduceToNat, ↓reduceIte, Nat.reduceLT, Nat.reduceEqDiff, Nat.reduceAdd, Nat.reduceMul, Nat.reduceSub, Nat.reduceBEq, Nat.reduceLeDiff, reduceCtorEq, Nat.reduceLT, ↓Br_true, ↓Br_false, bind, pure, sc48, sb48, hd]
      obtain rfl : j = n := by omega
      rfl
theorem markTileN_cv (k : Int) : CV Try.prog 47 [.f .nils, .f (.int .i64 k)] [] (fun v h => v = .f (.int .i64 k) ∧ h = []) := by
  refine cv_of_run 1000 sc47 sb47 29 [.tmp 4] tabOk (by kernel_rfl) Try.func47 rfl (by kernel_rfl) Try.ntmps47 rfl (by simp) rfl (by simp [bdL, SV.bd]) ?_
  simp (config := { maxSteps := 1000000 }) (disch := omega) only [go_sem, Int.reduceToNat, ↓reduceIte, Nat.reduceLT, Nat.reduceEqDiff, Nat.reduceAdd, Nat.reduceMul, Nat.reduceSub, Nat.reduceBEq, Nat.reduceLeDiff, reduceCtorEq, Nat.reduceLT, ↓Br_true, ↓Br_false, bind, pure, sc47, sb47]
  refine ⟨Unit, fun _ => True, fun _ => 0, fun _ => [(0, .f .nils), (1, .f (.int .i64 k)), (5, .f (.int .i64 0))], fun _ => [], (), (by intro _; simp), ?_, (by (try refine Or.inl ?_); simp [Cov, covE, covH, cb_dead, cb_lit, cb_rows, cb_cells, cd_lit, cd_rows, cd_cells, cd_dead, covRow, look, SV.known, SV.bd, bdL] <;> omega), ?_⟩
  · trivial
  · intro _ _
    simp (config := { maxSteps := 1000000 }) (disch := omega) only [go_sem, Int.reduceToNat, ↓reduceIte, Nat.reduceLT, Nat.reduceEqDiff, Nat.reduceAdd, Nat.reduceMul, Nat.reduceSub, Nat.reduceBEq, Nat.reduceLeDiff, reduceCtorEq, Nat.reduceLT, ↓Br_true, ↓Br_false, bind, pure, sc47, sb47, Int.lt_irrefl]
theorem heldTileN_cv (k : Int) : CV Try.prog 48 [.f .nils, .f (.int .i64 k)] [] (fun v h => v = .f (.int .i64 k) ∧ h = []) := by
  refine cv_of_run 1000 sc48 sb48 33 [.tmp 4] tabOk (by kernel_rfl) Try.func48 rfl (by kernel_rfl) Try.ntmps48 rfl (by simp) rfl (by simp [bdL, SV.bd]) ?_
  simp (config := { maxSteps := 1000000 }) (disch := omega) only [go_sem, Int.reduceToNat, ↓reduceIte, Nat.reduceLT, Nat.reduceEqDiff, Nat.reduceAdd, Nat.reduceMul, Nat.reduceSub, Nat.reduceBEq, Nat.reduceLeDiff, reduceCtorEq, Nat.reduceLT, ↓Br_true, ↓Br_false, bind, pure, sc48, sb48]
  refine ⟨Unit, fun _ => True, fun _ => 0, fun _ => [(0, .f .nils), (1, .f (.int .i64 k)), (5, .f (.int .i64 0))], fun _ => [], (), (by intro _; simp), ?_, (by (try refine Or.inl ?_); simp [Cov, covE, covH, cb_dead, cb_lit, cb_rows, cb_cells, cd_lit, cd_rows, cd_cells, cd_dead, covRow, look, SV.known, SV.bd, bdL] <;> omega), ?_⟩
  · trivial
  · intro _ _
    simp (config := { maxSteps := 1000000 }) (disch := omega) only [go_sem, Int.reduceToNat, ↓reduceIte, Nat.reduceLT, Nat.reduceEqDiff, Nat.reduceAdd, Nat.reduceMul, Nat.reduceSub, Nat.reduceBEq, Nat.reduceLeDiff, reduceCtorEq, Nat.reduceLT, ↓Br_true, ↓Br_false, bind, pure, sc48, sb48, Int.lt_irrefl]
end Go.Proofs.Ytgepaaakleomeab.Vx
