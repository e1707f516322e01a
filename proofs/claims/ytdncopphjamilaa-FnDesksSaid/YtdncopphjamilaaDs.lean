/- Lists that are told equal, in the abstract. -/
import Derived.Test.YtdncopphjamilaaDq
import Derived.Test.YtdncopphjamilaaDc
import Derived.Test.YtdncopphjamilaaRsf
import Derived.Test.YtdncopphjamilaaRga
namespace Go.Proofs.Ytdncopphjamilaa.Vx
set_option linter.unusedSimpArgs false
set_option linter.unusedVariables false
open Go Go.RowKit Fl
set_option maxRecDepth 100000
set_option maxHeartbeats 2000000
set_option linter.unusedSimpArgs false
set_option linter.unusedVariables false

theorem SameBits_cv (B : Nat → Int) (m c1 c2 : Nat) (u v : Nat → List FV) (hu : BitsAt B m u) (hv : BitsAt B m v) (h1 : m ≤ c1) (h2 : m ≤ c2) (hm : m ≤ 1048576) :
    CV Try.prog 32 [.slc 0 0 m c1, .slc 1 0 m c2] [.rows m c1 1 u false, .rows m c2 1 v false] (fun w h => w = .f (.bool true) ∧ h = [.rows m c1 1 u false, .rows m c2 1 v false]) := by
  refine cv_of_run 1000 sc32 sb32 26 [.tmp 4] tabOk (by kernel_rfl) Try.func32 rfl (by kernel_rfl) Try.ntmps32 rfl (by simp) rfl (by simp [bdL, SV.bd]) ?_
  simp (config := { maxSteps := 1000000 }) (disch := omega) only [go_sem, Int.reduceToNat, ↓reduceIte, Nat.reduceLT, Nat.reduceEqDiff, Nat.reduceAdd, Nat.reduceMul, Nat.reduceSub, Nat.reduceBEq, Nat.reduceLeDiff, reduceCtorEq, Nat.reduceLT, ↓Br_true, ↓Br_false, bind, pure, sc32, sb32]
  refine ⟨Nat, fun k => k ≤ m, fun k => m - k, fun k => [(0, .slc 0 0 m c1), (1, .slc 1 0 m c2), (4, .f (.bool false)), (5, .f (.int .i64 k))], fun _ => [.rows m c1 1 u false, .rows m c2 1 v false], 0, (by intro _; simp), ?_, (by (try refine Or.inl ?_); simp [Cov, covE, covH, cb_dead, cb_lit, cb_rows, cb_cells, cd_lit, cd_rows, cd_cells, cd_dead, covRow, look, SV.known, SV.bd, bdL, h1, h2] <;> omega), ?_⟩
  · omega
  · intro k hk
    by_cases hlt : k < m
    · have hd : decide ((k : Int) < m) = true := decide_eq_true (by omega)
      have e1 := hu k hlt
      have e2 := hv k hlt
      simp (config := { maxSteps := 1000000 }) (disch := omega) only [go_sem, Int.reduceToNat, ↓reduceIte, Nat.reduceLT, Nat.reduceEqDiff, Nat.reduceAdd, Nat.reduceMul, Nat.reduceSub, Nat.reduceBEq, Nat.reduceLeDiff, reduceCtorEq, Nat.reduceLT, ↓Br_true, ↓Br_false, bind, pure, sc32, sb32, hd, e1, e2]
      repeat' (first | (with_reducible refine And.intro (by first | (unfold SOk; kernel_rfl) | (unfold SBOk; kernel_rfl) | (with_reducible assumption) | omega | assumption) ?_) | (with_reducible refine Br_intro (fun hc => ?_) (fun hc => ?_)) | ((with_reducible show WidN _ _ _ _ _ _ _ _); (first | refine widL (by decide) (by with_reducible assumption) ?_ | refine widL (by decide) (FWok_nn (by with_reducible assumption)) ?_ | refine widN (by decide) (fun c hc => ?_)); simp (config := { maxSteps := 1000000 }) (disch := omega) only [go_sem, Int.reduceToNat, ↓reduceIte, Nat.reduceLT, Nat.reduceEqDiff, Nat.reduceAdd, Nat.reduceMul, Nat.reduceSub, Nat.reduceBEq, Nat.reduceLeDiff, reduceCtorEq, Nat.reduceLT, ↓Br_true, ↓Br_false, bind, pure, sc32, sb32, hd, e1, e2]))
      exact ⟨k + 1, by omega, by omega, by (try refine Or.inl ?_); simp [Cov, covE, covH, cb_dead, cb_lit, cb_rows, cb_cells, cd_lit, cd_rows, cd_cells, cd_dead, covRow, look, SV.known, SV.bd, bdL, h1, h2] <;> omega⟩
    · have hd : decide ((k : Int) < m) = false := decide_eq_false (by omega)
      simp (config := { maxSteps := 1000000 }) (disch := omega) only [go_sem, Int.reduceToNat, ↓reduceIte, Nat.reduceLT, Nat.reduceEqDiff, Nat.reduceAdd, Nat.reduceMul, Nat.reduceSub, Nat.reduceBEq, Nat.reduceLeDiff, reduceCtorEq, Nat.reduceLT, ↓Br_true, ↓Br_false, bind, pure, sc32, sb32, hd]
theorem l00Same_cv (L : List Int) (m c1 c2 : Nat) (u v : Nat → List FV) (hL : L.length = m) (hu : IntAt L u) (hv : IntAt L v) (h1 : m ≤ c1) (h2 : m ≤ c2) (hm : m ≤ 1048576) :
    CV Try.prog 93 [.slc 0 0 m c1, .slc 1 0 m c2] [.rows m c1 1 u false, .rows m c2 1 v false] (fun w h => w = .f (.bool true) ∧ h = [.rows m c1 1 u false, .rows m c2 1 v false]) := by
  refine cv_of_run 1000 sc93 sb93 26 [.tmp 4] tabOk (by kernel_rfl) Try.func93 rfl (by kernel_rfl) Try.ntmps93 rfl (by simp) rfl (by simp [bdL, SV.bd]) ?_
  simp (config := { maxSteps := 1000000 }) (disch := omega) only [go_sem, Int.reduceToNat, ↓reduceIte, Nat.reduceLT, Nat.reduceEqDiff, Nat.reduceAdd, Nat.reduceMul, Nat.reduceSub, Nat.reduceBEq, Nat.reduceLeDiff, reduceCtorEq, Nat.reduceLT, ↓Br_true, ↓Br_false, bind, pure, sc93, sb93]
  refine ⟨Nat, fun k => k ≤ m, fun k => m - k, fun k => [(0, .slc 0 0 m c1), (1, .slc 1 0 m c2), (4, .f (.bool false)), (5, .f (.int .i64 k))], fun _ => [.rows m c1 1 u false, .rows m c2 1 v false], 0, (by intro _; simp), ?_, (by (try refine Or.inl ?_); simp [Cov, covE, covH, cb_dead, cb_lit, cb_rows, cb_cells, cd_lit, cd_rows, cd_cells, cd_dead, covRow, look, SV.known, SV.bd, bdL, h1, h2] <;> omega), ?_⟩
  · omega
  · intro k hk
    by_cases hlt : k < m
    · have hd : decide ((k : Int) < m) = true := decide_eq_true (by omega)
      have e1 := hu k (by omega)
      have e2 := hv k (by omega)
      simp (config := { maxSteps := 1000000 }) (disch := omega) only [go_sem, Int.reduceToNat, ↓reduceIte, Nat.reduceLT, Nat.reduceEqDiff, Nat.reduceAdd, Nat.reduceMul, Nat.reduceSub, Nat.reduceBEq, Nat.reduceLeDiff, reduceCtorEq, Nat.reduceLT, ↓Br_true, ↓Br_false, bind, pure, sc93, sb93, hd, e1, e2]
      repeat' (first | (with_reducible refine And.intro (by first | (unfold SOk; kernel_rfl) | (unfold SBOk; kernel_rfl) | (with_reducible assumption) | omega | assumption) ?_) | (with_reducible refine Br_intro (fun hc => ?_) (fun hc => ?_)) | ((with_reducible show WidN _ _ _ _ _ _ _ _); (first | refine widL (by decide) (by with_reducible assumption) ?_ | refine widL (by decide) (FWok_nn (by with_reducible assumption)) ?_ | refine widN (by decide) (fun c hc => ?_)); simp (config := { maxSteps := 1000000 }) (disch := omega) only [go_sem, Int.reduceToNat, ↓reduceIte, Nat.reduceLT, Nat.reduceEqDiff, Nat.reduceAdd, Nat.reduceMul, Nat.reduceSub, Nat.reduceBEq, Nat.reduceLeDiff, reduceCtorEq, Nat.reduceLT, ↓Br_true, ↓Br_false, bind, pure, sc93, sb93, hd, e1, e2]))
      exact ⟨k + 1, by omega, by omega, by (try refine Or.inl ?_); simp [Cov, covE, covH, cb_dead, cb_lit, cb_rows, cb_cells, cd_lit, cd_rows, cd_cells, cd_dead, covRow, look, SV.known, SV.bd, bdL, h1, h2] <;> omega⟩
    · have hd : decide ((k : Int) < m) = false := decide_eq_false (by omega)
      simp (config := { maxSteps := 1000000 }) (disch := omega) only [go_sem, Int.reduceToNat, ↓reduceIte, Nat.reduceLT, Nat.reduceEqDiff, Nat.reduceAdd, Nat.reduceMul, Nat.reduceSub, Nat.reduceBEq, Nat.reduceLeDiff, reduceCtorEq, Nat.reduceLT, ↓Br_true, ↓Br_false, bind, pure, sc93, sb93, hd]
theorem SameNumbers_cv (L : List Int) (m c1 c2 : Nat) (u v : Nat → List FV) (hL : L.length = m) (hu : IntAt L u) (hv : IntAt L v) (h1 : m ≤ c1) (h2 : m ≤ c2) (hm : m ≤ 1048576) :
    CV Try.prog 33 [.slc 0 0 m c1, .slc 1 0 m c2] [.rows m c1 1 u false, .rows m c2 1 v false] (fun w h => w = .f (.bool true) ∧ h = [.rows m c1 1 u false, .rows m c2 1 v false]) := by
  refine cv_of_run 1000 sc33 sb33 8 [.tmp 4] tabOk (by kernel_rfl) Try.func33 rfl (by kernel_rfl) Try.ntmps33 rfl (by simp) rfl (by simp [bdL, SV.bd]) ?_
  simp (config := { maxSteps := 1000000 }) (disch := omega) only [go_sem, Int.reduceToNat, ↓reduceIte, Nat.reduceLT, Nat.reduceEqDiff, Nat.reduceAdd, Nat.reduceMul, Nat.reduceSub, Nat.reduceBEq, Nat.reduceLeDiff, reduceCtorEq, Nat.reduceLT, ↓Br_true, ↓Br_false, bind, pure, sc33, sb33]
  repeat' (first | (with_reducible refine And.intro (by first | (unfold SOk; kernel_rfl) | (unfold SBOk; kernel_rfl) | (with_reducible assumption) | omega | assumption) ?_) | (with_reducible refine Br_intro (fun hc => ?_) (fun hc => ?_)) | ((have cc := l00Same_cv L m c1 c2 u v hL hu hv h1 h2 hm; (first | ((first | refine callR (by rfl) (by rfl) (by rfl) cc ?_ | refine callM (by rfl) (by rfl) (by rfl) cc ?_ | refine callMo (by rfl) (by rfl) (by rfl) cc ?_); clear cc; rintro _ _ ⟨rfl, rfl⟩) | (refine callE (by rfl) cc (by rfl) ?_; clear cc))); simp (config := { maxSteps := 1000000 }) (disch := omega) only [go_sem, Int.reduceToNat, ↓reduceIte, Nat.reduceLT, Nat.reduceEqDiff, Nat.reduceAdd, Nat.reduceMul, Nat.reduceSub, Nat.reduceBEq, Nat.reduceLeDiff, reduceCtorEq, Nat.reduceLT, ↓Br_true, ↓Br_false, bind, pure, sc33, sb33]) | ((with_reducible show WidN _ _ _ _ _ _ _ _); (first | refine widL (by decide) (by with_reducible assumption) ?_ | refine widL (by decide) (FWok_nn (by with_reducible assumption)) ?_ | refine widN (by decide) (fun c hc => ?_)); simp (config := { maxSteps := 1000000 }) (disch := omega) only [go_sem, Int.reduceToNat, ↓reduceIte, Nat.reduceLT, Nat.reduceEqDiff, Nat.reduceAdd, Nat.reduceMul, Nat.reduceSub, Nat.reduceBEq, Nat.reduceLeDiff, reduceCtorEq, Nat.reduceLT, ↓Br_true, ↓Br_false, bind, pure, sc33, sb33]))
theorem SameTiles_cv (L : List (Int × Int)) (m c1 c2 : Nat) (u v : Nat → List FV) (hL : L.length = m) (hu : TilAt L u) (hv : TilAt L v) (h1 : m ≤ c1) (h2 : m ≤ c2) (hm : m ≤ 1048576) :
    CV Try.prog 45 [.slc 0 0 m c1, .slc 1 0 m c2] [.rows m c1 2 u false, .rows m c2 2 v false] (fun w h => w = .f (.bool true) ∧ h = [.rows m c1 2 u false, .rows m c2 2 v false]) := by
  refine cv_of_run 1000 sc45 sb45 26 [.tmp 4] tabOk (by kernel_rfl) Try.func45 rfl (by kernel_rfl) Try.ntmps45 rfl (by simp) rfl (by simp [bdL, SV.bd]) ?_
  simp (config := { maxSteps := 1000000 }) (disch := omega) only [go_sem, Int.reduceToNat, ↓reduceIte, Nat.reduceLT, Nat.reduceEqDiff, Nat.reduceAdd, Nat.reduceMul, Nat.reduceSub, Nat.reduceBEq, Nat.reduceLeDiff, reduceCtorEq, Nat.reduceLT, ↓Br_true, ↓Br_false, bind, pure, sc45, sb45]
  refine ⟨Nat, fun k => k ≤ m, fun k => m - k, fun k => [(0, .slc 0 0 m c1), (1, .slc 1 0 m c2), (4, .f (.bool false)), (5, .f (.int .i64 k))], fun _ => [.rows m c1 2 u false, .rows m c2 2 v false], 0, (by intro _; simp), ?_, (by (try refine Or.inl ?_); simp [Cov, covE, covH, cb_dead, cb_lit, cb_rows, cb_cells, cd_lit, cd_rows, cd_cells, cd_dead, covRow, look, SV.known, SV.bd, bdL, h1, h2] <;> omega), ?_⟩
  · omega
  · intro k hk
    by_cases hlt : k < m
    · have hd : decide ((k : Int) < m) = true := decide_eq_true (by omega)
      have e1 := hu k (by omega)
      have e2 := hv k (by omega)
      simp (config := { maxSteps := 1000000 }) (disch := omega) only [go_sem, Int.reduceToNat, ↓reduceIte, Nat.reduceLT, Nat.reduceEqDiff, Nat.reduceAdd, Nat.reduceMul, Nat.reduceSub, Nat.reduceBEq, Nat.reduceLeDiff, reduceCtorEq, Nat.reduceLT, ↓Br_true, ↓Br_false, bind, pure, sc45, sb45, hd, e1, e2]
      repeat' (first | (with_reducible refine And.intro (by first | (unfold SOk; kernel_rfl) | (unfold SBOk; kernel_rfl) | (with_reducible assumption) | omega | assumption) ?_) | (with_reducible refine Br_intro (fun hc => ?_) (fun hc => ?_)) | ((with_reducible show WidN _ _ _ _ _ _ _ _); (first | refine widL (by decide) (by with_reducible assumption) ?_ | refine widL (by decide) (FWok_nn (by with_reducible assumption)) ?_ | refine widN (by decide) (fun c hc => ?_)); simp (config := { maxSteps := 1000000 }) (disch := omega) only [go_sem, Int.reduceToNat, ↓reduceIte, Nat.reduceLT, Nat.reduceEqDiff, Nat.reduceAdd, Nat.reduceMul, Nat.reduceSub, Nat.reduceBEq, Nat.reduceLeDiff, reduceCtorEq, Nat.reduceLT, ↓Br_true, ↓Br_false, bind, pure, sc45, sb45, hd, e1, e2]))
      all_goals exact ⟨k + 1, by omega, by omega, by (try refine Or.inl ?_); simp [Cov, covE, covH, cb_dead, cb_lit, cb_rows, cb_cells, cd_lit, cd_rows, cd_cells, cd_dead, covRow, look, SV.known, SV.bd, bdL, h1, h2] <;> omega⟩
    · have hd : decide ((k : Int) < m) = false := decide_eq_false (by omega)
      simp (config := { maxSteps := 1000000 }) (disch := omega) only [go_sem, Int.reduceToNat, ↓reduceIte, Nat.reduceLT, Nat.reduceEqDiff, Nat.reduceAdd, Nat.reduceMul, Nat.reduceSub, Nat.reduceBEq, Nat.reduceLeDiff, reduceCtorEq, Nat.reduceLT, ↓Br_true, ↓Br_false, bind, pure, sc45, sb45, hd]
theorem SameTilesN_cv (c2 : Nat) (v : Nat → List FV) :
    CV Try.prog 45 [.f .nils, .slc 0 0 0 c2] [.rows 0 c2 2 v false] (fun w h => w = .f (.bool true) ∧ h = [.rows 0 c2 2 v false]) := by
  have hd0 : decide ((0 : Int) = ((0 : Nat) : Int)) = true := by decide
  refine cv_of_run 1000 sc45 sb45 26 [.tmp 4] tabOk (by kernel_rfl) Try.func45 rfl (by kernel_rfl) Try.ntmps45 rfl (by simp) rfl (by simp [bdL, SV.bd]) ?_
  simp (config := { maxSteps := 1000000 }) (disch := omega) only [go_sem, Int.reduceToNat, ↓reduceIte, Nat.reduceLT, Nat.reduceEqDiff, Nat.reduceAdd, Nat.reduceMul, Nat.reduceSub, Nat.reduceBEq, Nat.reduceLeDiff, reduceCtorEq, Nat.reduceLT, ↓Br_true, ↓Br_false, bind, pure, sc45, sb45, hd0]
  refine ⟨Nat, fun k => k = 0, fun k => 0, fun k => [(0, .f .nils), (1, .slc 0 0 0 c2), (4, .f (.bool false)), (5, .f (.int .i64 0))], fun _ => [.rows 0 c2 2 v false], 0, (by intro _; simp), ?_, (by (try refine Or.inl ?_); simp [Cov, covE, covH, cb_dead, cb_lit, cb_rows, cb_cells, cd_lit, cd_rows, cd_cells, cd_dead, covRow, look, SV.known, SV.bd, bdL, Nat.le_refl] <;> omega), ?_⟩
  · rfl
  · rintro k rfl
    have hd : decide ((0 : Int) < 0) = false := by decide
    simp (config := { maxSteps := 1000000 }) (disch := omega) only [go_sem, Int.reduceToNat, ↓reduceIte, Nat.reduceLT, Nat.reduceEqDiff, Nat.reduceAdd, Nat.reduceMul, Nat.reduceSub, Nat.reduceBEq, Nat.reduceLeDiff, reduceCtorEq, Nat.reduceLT, ↓Br_true, ↓Br_false, bind, pure, sc45, sb45, hd]
/-- Is a number in a list, up to k. -/
def hasK (L : List Int) (x : Int) : Nat → Bool
  | 0 => false
  | k + 1 => hasK L x k || decide (seatN L k = x)
theorem l00Has_cv (L : List Int) (x : Int) (m c1 : Nat) (u : Nat → List FV) (hL : L.length = m) (hu : IntAt L u) (h1 : m ≤ c1) (hm : m ≤ 1048576) :
    CV Try.prog 101 [.slc 0 0 m c1, .f (.int .i64 x)] [.rows m c1 1 u false] (fun w h => w = .f (.bool (hasK L x m)) ∧ h = [.rows m c1 1 u false]) := by
  have hno : ∀ k j, j < k → hasK L x j = false ∨ hasK L x k = true := fun k j h => by
    cases c : hasK L x j with
    | false => exact .inl rfl
    | true =>
      right
      have : ∀ d, hasK L x (j + d) = true := fun d => by
        induction d with
        | zero => exact c
        | succ d ih => rw [show j + (d + 1) = j + d + 1 by omega, hasK, ih]; rfl
      rw [show k = j + (k - j) by omega]; exact this _
  refine cv_of_run 1000 sc101 sb101 18 [.tmp 4] tabOk (by kernel_rfl) Try.func101 rfl (by kernel_rfl) Try.ntmps101 rfl (by simp) rfl (by simp [bdL, SV.bd]) ?_
  simp (config := { maxSteps := 1000000 }) (disch := omega) only [go_sem, Int.reduceToNat, ↓reduceIte, Nat.reduceLT, Nat.reduceEqDiff, Nat.reduceAdd, Nat.reduceMul, Nat.reduceSub, Nat.reduceBEq, Nat.reduceLeDiff, reduceCtorEq, Nat.reduceLT, ↓Br_true, ↓Br_false, bind, pure, sc101, sb101]
  refine ⟨Nat, fun k => k ≤ m ∧ hasK L x k = false, fun k => m - k, fun k => [(0, .slc 0 0 m c1), (1, .f (.int .i64 x)), (4, .f (.bool false)), (5, .f (.int .i64 k))], fun _ => [.rows m c1 1 u false], 0, (by intro _; simp), ?_, (by (try refine Or.inl ?_); simp [Cov, covE, covH, cb_dead, cb_lit, cb_rows, cb_cells, cd_lit, cd_rows, cd_cells, cd_dead, covRow, look, SV.known, SV.bd, bdL, h1] <;> omega), ?_⟩
  · exact ⟨by omega, rfl⟩
  · rintro k ⟨hk, hn⟩
    by_cases hlt : k < m
    · have hd : decide ((k : Int) < m) = true := decide_eq_true (by omega)
      have e1 := hu k (by omega)
      have eh : hasK L x (k + 1) = decide (seatN L k = x) := by rw [hasK, hn]; simp
      have es : seatN L k = L.getD k 0 := rfl
      simp (config := { maxSteps := 1000000 }) (disch := omega) only [go_sem, Int.reduceToNat, ↓reduceIte, Nat.reduceLT, Nat.reduceEqDiff, Nat.reduceAdd, Nat.reduceMul, Nat.reduceSub, Nat.reduceBEq, Nat.reduceLeDiff, reduceCtorEq, Nat.reduceLT, ↓Br_true, ↓Br_false, bind, pure, sc101, sb101, hd, e1]
      repeat' (first | (with_reducible refine And.intro (by first | (unfold SOk; kernel_rfl) | (unfold SBOk; kernel_rfl) | (with_reducible assumption) | omega | assumption) ?_) | (with_reducible refine Br_intro (fun hc => ?_) (fun hc => ?_)) | ((with_reducible show WidN _ _ _ _ _ _ _ _); (first | refine widL (by decide) (by with_reducible assumption) ?_ | refine widL (by decide) (FWok_nn (by with_reducible assumption)) ?_ | refine widN (by decide) (fun c hc => ?_)); simp (config := { maxSteps := 1000000 }) (disch := omega) only [go_sem, Int.reduceToNat, ↓reduceIte, Nat.reduceLT, Nat.reduceEqDiff, Nat.reduceAdd, Nat.reduceMul, Nat.reduceSub, Nat.reduceBEq, Nat.reduceLeDiff, reduceCtorEq, Nat.reduceLT, ↓Br_true, ↓Br_false, bind, pure, sc101, sb101, hd, e1]))
      · simp only [decide_eq_true_eq] at hc
        have : hasK L x (k + 1) = true := by rw [eh, es]; exact decide_eq_true hc
        rcases hno m k hlt with c | c
        · by_cases q : k + 1 = m
          · rw [← q, this]
          · rcases hno m (k + 1) (by omega) with d | d
            · rw [this] at d; cases d
            · rw [d]
        · rw [c]
      · simp only [decide_eq_false_iff_not] at hc
        exact ⟨k + 1, ⟨by omega, by rw [eh, es]; exact decide_eq_false hc⟩, by omega, by (try refine Or.inl ?_); simp [Cov, covE, covH, cb_dead, cb_lit, cb_rows, cb_cells, cd_lit, cd_rows, cd_cells, cd_dead, covRow, look, SV.known, SV.bd, bdL, h1] <;> omega⟩
    · have hd : decide ((k : Int) < m) = false := decide_eq_false (by omega)
      obtain rfl : k = m := by omega
      simp (config := { maxSteps := 1000000 }) (disch := omega) only [go_sem, Int.reduceToNat, ↓reduceIte, Nat.reduceLT, Nat.reduceEqDiff, Nat.reduceAdd, Nat.reduceMul, Nat.reduceSub, Nat.reduceBEq, Nat.reduceLeDiff, reduceCtorEq, Nat.reduceLT, ↓Br_true, ↓Br_false, bind, pure, sc101, sb101, hd]
      rw [hn]
theorem HasNumber_cv (L : List Int) (x : Int) (m c1 : Nat) (u : Nat → List FV) (hL : L.length = m) (hu : IntAt L u) (h1 : m ≤ c1) (hm : m ≤ 1048576) :
    CV Try.prog 41 [.slc 0 0 m c1, .f (.int .i64 x)] [.rows m c1 1 u false] (fun w h => w = .f (.bool (hasK L x m)) ∧ h = [.rows m c1 1 u false]) := by
  refine cv_of_run 1000 sc41 sb41 8 [.tmp 4] tabOk (by kernel_rfl) Try.func41 rfl (by kernel_rfl) Try.ntmps41 rfl (by simp) rfl (by simp [bdL, SV.bd]) ?_
  simp (config := { maxSteps := 1000000 }) (disch := omega) only [go_sem, Int.reduceToNat, ↓reduceIte, Nat.reduceLT, Nat.reduceEqDiff, Nat.reduceAdd, Nat.reduceMul, Nat.reduceSub, Nat.reduceBEq, Nat.reduceLeDiff, reduceCtorEq, Nat.reduceLT, ↓Br_true, ↓Br_false, bind, pure, sc41, sb41]
  repeat' (first | (with_reducible refine And.intro (by first | (unfold SOk; kernel_rfl) | (unfold SBOk; kernel_rfl) | (with_reducible assumption) | omega | assumption) ?_) | (with_reducible refine Br_intro (fun hc => ?_) (fun hc => ?_)) | ((have cc := l00Has_cv L x m c1 u hL hu h1 hm; (first | ((first | refine callR (by rfl) (by rfl) (by rfl) cc ?_ | refine callM (by rfl) (by rfl) (by rfl) cc ?_ | refine callMo (by rfl) (by rfl) (by rfl) cc ?_); clear cc; rintro _ _ ⟨rfl, rfl⟩) | (refine callE (by rfl) cc (by rfl) ?_; clear cc))); simp (config := { maxSteps := 1000000 }) (disch := omega) only [go_sem, Int.reduceToNat, ↓reduceIte, Nat.reduceLT, Nat.reduceEqDiff, Nat.reduceAdd, Nat.reduceMul, Nat.reduceSub, Nat.reduceBEq, Nat.reduceLeDiff, reduceCtorEq, Nat.reduceLT, ↓Br_true, ↓Br_false, bind, pure, sc41, sb41]) | ((with_reducible show WidN _ _ _ _ _ _ _ _); (first | refine widL (by decide) (by with_reducible assumption) ?_ | refine widL (by decide) (FWok_nn (by with_reducible assumption)) ?_ | refine widN (by decide) (fun c hc => ?_)); simp (config := { maxSteps := 1000000 }) (disch := omega) only [go_sem, Int.reduceToNat, ↓reduceIte, Nat.reduceLT, Nat.reduceEqDiff, Nat.reduceAdd, Nat.reduceMul, Nat.reduceSub, Nat.reduceBEq, Nat.reduceLeDiff, reduceCtorEq, Nat.reduceLT, ↓Br_true, ↓Br_false, bind, pure, sc41, sb41]))
theorem hasK_not {L : List Int} {x : Int} : ∀ {k}, hasK L x k = false → ∀ i, i < k → seatN L i ≠ x
  | 0, _, i, h => by omega
  | k + 1, h, i, hi => by
    simp only [hasK, Bool.or_eq_false_iff, decide_eq_false_iff_not] at h
    by_cases e : i = k
    · subst e; exact h.2
    · exact hasK_not h.1 i (by omega)
theorem dSameNumber_cv (a b : Nat) : CV Try.prog 38 [.f (.flt .f32 a), .f (.flt .f32 b)] [] (fun v hh => v = .f (.bool (sameF a b)) ∧ hh = []) := by
  have c : CV Try.prog 99 [.f (.flt .f32 a), .f (.flt .f32 b)] [] (fun v hh => v = .f (.bool (sameF a b)) ∧ hh = []) :=
    CV.old0 trivial (enters_of Try.func99 (by kernel_rfl) (by kernel_rfl)) fun w β _ => l01Same_c a b w
  refine cv_of_run 1000 sc38 sb38 8 [.tmp 4] tabOk (by kernel_rfl) Try.func38 rfl (by kernel_rfl) Try.ntmps38 rfl (by simp) rfl (by simp [bdL, SV.bd]) ?_
  simp (config := { maxSteps := 1000000 }) (disch := omega) only [go_sem, Int.reduceToNat, ↓reduceIte, Nat.reduceLT, Nat.reduceEqDiff, Nat.reduceAdd, Nat.reduceMul, Nat.reduceSub, Nat.reduceBEq, Nat.reduceLeDiff, reduceCtorEq, Nat.reduceLT, ↓Br_true, ↓Br_false, bind, pure, sc38, sb38]
  repeat' (first | (with_reducible refine And.intro (by first | (unfold SOk; kernel_rfl) | (unfold SBOk; kernel_rfl) | (with_reducible assumption) | omega | assumption) ?_) | (with_reducible refine Br_intro (fun hc => ?_) (fun hc => ?_)) | ((have cc := c; (first | ((first | refine callR (by rfl) (by rfl) (by rfl) cc ?_ | refine callM (by rfl) (by rfl) (by rfl) cc ?_ | refine callMo (by rfl) (by rfl) (by rfl) cc ?_); clear cc; rintro _ _ ⟨rfl, rfl⟩) | (refine callE (by rfl) cc (by rfl) ?_; clear cc))); simp (config := { maxSteps := 1000000 }) (disch := omega) only [go_sem, Int.reduceToNat, ↓reduceIte, Nat.reduceLT, Nat.reduceEqDiff, Nat.reduceAdd, Nat.reduceMul, Nat.reduceSub, Nat.reduceBEq, Nat.reduceLeDiff, reduceCtorEq, Nat.reduceLT, ↓Br_true, ↓Br_false, bind, pure, sc38, sb38]) | ((with_reducible show WidN _ _ _ _ _ _ _ _); (first | refine widL (by decide) (by with_reducible assumption) ?_ | refine widL (by decide) (FWok_nn (by with_reducible assumption)) ?_ | refine widN (by decide) (fun c hc => ?_)); simp (config := { maxSteps := 1000000 }) (disch := omega) only [go_sem, Int.reduceToNat, ↓reduceIte, Nat.reduceLT, Nat.reduceEqDiff, Nat.reduceAdd, Nat.reduceMul, Nat.reduceSub, Nat.reduceBEq, Nat.reduceLeDiff, reduceCtorEq, Nat.reduceLT, ↓Br_true, ↓Br_false, bind, pure, sc38, sb38]))
theorem dbig_cv (n cap : Nat) (f : Nat → List FV) (hcap : n ≤ cap) : CV Try.prog 23 [.slc 0 0 n cap] [.rows n cap 1 f false] (fun v h => v = .f (.bool (decide ((4096 : Int) < n))) ∧ h = [.rows n cap 1 f false]) := by
  refine cv_of_run 1000 sc23 sb23 6 [.tmp 2] tabOk (by kernel_rfl) Try.func23 rfl (by kernel_rfl) Try.ntmps23 rfl (by simp) rfl (by simp [bdL, SV.bd]) ?_
  simp (config := { maxSteps := 1000000 }) (disch := omega) only [go_sem, Int.reduceToNat, ↓reduceIte, Nat.reduceLT, Nat.reduceEqDiff, Nat.reduceAdd, Nat.reduceMul, Nat.reduceSub, Nat.reduceBEq, Nat.reduceLeDiff, reduceCtorEq, Nat.reduceLT, ↓Br_true, ↓Br_false, bind, pure, sc23, sb23]
theorem dsame_self {a : Nat} (h : nn a) : sameF a a = true := by
  have : feq a a = true := by rw [feq_self]; exact decide_eq_true h
  simp [sameF, this]
theorem not_in {L : List Int} {x : Int} {q : Nat} (hL : L.length = q) (h : hasK L x q = false) : x ∉ L := fun c => by
  obtain ⟨i, hi, e⟩ := List.mem_iff_getElem.1 c
  refine hasK_not h i (by omega) ?_
  simp [seatN, List.getD_eq_getElem?_getD, List.getElem?_eq_getElem hi, e]
theorem cntS_le (L : List Int) : ∀ k, 0 ≤ cntS L k ∧ cntS L k ≤ k
  | 0 => ⟨Int.le_refl _, Int.le_refl _⟩
  | k + 1 => by
    have ih := cntS_le L k
    simp only [cntS]
    split <;> omega
theorem sq4 {x : Int} (h1 : -9 ≤ x) (h2 : x ≤ 9) : decide (x * x < 4) = inn x (-1) 1 := by
  have : x = -9 ∨ x = -8 ∨ x = -7 ∨ x = -6 ∨ x = -5 ∨ x = -4 ∨ x = -3 ∨ x = -2 ∨ x = -1 ∨ x = 0 ∨ x = 1 ∨ x = 2 ∨ x = 3 ∨ x = 4 ∨ x = 5 ∨ x = 6 ∨ x = 7 ∨ x = 8 ∨ x = 9 := by omega
  rcases this with rfl | rfl | rfl | rfl | rfl | rfl | rfl | rfl | rfl | rfl | rfl | rfl | rfl | rfl | rfl | rfl | rfl | rfl | rfl <;> decide
theorem sq4w {x : Int} (h1 : -9 ≤ x) (h2 : x ≤ 9) : decide (IntKind.i64.wrap (x * x) < 4) = inn x (-1) 1 := by
  have : x = -9 ∨ x = -8 ∨ x = -7 ∨ x = -6 ∨ x = -5 ∨ x = -4 ∨ x = -3 ∨ x = -2 ∨ x = -1 ∨ x = 0 ∨ x = 1 ∨ x = 2 ∨ x = 3 ∨ x = 4 ∨ x = 5 ∨ x = 6 ∨ x = 7 ∨ x = 8 ∨ x = 9 := by omega
  rcases this with rfl | rfl | rfl | rfl | rfl | rfl | rfl | rfl | rfl | rfl | rfl | rfl | rfl | rfl | rfl | rfl | rfl | rfl | rfl <;> decide
end Go.Proofs.Ytdncopphjamilaa.Vx
