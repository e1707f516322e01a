/- Slices of flat elements, for the abstract executor: their copies, their sameness. Printed by mk_sc.py. -/
import Derived.Test.YtgepaaakleomeacVt
import Derived.Test.YtgepaaakleomeacVs
import Derived.Test.YtgepaaakleomeacVz
import Derived.Test.YtgepaaakleomeacS
namespace Go.Proofs.Ytgepaaakleomeac.Vx
set_option linter.unusedSimpArgs false
set_option linter.unusedVariables false
open Go Go.RowKit Fl
set_option maxRecDepth 100000
set_option linter.unusedSimpArgs false
set_option linter.unusedVariables false

theorem sameNan_c (x y : Nat) (w : World) (hx : deq x x = false) (hy : deq y y = false) :
    Calls Try.prog 16 #[.float .f64 x, .float .f64 y] w fun e w' => e = .returned (.bool true) ∧ w = w' := by
  go_enter Try.func16, Try.ntmps16
  go_wp2
  all_goals (go_ret; exact ⟨by simp [hx, hy], rfl⟩)
theorem sameFloat_cv (x : Nat) (h : List Blk) : CV Try.prog 16 [.f (.flt .f64 x), .f (.flt .f64 x)] h (fun v hh => v = .f (.bool true) ∧ hh = h) :=
  CV.old0 trivial (enters_of Try.func16 (by kernel_rfl) (by kernel_rfl)) fun w β _ => sameFloat_c x w
theorem sameW_cv {b c c' : Nat} (hc : Wid b c) (hc' : Wid b c') : CV Try.prog 16 [.f (.flt .f64 c), .f (.flt .f64 c')] [] (fun v hh => v = .f (.bool true) ∧ hh = []) := by
  rcases hc with ⟨h1, rfl⟩ | ⟨h1, h2⟩
  · rcases hc' with ⟨_, rfl⟩ | ⟨h3, _⟩
    · exact sameFloat_cv _ _
    · exact absurd h1 h3
  · rcases hc' with ⟨h3, _⟩ | ⟨_, h3⟩
    · exact absurd h3 h1
    · exact CV.old0 trivial (enters_of Try.func16 (by kernel_rfl) (by kernel_rfl)) fun w β _ => sameNan_c c c' w h2 h3
def szI (left : Int) (n : Nat) : Int := if left < n then -1 else left - n

theorem toFloat32S_cv (n cap : Nat) (f : Nat → List FV) (p0 : Nat → Nat) (hf : ∀ i, i < n → f i = [.flt .f32 (p0 i)]) (hn : n ≤ 1048576) (hc : n ≤ cap) :
    CV Try.prog 14 [.slc 0 0 n cap] [.rows n cap 1 f false] (fun v h => ∃ g, (∀ i, i < n → g i = [.flt .f32 (p0 i)]) ∧ v = .slc 1 0 n n ∧ h = [.rows n cap 1 f false, .rows n n 1 g true]) := by
  refine cv_of_run 1000 sc14 sb14 22 [.tmp 2] tabOk (by kernel_rfl) Try.func14 rfl (by kernel_rfl) Try.ntmps14 rfl (by simp) rfl (by simp [bdL, SV.bd]) ?_
  simp (config := { maxSteps := 1000000 }) (disch := omega) only [go_sem, Int.reduceToNat, ↓reduceIte, Nat.reduceLT, Nat.reduceEqDiff, Nat.reduceAdd, Nat.reduceMul, Nat.reduceSub, Nat.reduceBEq, Nat.reduceLeDiff, reduceCtorEq, Nat.reduceLT, ↓Br_true, ↓Br_false, bind, pure, sc14, sb14]
  repeat (with_reducible refine And.intro (by first | omega | assumption | (unfold SOk; kernel_rfl) | (unfold SBOk; kernel_rfl)) ?_)
  refine ⟨(Nat × (Nat → List FV)), fun s => s.1 ≤ n ∧ (∀ i, i < s.1 → s.2 i = [.flt .f32 (p0 i)]) ∧ (∀ i, i < n → (s.2 i).length = 1), fun s => n - s.1, fun s => [(0, .slc 0 0 n cap), (3, .slc 1 0 n n), (4, .f (.int .i64 s.1))], fun s => [.rows n cap 1 f false, .rows n n 1 s.2 true], (0, constRow [.flt .f32 0]), (by intro _; simp), ?_, (by (try refine Or.inl ?_); simp [Cov, covE, covH, cb_dead, cb_lit, cb_rows, cb_cells, cd_lit, cd_rows, cd_cells, cd_dead, covRow, look, SV.known, SV.bd, bdL, hc, constRow, zRow] <;> omega), ?_⟩
  · exact ⟨by omega, fun i hi => by omega, fun i hi => rfl⟩
  · rintro ⟨k, g⟩ ⟨hk, hg, hl⟩
    simp only at hk hg hl
    by_cases hlt : k < n
    · have hd : decide ((k : Int) < n) = true := decide_eq_true (by omega)
      have e1 := hf k hlt
      simp (config := { maxSteps := 1000000 }) (disch := omega) only [go_sem, Int.reduceToNat, ↓reduceIte, Nat.reduceLT, Nat.reduceEqDiff, Nat.reduceAdd, Nat.reduceMul, Nat.reduceSub, Nat.reduceBEq, Nat.reduceLeDiff, reduceCtorEq, Nat.reduceLT, ↓Br_true, ↓Br_false, bind, pure, sc14, sb14, hd, e1]
      repeat' (first | (with_reducible refine And.intro (by first | (unfold SOk; kernel_rfl) | (unfold SBOk; kernel_rfl) | (with_reducible assumption) | omega | assumption) ?_) | (with_reducible refine Br_intro (fun hc => ?_) (fun hc => ?_)) | ((with_reducible show WidN _ _ _ _ _ _ _ _); (first | refine widL (by decide) (by with_reducible assumption) ?_ | refine widL (by decide) (FWok_nn (by with_reducible assumption)) ?_ | refine widN (by decide) (fun c hc => ?_)); simp (config := { maxSteps := 1000000 }) (disch := omega) only [go_sem, Int.reduceToNat, ↓reduceIte, Nat.reduceLT, Nat.reduceEqDiff, Nat.reduceAdd, Nat.reduceMul, Nat.reduceSub, Nat.reduceBEq, Nat.reduceLeDiff, reduceCtorEq, Nat.reduceLT, ↓Br_true, ↓Br_false, bind, pure, sc14, sb14]))
      refine ⟨(k + 1, updR g k 0 (.flt .f32 (p0 k))), ⟨by omega, fun i hi => ?_, fun i hi => ?_⟩, by omega, by (try refine Or.inl ?_); simp [Cov, covE, covH, cb_dead, cb_lit, cb_rows, cb_cells, cd_lit, cd_rows, cd_cells, cd_dead, covRow, look, SV.known, SV.bd, bdL, hc, e1] <;> omega⟩
      · simp only [updR]; by_cases c : i = k
        · subst c; rw [if_pos rfl]; have := hl i (by omega); match hg' : g i, this with
          | [a], _ => rfl
        · rw [if_neg c]; exact hg i (by omega)
      · simp only [updR]; split
        · rw [rset_eq, List.length_set]; exact hl k hlt
        · exact hl i hi
    · have hd : decide ((k : Int) < n) = false := decide_eq_false (by omega)
      simp (config := { maxSteps := 1000000 }) (disch := omega) only [go_sem, Int.reduceToNat, ↓reduceIte, Nat.reduceLT, Nat.reduceEqDiff, Nat.reduceAdd, Nat.reduceMul, Nat.reduceSub, Nat.reduceBEq, Nat.reduceLeDiff, reduceCtorEq, Nat.reduceLT, ↓Br_true, ↓Br_false, bind, pure, sc14, sb14, hd]
      obtain rfl : k = n := by omega
      first | exact ⟨g, hg, rfl, rfl⟩ | exact ⟨g, hg, rfl⟩
theorem toFloat32N_cv : CV Try.prog 14 [.f .nils] [] (fun v h => ∃ g, v = .slc 0 0 0 0 ∧ h = [.rows 0 0 1 g true]) := by
  refine cv_of_run 1000 sc14 sb14 22 [.tmp 2] tabOk (by kernel_rfl) Try.func14 rfl (by kernel_rfl) Try.ntmps14 rfl (by simp) rfl (by simp [bdL, SV.bd]) ?_
  simp (config := { maxSteps := 1000000 }) (disch := omega) only [go_sem, Int.reduceToNat, ↓reduceIte, Nat.reduceLT, Nat.reduceEqDiff, Nat.reduceAdd, Nat.reduceMul, Nat.reduceSub, Nat.reduceBEq, Nat.reduceLeDiff, reduceCtorEq, Nat.reduceLT, ↓Br_true, ↓Br_false, bind, pure, sc14, sb14]
  repeat (with_reducible refine And.intro (by first | omega | assumption | (unfold SOk; kernel_rfl) | (unfold SBOk; kernel_rfl)) ?_)
  refine ⟨Unit, fun _ => True, fun _ => 0, fun _ => [(0, .f .nils), (3, .slc 0 0 0 0), (4, .f (.int .i64 0))], fun _ => [.rows 0 0 1 noRow true], (), (by intro _; simp), ?_, (by (try refine Or.inl ?_); simp [Cov, covE, covH, cb_dead, cb_lit, cb_rows, cb_cells, cd_lit, cd_rows, cd_cells, cd_dead, covRow, look, SV.known, SV.bd, bdL] <;> omega), ?_⟩
  · trivial
  · intro _ _
    simp (config := { maxSteps := 1000000 }) (disch := omega) only [go_sem, Int.reduceToNat, ↓reduceIte, Nat.reduceLT, Nat.reduceEqDiff, Nat.reduceAdd, Nat.reduceMul, Nat.reduceSub, Nat.reduceBEq, Nat.reduceLeDiff, reduceCtorEq, Nat.reduceLT, ↓Br_true, ↓Br_false, bind, pure, sc14, sb14, Int.lt_irrefl]
    first | exact ⟨noRow, rfl, rfl⟩ | exact ⟨noRow, rfl⟩
theorem eqFloat32S_cv (n : Nat) (f g : Nat → List FV) (cap cap' : Nat) (p0 : Nat → Nat) (hf : ∀ i, i < n → f i = [.flt .f32 (p0 i)]) (hg : ∀ i, i < n → g i = [.flt .f32 (p0 i)]) (h1 : n ≤ cap) (h2 : n ≤ cap') (hn : n ≤ 1048576) :
    CV Try.prog 17 [.slc 0 0 n cap, .slc 1 0 n cap'] [.rows n cap 1 f false, .rows n cap' 1 g false] (fun v h => v = .f (.bool true) ∧ h = [.rows n cap 1 f false, .rows n cap' 1 g false]) := by
  refine cv_of_run 1000 sc17 sb17 29 [.tmp 4] tabOk (by kernel_rfl) Try.func17 rfl (by kernel_rfl) Try.ntmps17 rfl (by simp) rfl (by simp [bdL, SV.bd]) ?_
  simp (config := { maxSteps := 1000000 }) (disch := omega) only [go_sem, Int.reduceToNat, ↓reduceIte, Nat.reduceLT, Nat.reduceEqDiff, Nat.reduceAdd, Nat.reduceMul, Nat.reduceSub, Nat.reduceBEq, Nat.reduceLeDiff, reduceCtorEq, Nat.reduceLT, ↓Br_true, ↓Br_false, bind, pure, sc17, sb17]
  refine ⟨Nat, fun k => k ≤ n, fun k => n - k, fun k => [(0, .slc 0 0 n cap), (1, .slc 1 0 n cap'), (5, .f (.int .i64 k))], fun _ => [.rows n cap 1 f false, .rows n cap' 1 g false], 0, (by intro _; simp), ?_, (by (try refine Or.inl ?_); simp [Cov, covE, covH, cb_dead, cb_lit, cb_rows, cb_cells, cd_lit, cd_rows, cd_cells, cd_dead, covRow, look, SV.known, SV.bd, bdL, h1, h2] <;> omega), ?_⟩
  · omega
  · intro k hk
    by_cases hlt : k < n
    · have hd : decide ((k : Int) < n) = true := decide_eq_true (by omega)
      have e1 := hf k hlt
      have e2 := hg k hlt
      simp (config := { maxSteps := 1000000 }) (disch := omega) only [go_sem, Int.reduceToNat, ↓reduceIte, Nat.reduceLT, Nat.reduceEqDiff, Nat.reduceAdd, Nat.reduceMul, Nat.reduceSub, Nat.reduceBEq, Nat.reduceLeDiff, reduceCtorEq, Nat.reduceLT, ↓Br_true, ↓Br_false, bind, pure, sc17, sb17, hd, e1, e2]
      refine ⟨by first | (unfold SOk; kernel_rfl) | (unfold SBOk; kernel_rfl), ?_⟩
      repeat (with_reducible refine And.intro (by first | omega | assumption | (unfold SOk; kernel_rfl) | (unfold SBOk; kernel_rfl)) ?_)
      refine ⟨?_, ?_⟩
      all_goals
        repeat' (first | (with_reducible refine And.intro (by first | (unfold SOk; kernel_rfl) | (unfold SBOk; kernel_rfl) | (with_reducible assumption) | omega | assumption) ?_) | (with_reducible refine Br_intro (fun hc => ?_) (fun hc => ?_)) | ((first | (refine callR (by rfl) (by rfl) (by rfl) (sameW_cv (by assumption) (by assumption)) ?_; rintro _ _ ⟨rfl, rfl⟩) | (refine callM (by rfl) (by rfl) (by rfl) (sameW_cv (by assumption) (by assumption)) ?_; rintro _ _ ⟨rfl, rfl⟩) | (refine callE (by rfl) (sameW_cv (by assumption) (by assumption)) (by rfl) ?_)); simp (config := { maxSteps := 1000000 }) (disch := omega) only [go_sem, Int.reduceToNat, ↓reduceIte, Nat.reduceLT, Nat.reduceEqDiff, Nat.reduceAdd, Nat.reduceMul, Nat.reduceSub, Nat.reduceBEq, Nat.reduceLeDiff, reduceCtorEq, Nat.reduceLT, ↓Br_true, ↓Br_false, bind, pure, sc17, sb17, hd, e1, e2]) | ((with_reducible show WidN _ _ _ _ _ _ _ _); (first | refine widL (by decide) (by with_reducible assumption) ?_ | refine widL (by decide) (FWok_nn (by with_reducible assumption)) ?_ | refine widN (by decide) (fun c hc => ?_)); simp (config := { maxSteps := 1000000 }) (disch := omega) only [go_sem, Int.reduceToNat, ↓reduceIte, Nat.reduceLT, Nat.reduceEqDiff, Nat.reduceAdd, Nat.reduceMul, Nat.reduceSub, Nat.reduceBEq, Nat.reduceLeDiff, reduceCtorEq, Nat.reduceLT, ↓Br_true, ↓Br_false, bind, pure, sc17, sb17, hd, e1, e2]))
      all_goals exact ⟨k + 1, by omega, by omega, by (try refine Or.inl ?_); simp [Cov, covE, covH, cb_dead, cb_lit, cb_rows, cb_cells, cd_lit, cd_rows, cd_cells, cd_dead, covRow, look, SV.known, SV.bd, bdL, h1, h2] <;> omega⟩
    · have hd : decide ((k : Int) < n) = false := decide_eq_false (by omega)
      simp (config := { maxSteps := 1000000 }) (disch := omega) only [go_sem, Int.reduceToNat, ↓reduceIte, Nat.reduceLT, Nat.reduceEqDiff, Nat.reduceAdd, Nat.reduceMul, Nat.reduceSub, Nat.reduceBEq, Nat.reduceLeDiff, reduceCtorEq, Nat.reduceLT, ↓Br_true, ↓Br_false, bind, pure, sc17, sb17, hd]
theorem toWindow_cv (p0 : Int) (p1 : Int) (p2 : Nat) : CV Try.prog 48 [.agg [.f (.int .i8 p0), .f (.int .i8 p1), .f (.flt .f32 p2)]] [] (fun v hh => v = .agg [.f (.int .i8 p0), .f (.int .i8 p1), .f (.flt .f32 p2)] ∧ hh = []) := by
  refine cv_of_run 1000 sc48 sb48 14 [.cell 2 61] tabOk (by kernel_rfl) Try.func48 rfl (by kernel_rfl) Try.ntmps48 rfl (by simp) rfl (by simp [bdL, SV.bd]) ?_
  simp (config := { maxSteps := 1000000 }) (disch := omega) only [go_sem, Int.reduceToNat, ↓reduceIte, Nat.reduceLT, Nat.reduceEqDiff, Nat.reduceAdd, Nat.reduceMul, Nat.reduceSub, Nat.reduceBEq, Nat.reduceLeDiff, reduceCtorEq, Nat.reduceLT, ↓Br_true, ↓Br_false, bind, pure, sc48, sb48]
theorem eqWindow_cv (p0 : Int) (p1 : Int) (p2 : Nat) : CV Try.prog 54 [.agg [.f (.int .i8 p0), .f (.int .i8 p1), .f (.flt .f32 p2)], .agg [.f (.int .i8 p0), .f (.int .i8 p1), .f (.flt .f32 p2)]] [] (fun v hh => v = .f (.bool true) ∧ hh = []) := by
  refine cv_of_run 1000 sc54 sb54 23 [.tmp 4] tabOk (by kernel_rfl) Try.func54 rfl (by kernel_rfl) Try.ntmps54 rfl (by simp) rfl (by simp [bdL, SV.bd]) ?_
  simp (config := { maxSteps := 1000000 }) (disch := omega) only [go_sem, Int.reduceToNat, ↓reduceIte, Nat.reduceLT, Nat.reduceEqDiff, Nat.reduceAdd, Nat.reduceMul, Nat.reduceSub, Nat.reduceBEq, Nat.reduceLeDiff, reduceCtorEq, Nat.reduceLT, ↓Br_true, ↓Br_false, bind, pure, sc54, sb54]
  repeat' (first | (with_reducible refine And.intro (by first | (unfold SOk; kernel_rfl) | (unfold SBOk; kernel_rfl) | (with_reducible assumption) | omega | assumption) ?_) | (with_reducible refine Br_intro (fun hc => ?_) (fun hc => ?_)) | ((first | (refine callR (by rfl) (by rfl) (by rfl) (sameW_cv (by assumption) (by assumption)) ?_; rintro _ _ ⟨rfl, rfl⟩) | (refine callM (by rfl) (by rfl) (by rfl) (sameW_cv (by assumption) (by assumption)) ?_; rintro _ _ ⟨rfl, rfl⟩) | (refine callE (by rfl) (sameW_cv (by assumption) (by assumption)) (by rfl) ?_)); simp (config := { maxSteps := 1000000 }) (disch := omega) only [go_sem, Int.reduceToNat, ↓reduceIte, Nat.reduceLT, Nat.reduceEqDiff, Nat.reduceAdd, Nat.reduceMul, Nat.reduceSub, Nat.reduceBEq, Nat.reduceLeDiff, reduceCtorEq, Nat.reduceLT, ↓Br_true, ↓Br_false, bind, pure, sc54, sb54]) | ((with_reducible show WidN _ _ _ _ _ _ _ _); (first | refine widL (by decide) (by with_reducible assumption) ?_ | refine widL (by decide) (FWok_nn (by with_reducible assumption)) ?_ | refine widN (by decide) (fun c hc => ?_)); simp (config := { maxSteps := 1000000 }) (disch := omega) only [go_sem, Int.reduceToNat, ↓reduceIte, Nat.reduceLT, Nat.reduceEqDiff, Nat.reduceAdd, Nat.reduceMul, Nat.reduceSub, Nat.reduceBEq, Nat.reduceLeDiff, reduceCtorEq, Nat.reduceLT, ↓Br_true, ↓Br_false, bind, pure, sc54, sb54]))
theorem szWindowS_cv (n cap : Nat) (f : Nat → List FV) (left : Int) (h1 : 0 ≤ left) (h2 : left ≤ 1048576) (hn : n ≤ 9223372036854775807) :
    CV Try.prog 18 [.slc 0 0 n cap, .f (.int .i64 left)] [.rows n cap 3 f false] (fun v h => v = .f (.int .i64 (szI left n)) ∧ h = [.rows n cap 3 f false]) := by
  refine cv_of_run 1000 sc18 sb18 12 [.tmp 4] tabOk (by kernel_rfl) Try.func18 rfl (by kernel_rfl) Try.ntmps18 rfl (by simp) rfl (by simp [bdL, SV.bd]) ?_
  simp (config := { maxSteps := 1000000 }) (disch := omega) only [go_sem, Int.reduceToNat, ↓reduceIte, Nat.reduceLT, Nat.reduceEqDiff, Nat.reduceAdd, Nat.reduceMul, Nat.reduceSub, Nat.reduceBEq, Nat.reduceLeDiff, reduceCtorEq, Nat.reduceLT, ↓Br_true, ↓Br_false, bind, pure, sc18, sb18]
  repeat' (first | (with_reducible refine And.intro (by first | (unfold SOk; kernel_rfl) | (unfold SBOk; kernel_rfl) | (with_reducible assumption) | omega | assumption) ?_) | (with_reducible refine Br_intro (fun hc => ?_) (fun hc => ?_)) | ((with_reducible show WidN _ _ _ _ _ _ _ _); (first | refine widL (by decide) (by with_reducible assumption) ?_ | refine widL (by decide) (FWok_nn (by with_reducible assumption)) ?_ | refine widN (by decide) (fun c hc => ?_)); simp (config := { maxSteps := 1000000 }) (disch := omega) only [go_sem, Int.reduceToNat, ↓reduceIte, Nat.reduceLT, Nat.reduceEqDiff, Nat.reduceAdd, Nat.reduceMul, Nat.reduceSub, Nat.reduceBEq, Nat.reduceLeDiff, reduceCtorEq, Nat.reduceLT, ↓Br_true, ↓Br_false, bind, pure, sc18, sb18]))
  all_goals (simp only [decide_eq_true_eq, decide_eq_false_iff_not] at *; unfold szI; split <;> first | rfl | omega)
theorem szWindowN_cv (left : Int) (h1 : 0 ≤ left) (h2 : left ≤ 1048576) :
    CV Try.prog 18 [.f .nils, .f (.int .i64 left)] [] (fun v h => v = .f (.int .i64 left) ∧ h = []) := by
  refine cv_of_run 1000 sc18 sb18 12 [.tmp 4] tabOk (by kernel_rfl) Try.func18 rfl (by kernel_rfl) Try.ntmps18 rfl (by simp) rfl (by simp [bdL, SV.bd]) ?_
  simp (config := { maxSteps := 1000000 }) (disch := omega) only [go_sem, Int.reduceToNat, ↓reduceIte, Nat.reduceLT, Nat.reduceEqDiff, Nat.reduceAdd, Nat.reduceMul, Nat.reduceSub, Nat.reduceBEq, Nat.reduceLeDiff, reduceCtorEq, Nat.reduceLT, ↓Br_true, ↓Br_false, bind, pure, sc18, sb18]
  repeat' (first | (with_reducible refine And.intro (by first | (unfold SOk; kernel_rfl) | (unfold SBOk; kernel_rfl) | (with_reducible assumption) | omega | assumption) ?_) | (with_reducible refine Br_intro (fun hc => ?_) (fun hc => ?_)) | ((with_reducible show WidN _ _ _ _ _ _ _ _); (first | refine widL (by decide) (by with_reducible assumption) ?_ | refine widL (by decide) (FWok_nn (by with_reducible assumption)) ?_ | refine widN (by decide) (fun c hc => ?_)); simp (config := { maxSteps := 1000000 }) (disch := omega) only [go_sem, Int.reduceToNat, ↓reduceIte, Nat.reduceLT, Nat.reduceEqDiff, Nat.reduceAdd, Nat.reduceMul, Nat.reduceSub, Nat.reduceBEq, Nat.reduceLeDiff, reduceCtorEq, Nat.reduceLT, ↓Br_true, ↓Br_false, bind, pure, sc18, sb18]))
  all_goals (simp only [decide_eq_true_eq, decide_eq_false_iff_not] at *; first | omega | simp)
theorem toWindowS_cv (n cap : Nat) (f : Nat → List FV) (p0 : Nat → Int) (p1 : Nat → Int) (p2 : Nat → Nat) (hf : ∀ i, i < n → f i = [.int .i8 (p0 i), .int .i8 (p1 i), .flt .f32 (p2 i)]) (hn : n ≤ 1048576) (hc : n ≤ cap) :
    CV Try.prog 26 [.slc 0 0 n cap] [.rows n cap 3 f false] (fun v h => ∃ g, (∀ i, i < n → g i = [.int .i8 (p0 i), .int .i8 (p1 i), .flt .f32 (p2 i)]) ∧ v = .slc 1 0 n n ∧ h = [.rows n cap 3 f false, .rows n n 3 g true]) := by
  refine cv_of_run 1000 sc26 sb26 23 [.tmp 2] tabOk (by kernel_rfl) Try.func26 rfl (by kernel_rfl) Try.ntmps26 rfl (by simp) rfl (by simp [bdL, SV.bd]) ?_
  simp (config := { maxSteps := 1000000 }) (disch := omega) only [go_sem, Int.reduceToNat, ↓reduceIte, Nat.reduceLT, Nat.reduceEqDiff, Nat.reduceAdd, Nat.reduceMul, Nat.reduceSub, Nat.reduceBEq, Nat.reduceLeDiff, reduceCtorEq, Nat.reduceLT, ↓Br_true, ↓Br_false, bind, pure, sc26, sb26]
  repeat (with_reducible refine And.intro (by first | omega | assumption | (unfold SOk; kernel_rfl) | (unfold SBOk; kernel_rfl)) ?_)
  refine ⟨(Nat × (Nat → List FV)), fun s => s.1 ≤ n ∧ (∀ i, i < s.1 → s.2 i = [.int .i8 (p0 i), .int .i8 (p1 i), .flt .f32 (p2 i)]) ∧ (∀ i, i < n → (s.2 i).length = 3), fun s => n - s.1, fun s => [(0, .slc 0 0 n cap), (3, .slc 1 0 n n), (4, .f (.int .i64 s.1))], fun s => [.rows n cap 3 f false, .rows n n 3 s.2 true], (0, constRow [.int .i8 0, .int .i8 0, .flt .f32 0]), (by intro _; simp), ?_, (by (try refine Or.inl ?_); simp [Cov, covE, covH, cb_dead, cb_lit, cb_rows, cb_cells, cd_lit, cd_rows, cd_cells, cd_dead, covRow, look, SV.known, SV.bd, bdL, hc, constRow, zRow] <;> omega), ?_⟩
  · exact ⟨by omega, fun i hi => by omega, fun i hi => rfl⟩
  · rintro ⟨k, g⟩ ⟨hk, hg, hl⟩
    simp only at hk hg hl
    by_cases hlt : k < n
    · have hd : decide ((k : Int) < n) = true := decide_eq_true (by omega)
      have e1 := hf k hlt
      simp (config := { maxSteps := 1000000 }) (disch := omega) only [go_sem, Int.reduceToNat, ↓reduceIte, Nat.reduceLT, Nat.reduceEqDiff, Nat.reduceAdd, Nat.reduceMul, Nat.reduceSub, Nat.reduceBEq, Nat.reduceLeDiff, reduceCtorEq, Nat.reduceLT, ↓Br_true, ↓Br_false, bind, pure, sc26, sb26, hd, e1]
      repeat' (first | (with_reducible refine And.intro (by first | (unfold SOk; kernel_rfl) | (unfold SBOk; kernel_rfl) | (with_reducible assumption) | omega | assumption) ?_) | (with_reducible refine Br_intro (fun hc => ?_) (fun hc => ?_)) | ((first | (refine callR (by rfl) (by rfl) (by rfl) (toWindow_cv _ _ _) ?_; rintro _ _ ⟨rfl, rfl⟩) | (refine callM (by rfl) (by rfl) (by rfl) (toWindow_cv _ _ _) ?_; rintro _ _ ⟨rfl, rfl⟩) | (refine callE (by rfl) (toWindow_cv _ _ _) (by rfl) ?_)); simp (config := { maxSteps := 1000000 }) (disch := omega) only [go_sem, Int.reduceToNat, ↓reduceIte, Nat.reduceLT, Nat.reduceEqDiff, Nat.reduceAdd, Nat.reduceMul, Nat.reduceSub, Nat.reduceBEq, Nat.reduceLeDiff, reduceCtorEq, Nat.reduceLT, ↓Br_true, ↓Br_false, bind, pure, sc26, sb26, hd, e1]) | ((with_reducible show WidN _ _ _ _ _ _ _ _); (first | refine widL (by decide) (by with_reducible assumption) ?_ | refine widL (by decide) (FWok_nn (by with_reducible assumption)) ?_ | refine widN (by decide) (fun c hc => ?_)); simp (config := { maxSteps := 1000000 }) (disch := omega) only [go_sem, Int.reduceToNat, ↓reduceIte, Nat.reduceLT, Nat.reduceEqDiff, Nat.reduceAdd, Nat.reduceMul, Nat.reduceSub, Nat.reduceBEq, Nat.reduceLeDiff, reduceCtorEq, Nat.reduceLT, ↓Br_true, ↓Br_false, bind, pure, sc26, sb26, hd, e1]))
      refine ⟨(k + 1, updW g k [.int .i8 (p0 k), .int .i8 (p1 k), .flt .f32 (p2 k)]), ⟨by omega, fun i hi => ?_, fun i hi => ?_⟩, by omega, by (try refine Or.inl ?_); simp [Cov, covE, covH, cb_dead, cb_lit, cb_rows, cb_cells, cd_lit, cd_rows, cd_cells, cd_dead, covRow, look, SV.known, SV.bd, bdL, hc, e1] <;> omega⟩
      · simp only [updW]; by_cases c : i = k
        · subst c; rw [if_pos rfl]
        · rw [if_neg c]; exact hg i (by omega)
      · simp only [updW]; split
        · rfl
        · exact hl i hi
    · have hd : decide ((k : Int) < n) = false := decide_eq_false (by omega)
      simp (config := { maxSteps := 1000000 }) (disch := omega) only [go_sem, Int.reduceToNat, ↓reduceIte, Nat.reduceLT, Nat.reduceEqDiff, Nat.reduceAdd, Nat.reduceMul, Nat.reduceSub, Nat.reduceBEq, Nat.reduceLeDiff, reduceCtorEq, Nat.reduceLT, ↓Br_true, ↓Br_false, bind, pure, sc26, sb26, hd]
      obtain rfl : k = n := by omega
      first | exact ⟨g, hg, rfl, rfl⟩ | exact ⟨g, hg, rfl⟩
theorem toWindowN_cv : CV Try.prog 26 [.f .nils] [] (fun v h => ∃ g, v = .slc 0 0 0 0 ∧ h = [.rows 0 0 3 g true]) := by
  refine cv_of_run 1000 sc26 sb26 23 [.tmp 2] tabOk (by kernel_rfl) Try.func26 rfl (by kernel_rfl) Try.ntmps26 rfl (by simp) rfl (by simp [bdL, SV.bd]) ?_
  simp (config := { maxSteps := 1000000 }) (disch := omega) only [go_sem, Int.reduceToNat, ↓reduceIte, Nat.reduceLT, Nat.reduceEqDiff, Nat.reduceAdd, Nat.reduceMul, Nat.reduceSub, Nat.reduceBEq, Nat.reduceLeDiff, reduceCtorEq, Nat.reduceLT, ↓Br_true, ↓Br_false, bind, pure, sc26, sb26]
  repeat (with_reducible refine And.intro (by first | omega | assumption | (unfold SOk; kernel_rfl) | (unfold SBOk; kernel_rfl)) ?_)
  refine ⟨Unit, fun _ => True, fun _ => 0, fun _ => [(0, .f .nils), (3, .slc 0 0 0 0), (4, .f (.int .i64 0))], fun _ => [.rows 0 0 3 noRow true], (), (by intro _; simp), ?_, (by (try refine Or.inl ?_); simp [Cov, covE, covH, cb_dead, cb_lit, cb_rows, cb_cells, cd_lit, cd_rows, cd_cells, cd_dead, covRow, look, SV.known, SV.bd, bdL] <;> omega), ?_⟩
  · trivial
  · intro _ _
    simp (config := { maxSteps := 1000000 }) (disch := omega) only [go_sem, Int.reduceToNat, ↓reduceIte, Nat.reduceLT, Nat.reduceEqDiff, Nat.reduceAdd, Nat.reduceMul, Nat.reduceSub, Nat.reduceBEq, Nat.reduceLeDiff, reduceCtorEq, Nat.reduceLT, ↓Br_true, ↓Br_false, bind, pure, sc26, sb26, Int.lt_irrefl]
    first | exact ⟨noRow, rfl, rfl⟩ | exact ⟨noRow, rfl⟩
theorem eqWindowS_cv (n : Nat) (f g : Nat → List FV) (cap cap' : Nat) (p0 : Nat → Int) (p1 : Nat → Int) (p2 : Nat → Nat) (hf : ∀ i, i < n → f i = [.int .i8 (p0 i), .int .i8 (p1 i), .flt .f32 (p2 i)]) (hg : ∀ i, i < n → g i = [.int .i8 (p0 i), .int .i8 (p1 i), .flt .f32 (p2 i)]) (h1 : n ≤ cap) (h2 : n ≤ cap') (hn : n ≤ 1048576) :
    CV Try.prog 36 [.slc 0 0 n cap, .slc 1 0 n cap'] [.rows n cap 3 f false, .rows n cap' 3 g false] (fun v h => v = .f (.bool true) ∧ h = [.rows n cap 3 f false, .rows n cap' 3 g false]) := by
  refine cv_of_run 1000 sc36 sb36 27 [.tmp 4] tabOk (by kernel_rfl) Try.func36 rfl (by kernel_rfl) Try.ntmps36 rfl (by simp) rfl (by simp [bdL, SV.bd]) ?_
  simp (config := { maxSteps := 1000000 }) (disch := omega) only [go_sem, Int.reduceToNat, ↓reduceIte, Nat.reduceLT, Nat.reduceEqDiff, Nat.reduceAdd, Nat.reduceMul, Nat.reduceSub, Nat.reduceBEq, Nat.reduceLeDiff, reduceCtorEq, Nat.reduceLT, ↓Br_true, ↓Br_false, bind, pure, sc36, sb36]
  refine ⟨Nat, fun k => k ≤ n, fun k => n - k, fun k => [(0, .slc 0 0 n cap), (1, .slc 1 0 n cap'), (5, .f (.int .i64 k))], fun _ => [.rows n cap 3 f false, .rows n cap' 3 g false], 0, (by intro _; simp), ?_, (by (try refine Or.inl ?_); simp [Cov, covE, covH, cb_dead, cb_lit, cb_rows, cb_cells, cd_lit, cd_rows, cd_cells, cd_dead, covRow, look, SV.known, SV.bd, bdL, h1, h2] <;> omega), ?_⟩
  · omega
  · intro k hk
    by_cases hlt : k < n
    · have hd : decide ((k : Int) < n) = true := decide_eq_true (by omega)
      have e1 := hf k hlt
      have e2 := hg k hlt
      simp (config := { maxSteps := 1000000 }) (disch := omega) only [go_sem, Int.reduceToNat, ↓reduceIte, Nat.reduceLT, Nat.reduceEqDiff, Nat.reduceAdd, Nat.reduceMul, Nat.reduceSub, Nat.reduceBEq, Nat.reduceLeDiff, reduceCtorEq, Nat.reduceLT, ↓Br_true, ↓Br_false, bind, pure, sc36, sb36, hd, e1, e2]
      refine ⟨by first | (unfold SOk; kernel_rfl) | (unfold SBOk; kernel_rfl), ?_⟩
      repeat' (first | (with_reducible refine And.intro (by first | (unfold SOk; kernel_rfl) | (unfold SBOk; kernel_rfl) | (with_reducible assumption) | omega | assumption) ?_) | (with_reducible refine Br_intro (fun hc => ?_) (fun hc => ?_)) | ((first | (refine callR (by rfl) (by rfl) (by rfl) (eqWindow_cv _ _ _) ?_; rintro _ _ ⟨rfl, rfl⟩) | (refine callM (by rfl) (by rfl) (by rfl) (eqWindow_cv _ _ _) ?_; rintro _ _ ⟨rfl, rfl⟩) | (refine callE (by rfl) (eqWindow_cv _ _ _) (by rfl) ?_)); simp (config := { maxSteps := 1000000 }) (disch := omega) only [go_sem, Int.reduceToNat, ↓reduceIte, Nat.reduceLT, Nat.reduceEqDiff, Nat.reduceAdd, Nat.reduceMul, Nat.reduceSub, Nat.reduceBEq, Nat.reduceLeDiff, reduceCtorEq, Nat.reduceLT, ↓Br_true, ↓Br_false, bind, pure, sc36, sb36, hd, e1, e2]) | ((with_reducible show WidN _ _ _ _ _ _ _ _); (first | refine widL (by decide) (by with_reducible assumption) ?_ | refine widL (by decide) (FWok_nn (by with_reducible assumption)) ?_ | refine widN (by decide) (fun c hc => ?_)); simp (config := { maxSteps := 1000000 }) (disch := omega) only [go_sem, Int.reduceToNat, ↓reduceIte, Nat.reduceLT, Nat.reduceEqDiff, Nat.reduceAdd, Nat.reduceMul, Nat.reduceSub, Nat.reduceBEq, Nat.reduceLeDiff, reduceCtorEq, Nat.reduceLT, ↓Br_true, ↓Br_false, bind, pure, sc36, sb36, hd, e1, e2]))
      all_goals exact ⟨k + 1, by omega, by omega, by (try refine Or.inl ?_); simp [Cov, covE, covH, cb_dead, cb_lit, cb_rows, cb_cells, cd_lit, cd_rows, cd_cells, cd_dead, covRow, look, SV.known, SV.bd, bdL, h1, h2] <;> omega⟩
    · have hd : decide ((k : Int) < n) = false := decide_eq_false (by omega)
      simp (config := { maxSteps := 1000000 }) (disch := omega) only [go_sem, Int.reduceToNat, ↓reduceIte, Nat.reduceLT, Nat.reduceEqDiff, Nat.reduceAdd, Nat.reduceMul, Nat.reduceSub, Nat.reduceBEq, Nat.reduceLeDiff, reduceCtorEq, Nat.reduceLT, ↓Br_true, ↓Br_false, bind, pure, sc36, sb36, hd]
end Go.Proofs.Ytgepaaakleomeac.Vx
