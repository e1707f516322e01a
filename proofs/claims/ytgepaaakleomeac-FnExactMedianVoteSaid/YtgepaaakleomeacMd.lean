/- The middle one of votes, in the abstract: sorting by insertion. -/
import Derived.Test.YtgepaaakleomeacVz
import Derived.Test.YtgepaaakleomeacSc
import Derived.Test.YtgepaaakleomeacGe
namespace Go.Proofs.Ytgepaaakleomeac.Vx
open Go Go.RowKit Fl
set_option maxRecDepth 100000
set_option maxHeartbeats 2000000
set_option linter.unusedSimpArgs false
set_option linter.unusedVariables false

/-- Where x is put among the first so many. -/
def posF (S : Nat → Nat) (x : Nat) : Nat → Nat
  | 0 => 0
  | j + 1 => if flt x (S j) then posF S x j else j + 1
theorem posF_le (S : Nat → Nat) (x : Nat) : ∀ k, posF S x k ≤ k
  | 0 => Nat.le_refl 0
  | j + 1 => by have := posF_le S x j; simp only [posF]; split <;> omega
def dIns (S : Nat → Nat) (x j t : Nat) : Nat := if t < j then S t else if t = j then x else S (t - 1)
def sortF (p : Nat → Nat) : Nat → Nat → Nat
  | 0 => fun _ => 0
  | k + 1 => dIns (sortF p k) (p k) (posF (sortF p k) (p k) k)
def f32R (x : Nat) : List FV := [.flt .f32 x]
theorem Clone_cv (n cap : Nat) (f : Nat → List FV) (hc : n ≤ cap) (hn : 0 < n) (hn2 : n ≤ 12) :
    CV Try.prog 41 [.slc 0 0 n cap] [.rows n cap 1 f false] (fun v h => ∃ cap' g, (∀ i, i < n → g i = f i) ∧ n ≤ cap' ∧ v = .slc 1 0 n cap' ∧ h = [.rows n cap 1 f false, .rows n cap' 1 g true]) := by
  refine cv_of_run 1000 sc41 sb41 8 [.tmp 2] tabOk (by kernel_rfl) Try.func41 rfl (by kernel_rfl) Try.ntmps41 rfl (by simp) rfl (by simp [bdL, SV.bd]) ?_
  simp (config := { maxSteps := 1000000 }) (disch := omega) only [go_sem, Int.reduceToNat, ↓reduceIte, Nat.reduceLT, Nat.reduceEqDiff, Nat.reduceAdd, Nat.reduceMul, Nat.reduceSub, Nat.reduceBEq, Nat.reduceLeDiff, reduceCtorEq, Nat.reduceLT, ↓Br_true, ↓Br_false, bind, pure, sc41, sb41]
  refine ⟨⟨Nat.le_refl _, by omega⟩, Or.inl ⟨by simp only; omega, fun cap' h => ?_⟩⟩
  simp (config := { maxSteps := 1000000 }) (disch := omega) only [go_sem, Int.reduceToNat, ↓reduceIte, Nat.reduceLT, Nat.reduceEqDiff, Nat.reduceAdd, Nat.reduceMul, Nat.reduceSub, Nat.reduceBEq, Nat.reduceLeDiff, reduceCtorEq, Nat.reduceLT, ↓Br_true, ↓Br_false, bind, pure, sc41, sb41]
  exact ⟨cap', catR noRow 0 (shR f 0), fun i hi => by simp [catR, shR], by simpa using h, rfl, rfl⟩
def cmpI (a b : Nat) : Int := if flt a b then -1 else if flt b a then 1 else 0
theorem cmpI_neg (a b : Nat) : decide (cmpI a b < 0) = flt a b := by
  unfold cmpI
  cases flt a b <;> cases flt b a <;> decide
theorem cmp_cv (a b : Nat) : CV Try.prog 43 [.f (.flt .f32 a), .f (.flt .f32 b)] [] (fun v h => v = .f (.int .i64 (cmpI a b)) ∧ h = []) := by
  refine cv_of_run 1000 sc43 sb43 13 [.tmp 4] tabOk (by kernel_rfl) Try.func43 rfl (by kernel_rfl) Try.ntmps43 rfl (by simp) rfl (by simp [bdL, SV.bd]) ?_
  simp (config := { maxSteps := 1000000 }) (disch := omega) only [go_sem, Int.reduceToNat, ↓reduceIte, Nat.reduceLT, Nat.reduceEqDiff, Nat.reduceAdd, Nat.reduceMul, Nat.reduceSub, Nat.reduceBEq, Nat.reduceLeDiff, reduceCtorEq, Nat.reduceLT, ↓Br_true, ↓Br_false, bind, pure, sc43, sb43]
  repeat' (first | (with_reducible refine And.intro (by first | (unfold SOk; kernel_rfl) | (unfold SBOk; kernel_rfl) | (with_reducible assumption) | omega | assumption) ?_) | (with_reducible refine Br_intro (fun hc => ?_) (fun hc => ?_)) | ((with_reducible show WidN _ _ _ _ _ _ _ _); (first | refine widL (by decide) (by with_reducible assumption) ?_ | refine widL (by decide) (FWok_nn (by with_reducible assumption)) ?_ | refine widN (by decide) (fun c hc => ?_)); simp (config := { maxSteps := 1000000 }) (disch := omega) only [go_sem, Int.reduceToNat, ↓reduceIte, Nat.reduceLT, Nat.reduceEqDiff, Nat.reduceAdd, Nat.reduceMul, Nat.reduceSub, Nat.reduceBEq, Nat.reduceLeDiff, reduceCtorEq, Nat.reduceLT, ↓Br_true, ↓Br_false, bind, pure, sc43, sb43]))
  all_goals simp [cmpI, *]
theorem sort_step {p S : Nat → Nat} {i j n : Nat} {y : Nat → List FV} (hS : S = sortF p i) (hjp : posF S (p i) i = j) (hy : ∀ t, t < n → y t = f32R (if t < i + 1 then dIns S (p i) j t else p t)) :
    ∀ t, t < n → y t = f32R (if t < i + 1 then sortF p (i + 1) t else p t) := fun t ht => by
  rw [hy t ht, show sortF p (i + 1) = dIns S (p i) j by rw [sortF, ← hS, hjp]]
theorem swap_step {p S : Nat → Nat} {i j n : Nat} {y : Nat → List FV} (hj : j + 1 ≤ i) (hi : i < n) (hy : ∀ t, t < n → y t = f32R (if t < i + 1 then dIns S (p i) (j + 1) t else p t)) :
    ∀ t, t < n → updR (updR y (j + 1) 0 (.flt .f32 (S j))) j 0 (.flt .f32 (p i)) t = f32R (if t < i + 1 then dIns S (p i) j t else p t) := fun t ht => by
  have e1 := hy (j + 1) (by omega)
  have e2 := hy j (by omega)
  rw [if_pos (by omega), f32R] at e1 e2
  simp only [updR]
  by_cases c : t = j
  · subst c
    rw [if_pos rfl, if_neg (by omega), e2, if_pos (by omega)]
    simp [dIns, f32R, rset]
  · rw [if_neg c]
    by_cases d : t = j + 1
    · subst d
      rw [if_pos rfl, e1, if_pos (by omega)]
      simp [dIns, f32R, rset]
      intro h; omega
    · rw [if_neg d, hy t ht]
      by_cases e : t < i + 1
      · rw [if_pos e, if_pos e]
        congr 1
        unfold dIns
        by_cases h1 : t < j
        · rw [if_pos (by omega), if_pos h1]
        · rw [if_neg (by omega), if_neg d, if_neg h1, if_neg c]
      · rw [if_neg e, if_neg e]
theorem insSort_cv (p : Nat → Nat) (n cap : Nat) (f : Nat → List FV) (hc : n ≤ cap) (hn : 0 < n) (hn2 : n ≤ 12) (hf : ∀ i, i < n → f i = f32R (p i)) :
    CV Try.prog 65 [.slc 0 0 n cap, .f (.int .i64 0), .f (.int .i64 n), .fn 43 [] []] [.rows n cap 1 f true] (fun v h => v = .tup [] ∧ ∃ g, (∀ i, i < n → g i = f32R (sortF p n i)) ∧ h = [.rows n cap 1 g true]) := by
  refine cv_of_run 1000 sc65 sb65 53 [] tabOk (by kernel_rfl) Try.func65 rfl (by kernel_rfl) Try.ntmps65 rfl (by simp) rfl (by simp [bdL, SV.bd]) ?_
  simp (config := { maxSteps := 1000000 }) (disch := omega) only [go_sem, Int.reduceToNat, ↓reduceIte, Nat.reduceLT, Nat.reduceEqDiff, Nat.reduceAdd, Nat.reduceMul, Nat.reduceSub, Nat.reduceBEq, Nat.reduceLeDiff, reduceCtorEq, Nat.reduceLT, ↓Br_true, ↓Br_false, bind, pure, sc65, sb65]
  refine ⟨(Nat × (Nat → List FV)), fun s => 1 ≤ s.1 ∧ s.1 ≤ n ∧ ∀ t, t < n → s.2 t = f32R (if t < s.1 then sortF p s.1 t else p t), fun s => n - s.1, fun s => [(0, .slc 0 0 n cap), (1, .f (.int .i64 0)), (2, .f (.int .i64 n)), (3, .fn 43 [] []), (8, .f (.int .i64 s.1))], fun s => [.rows n cap 1 s.2 true], (1, f), (by intro _; simp), ?_, (by (try refine Or.inl ?_); simp [Cov, covE, covH, cb_dead, cb_lit, cb_rows, cb_cells, cd_lit, cd_rows, cd_cells, cd_dead, covRow, look, SV.known, SV.bd, bdL, hc] <;> omega), ?_⟩
  · refine ⟨Nat.le_refl 1, hn, fun t ht => ?_⟩
    show f t = f32R (if t < 1 then sortF p 1 t else p t)
    rw [hf t ht]
    by_cases c : t < 1
    · obtain rfl : t = 0 := by omega
      simp [sortF, dIns, posF]
    · simp [c]
  · rintro ⟨i, g⟩ ⟨h1, hi, hg⟩
    simp only at h1 hi hg
    by_cases hlt : i < n
    · have hd : decide ((i : Int) < n) = true := decide_eq_true (by omega)
      simp (config := { maxSteps := 1000000 }) (disch := omega) only [go_sem, Int.reduceToNat, ↓reduceIte, Nat.reduceLT, Nat.reduceEqDiff, Nat.reduceAdd, Nat.reduceMul, Nat.reduceSub, Nat.reduceBEq, Nat.reduceLeDiff, reduceCtorEq, Nat.reduceLT, ↓Br_true, ↓Br_false, bind, pure, sc65, sb65, hd]
      have hS : ∃ S, S = sortF p i := ⟨_, rfl⟩
      obtain ⟨S, hS⟩ := hS
      rw [← hS] at hg
      refine ⟨(Nat × (Nat → List FV)), fun s => s.1 ≤ i ∧ posF S (p i) s.1 = posF S (p i) i ∧ ∀ t, t < n → s.2 t = f32R (if t < i + 1 then dIns S (p i) s.1 t else p t), fun s => s.1, fun s => [(0, .slc 0 0 n cap), (1, .f (.int .i64 0)), (2, .f (.int .i64 n)), (3, .fn 43 [] []), (8, .f (.int .i64 i)), (9, .f (.int .i64 s.1))], fun s => [.rows n cap 1 s.2 true], (i, g), (by intro _; simp), ?_, (by (try refine Or.inl ?_); simp [Cov, covE, covH, cb_dead, cb_lit, cb_rows, cb_cells, cd_lit, cd_rows, cd_cells, cd_dead, covRow, look, SV.known, SV.bd, bdL, hc] <;> omega), ?_⟩
      · refine ⟨Nat.le_refl i, rfl, fun t ht => ?_⟩
        show g t = f32R (if t < i + 1 then dIns S (p i) i t else p t)
        rw [hg t ht]
        by_cases c : t < i
        · simp [c, dIns, show t < i + 1 by omega]
        · by_cases e : t = i
          · subst e; simp [dIns]
          · simp [c, show ¬ t < i + 1 by omega]
      · rintro ⟨j, y⟩ ⟨hj, hpos, hy⟩
        simp only at hj hpos hy
        rcases j with _ | j
        · have hd0 : decide ((0 : Int) < ((0 : Nat) : Int)) = false := by decide
          simp (config := { maxSteps := 1000000 }) (disch := omega) only [go_sem, Int.reduceToNat, ↓reduceIte, Nat.reduceLT, Nat.reduceEqDiff, Nat.reduceAdd, Nat.reduceMul, Nat.reduceSub, Nat.reduceBEq, Nat.reduceLeDiff, reduceCtorEq, Nat.reduceLT, ↓Br_true, ↓Br_false, bind, pure, sc65, sb65, hd0]
          repeat' (first | (with_reducible refine And.intro (by first | (unfold SOk; kernel_rfl) | (unfold SBOk; kernel_rfl) | (with_reducible assumption) | omega | assumption) ?_) | (with_reducible refine Br_intro (fun hc => ?_) (fun hc => ?_)) | ((with_reducible show WidN _ _ _ _ _ _ _ _); (first | refine widL (by decide) (by with_reducible assumption) ?_ | refine widL (by decide) (FWok_nn (by with_reducible assumption)) ?_ | refine widN (by decide) (fun c hc => ?_)); simp (config := { maxSteps := 1000000 }) (disch := omega) only [go_sem, Int.reduceToNat, ↓reduceIte, Nat.reduceLT, Nat.reduceEqDiff, Nat.reduceAdd, Nat.reduceMul, Nat.reduceSub, Nat.reduceBEq, Nat.reduceLeDiff, reduceCtorEq, Nat.reduceLT, ↓Br_true, ↓Br_false, bind, pure, sc65, sb65, hd0]))
          exact ⟨(i + 1, y), ⟨by omega, by omega, sort_step hS hpos.symm hy⟩, by omega, by (try refine Or.inl ?_); simp [Cov, covE, covH, cb_dead, cb_lit, cb_rows, cb_cells, cd_lit, cd_rows, cd_cells, cd_dead, covRow, look, SV.known, SV.bd, bdL, hc] <;> omega⟩
        · have hd0 : decide ((0 : Int) < ((j + 1 : Nat) : Int)) = true := decide_eq_true (by omega)
          have e1 := hy (j + 1) (by omega)
          have e2 := hy j (by omega)
          rw [if_pos (by omega), f32R] at e1 e2
          have v1 : dIns S (p i) (j + 1) (j + 1) = p i := by simp [dIns]
          have v2 : dIns S (p i) (j + 1) j = S j := by simp [dIns]
          rw [v1] at e1
          rw [v2] at e2
          have es : ((j + 1 : Nat) : Int) - 1 = j := by omega
          have ec := cmpI_neg (p i) (S j)
          simp (config := { maxSteps := 1000000 }) (disch := omega) only [go_sem, Int.reduceToNat, ↓reduceIte, Nat.reduceLT, Nat.reduceEqDiff, Nat.reduceAdd, Nat.reduceMul, Nat.reduceSub, Nat.reduceBEq, Nat.reduceLeDiff, reduceCtorEq, Nat.reduceLT, ↓Br_true, ↓Br_false, bind, pure, sc65, sb65, hd0, e1, e2, es]
          repeat' (first | (with_reducible refine And.intro (by first | (unfold SOk; kernel_rfl) | (unfold SBOk; kernel_rfl) | (with_reducible assumption) | omega | assumption) ?_) | (with_reducible refine Br_intro (fun hc => ?_) (fun hc => ?_)) | ((have cc := cmp_cv (p i) (S j); (first | ((first | refine callR (by rfl) (by rfl) (by rfl) cc ?_ | refine callM (by rfl) (by rfl) (by rfl) cc ?_); clear cc; rintro _ _ ⟨rfl, rfl⟩) | (refine callE (by rfl) cc (by rfl) ?_; clear cc))); simp (config := { maxSteps := 1000000 }) (disch := omega) only [go_sem, Int.reduceToNat, ↓reduceIte, Nat.reduceLT, Nat.reduceEqDiff, Nat.reduceAdd, Nat.reduceMul, Nat.reduceSub, Nat.reduceBEq, Nat.reduceLeDiff, reduceCtorEq, Nat.reduceLT, ↓Br_true, ↓Br_false, bind, pure, sc65, sb65, hd0, e1, e2, es, ec]) | ((with_reducible show WidN _ _ _ _ _ _ _ _); (first | refine widL (by decide) (by with_reducible assumption) ?_ | refine widL (by decide) (FWok_nn (by with_reducible assumption)) ?_ | refine widN (by decide) (fun c hc => ?_)); simp (config := { maxSteps := 1000000 }) (disch := omega) only [go_sem, Int.reduceToNat, ↓reduceIte, Nat.reduceLT, Nat.reduceEqDiff, Nat.reduceAdd, Nat.reduceMul, Nat.reduceSub, Nat.reduceBEq, Nat.reduceLeDiff, reduceCtorEq, Nat.reduceLT, ↓Br_true, ↓Br_false, bind, pure, sc65, sb65, hd0, e1, e2, es, ec]))
          · refine ⟨Unit, fun _ => True, fun _ => [(0, .slc 0 0 n cap), (1, .f (.int .i64 0)), (2, .f (.int .i64 n)), (3, .fn 43 [] []), (8, .f (.int .i64 i)), (9, .f (.int .i64 ((j + 1 : Nat) : Int)))], fun _ => [.rows n cap 1 (updR (updR y (j + 1) 0 (.flt .f32 (S j))) j 0 (.flt .f32 (p i))) true], ?_, ?_⟩
            · simp (config := { maxSteps := 1000000 }) (disch := omega) only [go_sem, Int.reduceToNat, ↓reduceIte, Nat.reduceLT, Nat.reduceEqDiff, Nat.reduceAdd, Nat.reduceMul, Nat.reduceSub, Nat.reduceBEq, Nat.reduceLeDiff, reduceCtorEq, Nat.reduceLT, ↓Br_true, ↓Br_false, bind, pure, sc65, sb65, e1, e2, es]
              repeat' (first | omega | (with_reducible refine And.intro ?_ ?_))
              all_goals exact ⟨(), trivial, by (try refine Or.inl ?_); simp [Cov, covE, covH, cb_dead, cb_lit, cb_rows, cb_cells, cd_lit, cd_rows, cd_cells, cd_dead, covRow, look, SV.known, SV.bd, bdL, hc, es, e1, e2] <;> omega⟩
            · rintro ⟨⟩ _
              refine ⟨by simp, ?_⟩
              simp (config := { maxSteps := 1000000 }) (disch := omega) only [go_sem, Int.reduceToNat, ↓reduceIte, Nat.reduceLT, Nat.reduceEqDiff, Nat.reduceAdd, Nat.reduceMul, Nat.reduceSub, Nat.reduceBEq, Nat.reduceLeDiff, reduceCtorEq, Nat.reduceLT, ↓Br_true, ↓Br_false, bind, pure, sc65, sb65, es]
              refine ⟨(j, updR (updR y (j + 1) 0 (.flt .f32 (S j))) j 0 (.flt .f32 (p i))), ⟨by omega, ?_, swap_step hj hlt hy⟩, by omega, by (try refine Or.inl ?_); simp [Cov, covE, covH, cb_dead, cb_lit, cb_rows, cb_cells, cd_lit, cd_rows, cd_cells, cd_dead, covRow, look, SV.known, SV.bd, bdL, hc, es] <;> omega⟩
              rw [← hpos]; simp [posF, hc]
          · have hjp : posF S (p i) i = j + 1 := by rw [← hpos]; simp [posF, hc]
            exact ⟨(i + 1, y), ⟨by omega, by omega, sort_step hS hjp hy⟩, by omega, by (try refine Or.inl ?_); simp [Cov, covE, covH, cb_dead, cb_lit, cb_rows, cb_cells, cd_lit, cd_rows, cd_cells, cd_dead, covRow, look, SV.known, SV.bd, bdL, hc] <;> omega⟩
    · have hd : decide ((i : Int) < n) = false := decide_eq_false (by omega)
      simp (config := { maxSteps := 1000000 }) (disch := omega) only [go_sem, Int.reduceToNat, ↓reduceIte, Nat.reduceLT, Nat.reduceEqDiff, Nat.reduceAdd, Nat.reduceMul, Nat.reduceSub, Nat.reduceBEq, Nat.reduceLeDiff, reduceCtorEq, Nat.reduceLT, ↓Br_true, ↓Br_false, bind, pure, sc65, sb65, hd]
      obtain rfl : i = n := by omega
      exact ⟨g, fun t ht => by rw [hg t ht, if_pos ht], rfl⟩
theorem stable_cv (p : Nat → Nat) (n cap : Nat) (f : Nat → List FV) (hc : n ≤ cap) (hn : 0 < n) (hn2 : n ≤ 12) (hf : ∀ i, i < n → f i = f32R (p i)) :
    CV Try.prog 59 [.slc 0 0 n cap, .f (.int .i64 n), .fn 43 [] []] [.rows n cap 1 f true] (fun v h => v = .tup [] ∧ ∃ g, (∀ i, i < n → g i = f32R (sortF p n i)) ∧ h = [.rows n cap 1 g true]) := by
  have h20 : decide ((20 : Int) ≤ n) = false := decide_eq_false (by omega)
  have h20b : decide ((20 : Int) < n) = false := decide_eq_false (by omega)
  refine cv_of_run 1000 sc59 sb59 63 [] tabOk (by kernel_rfl) Try.func59 rfl (by kernel_rfl) Try.ntmps59 rfl (by simp) rfl (by simp [bdL, SV.bd]) ?_
  simp (config := { maxSteps := 1000000 }) (disch := omega) only [go_sem, Int.reduceToNat, ↓reduceIte, Nat.reduceLT, Nat.reduceEqDiff, Nat.reduceAdd, Nat.reduceMul, Nat.reduceSub, Nat.reduceBEq, Nat.reduceLeDiff, reduceCtorEq, Nat.reduceLT, ↓Br_true, ↓Br_false, bind, pure, sc59, sb59]
  refine ⟨Unit, fun _ => True, fun _ => 0, fun _ => [(0, .slc 0 0 n cap), (1, .f (.int .i64 n)), (2, .fn 43 [] []), (6, .f (.int .i64 20)), (7, .f (.int .i64 0)), (8, .f (.int .i64 20))], fun _ => [.rows n cap 1 f true], (), (by intro _; simp), ?_, (by (try refine Or.inl ?_); simp [Cov, covE, covH, cb_dead, cb_lit, cb_rows, cb_cells, cd_lit, cd_rows, cd_cells, cd_dead, covRow, look, SV.known, SV.bd, bdL, hc] <;> omega), ?_⟩
  · trivial
  · intro _ _
    simp (config := { maxSteps := 1000000 }) (disch := omega) only [go_sem, Int.reduceToNat, ↓reduceIte, Nat.reduceLT, Nat.reduceEqDiff, Nat.reduceAdd, Nat.reduceMul, Nat.reduceSub, Nat.reduceBEq, Nat.reduceLeDiff, reduceCtorEq, Nat.reduceLT, ↓Br_true, ↓Br_false, bind, pure, sc59, sb59, h20]
    have cc := insSort_cv p n cap f hc hn hn2 hf; (first | refine callR (by rfl) (by rfl) (by rfl) cc ?_ | refine callM (by rfl) (by rfl) (by rfl) cc ?_ | refine callG (by rfl) (by rfl) (by rfl) cc ?_); clear cc; rintro _ _ ⟨rfl, g, hg, rfl⟩
    simp (config := { maxSteps := 1000000 }) (disch := omega) only [go_sem, Int.reduceToNat, ↓reduceIte, Nat.reduceLT, Nat.reduceEqDiff, Nat.reduceAdd, Nat.reduceMul, Nat.reduceSub, Nat.reduceBEq, Nat.reduceLeDiff, reduceCtorEq, Nat.reduceLT, ↓Br_true, ↓Br_false, bind, pure, sc59, sb59]
    refine ⟨Unit, fun _ => True, fun _ => 0, fun _ => [(1, .f (.int .i64 n)), (6, .f (.int .i64 20))], fun _ => [.rows n cap 1 g true], (), (by intro _; simp), ?_, (by (try refine Or.inl ?_); simp [Cov, covE, covH, cb_dead, cb_lit, cb_rows, cb_cells, cd_lit, cd_rows, cd_cells, cd_dead, covRow, look, SV.known, SV.bd, bdL, hc] <;> omega), ?_⟩
    · trivial
    · intro _ _
      simp (config := { maxSteps := 1000000 }) (disch := omega) only [go_sem, Int.reduceToNat, ↓reduceIte, Nat.reduceLT, Nat.reduceEqDiff, Nat.reduceAdd, Nat.reduceMul, Nat.reduceSub, Nat.reduceBEq, Nat.reduceLeDiff, reduceCtorEq, Nat.reduceLT, ↓Br_true, ↓Br_false, bind, pure, sc59, sb59, h20b]
      exact ⟨g, hg, rfl⟩
theorem SortStable_cv (p : Nat → Nat) (n cap : Nat) (f : Nat → List FV) (hc : n ≤ cap) (hn : 0 < n) (hn2 : n ≤ 12) (hf : ∀ i, i < n → f i = f32R (p i)) :
    CV Try.prog 42 [.slc 0 0 n cap, .fn 43 [] []] [.rows n cap 1 f true] (fun v h => v = .tup [] ∧ ∃ g, (∀ i, i < n → g i = f32R (sortF p n i)) ∧ h = [.rows n cap 1 g true]) := by
  refine cv_of_run 1000 sc42 sb42 9 [] tabOk (by kernel_rfl) Try.func42 rfl (by kernel_rfl) Try.ntmps42 rfl (by simp) rfl (by simp [bdL, SV.bd]) ?_
  simp (config := { maxSteps := 1000000 }) (disch := omega) only [go_sem, Int.reduceToNat, ↓reduceIte, Nat.reduceLT, Nat.reduceEqDiff, Nat.reduceAdd, Nat.reduceMul, Nat.reduceSub, Nat.reduceBEq, Nat.reduceLeDiff, reduceCtorEq, Nat.reduceLT, ↓Br_true, ↓Br_false, bind, pure, sc42, sb42]
  have cc := stable_cv p n cap f hc hn hn2 hf; (first | refine callR (by rfl) (by rfl) (by rfl) cc ?_ | refine callM (by rfl) (by rfl) (by rfl) cc ?_ | refine callG (by rfl) (by rfl) (by rfl) cc ?_); clear cc; rintro _ _ ⟨rfl, g, hg, rfl⟩
  simp (config := { maxSteps := 1000000 }) (disch := omega) only [go_sem, Int.reduceToNat, ↓reduceIte, Nat.reduceLT, Nat.reduceEqDiff, Nat.reduceAdd, Nat.reduceMul, Nat.reduceSub, Nat.reduceBEq, Nat.reduceLeDiff, reduceCtorEq, Nat.reduceLT, ↓Br_true, ↓Br_false, bind, pure, sc42, sb42]
  exact ⟨g, hg, rfl⟩
end Go.Proofs.Ytgepaaakleomeac.Vx
