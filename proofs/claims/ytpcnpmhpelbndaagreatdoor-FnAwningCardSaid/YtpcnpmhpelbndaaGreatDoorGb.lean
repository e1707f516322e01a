/- Awnings, in the abstract: the best of several; the law. -/
import Derived.Test.YtpcnpmhpelbndaaGreatDoorGf
import Derived.Test.YtpcnpmhpelbndaaGreatDoorVs
namespace Go.Proofs.YtpcnpmhpelbndaaGreatDoor.Vx
open Go Go.RowKit Fl
set_option maxRecDepth 100000
set_option linter.unusedSimpArgs false
set_option linter.unusedVariables false

/-- The first of the least, after so many. -/
def bst (g : Nat → Nat) : Nat → Nat × Nat
  | 0 => (0, g 0)
  | k + 1 => if flt (g k) (bst g k).2 then (k, g k) else bst g k
theorem flt_irr (a : Nat) : flt a a = false := by
  cases h : flt a a
  · rfl
  · have := (flt_key h).2.2; omega
theorem bst_one (g : Nat → Nat) : bst g 1 = (0, g 0) := by simp [bst, flt_irr]
theorem bst_mem (g : Nat → Nat) {p : Nat → Prop} : ∀ n, (∀ k, k ≤ n - 1 → p (g k)) → p (bst g n).2
  | 0, h => h 0 (by omega)
  | n + 1, h => by
    simp only [bst]; split
    · exact h n (by omega)
    · exact bst_mem g n fun k hk => h k (by omega)
def bestC (A : Nat → Awn) (n : Nat) (x : Nat → Int) (a : Int) : Int :=
  if awnsC A n x (inn a 0 255) = 0 then (if 8 < n then 3 else if n = 0 then 6 else 0) else awnsC A n x (inn a 0 255)
def bestV (c : Int) (b : Nat × Nat) : SV := .tup [.f (.int .i64 (if c = 0 then b.1 else 0)), .f (.flt .f32 (if c = 0 then b.2 else 0)), .f (.int .i64 c)]
def dayA (A : Nat → Awn) (x : Nat → Int) (a : Int) (i : Nat) : Nat := dayF x a (A i).o (A i).d (A i).g (A i).l
theorem awnsC_zero {A : Nat → Awn} {n : Nat} {x : Nat → Int} {r : Bool} (h : awnsC A n x r = 0) : (∀ i, i < n → vAwning (A i).o (A i).d (A i).g (A i).l = true) ∧ vSun x = true ∧ r = true := by
  unfold awnsC at h
  split at h
  · rename_i hc
    refine ⟨fun i hi => List.all_eq_true.1 hc i (by simpa using hi), ?_⟩
    unfold sunC at h
    split at h
    · split at h
      · exact ⟨by assumption, by assumption⟩
      · simp at h
    · simp at h
  · simp at h
theorem awnAt_row (A : Nat → Awn) {n cap i : Nat} {f : Nat → List FV} (hf : f i = (A i).row) (hi : i < n) (hc : n ≤ cap) : AwnAt (.rows n cap 4 f false) i (i < n) (A i).o (A i).d (A i).g (A i).l := by
  refine ⟨?_, ?_, ?_, ?_, hi, rfl, rfl, fun _ => rfl, fun _ => rfl, fun _ => trivial, ⟨rfl, rfl⟩, ⟨⟨Nat.le_refl _, hc⟩, Nat.le_refl _⟩, fun _ _ => rfl⟩ <;> simp [ldOne, hf, Awn.row, rget]
theorem BestAwning_cv (A : Nat → Awn) (n cap : Nat) (f : Nat → List FV) (x : Nat → Int) (a : Int) (hx : Small x) (hn : n ≤ 1048576) (hc : n ≤ cap) (hf : ∀ i, i < n → f i = (A i).row) :
    CV Tryz.prog 59 [.slc 0 0 n cap, sunV x, .f (.int .i64 a)] [.rows n cap 4 f false] (fun v h => v = bestV (bestC A n x a) (bst (dayA A x a) n) ∧ h = [.rows n cap 4 f false]) := by
  refine cv_of_run 1000 sc59 sb59 55 [.tmp 6, .tmp 7, .tmp 8] tabOk (by kernel_rfl) Tryz.func59 rfl (by kernel_rfl) Tryz.ntmps59 rfl (by simp) rfl (by simp [bdL, SV.bd]) ?_
  simp (config := { maxSteps := 1000000 }) (disch := omega) only [go_sem, Int.reduceToNat, ↓reduceIte, Nat.reduceLT, Nat.reduceEqDiff, Nat.reduceAdd, Nat.reduceMul, Nat.reduceSub, Nat.reduceBEq, Nat.reduceLeDiff, reduceCtorEq, Nat.reduceLT, ↓Br_true, ↓Br_false, bind, pure, sc59, sb59]
  refine ⟨by first | (unfold SOk; kernel_rfl) | (unfold SBOk; kernel_rfl), ?_⟩
  repeat' (first | (with_reducible refine And.intro (by first | (unfold SOk; kernel_rfl) | (unfold SBOk; kernel_rfl) | (with_reducible assumption) | omega | assumption) ?_) | (with_reducible refine Br_intro (fun hc => ?_) (fun hc => ?_)) | ((first | (refine callR (by rfl) (by rfl) (by rfl) (isFacing_cv a _) ?_; rintro _ _ ⟨rfl, rfl⟩) | (refine callM (by rfl) (by rfl) (by rfl) (isFacing_cv a _) ?_; rintro _ _ ⟨rfl, rfl⟩) | (refine callMo (by rfl) (by rfl) (by rfl) (isFacing_cv a _) ?_; rintro _ _ ⟨rfl, rfl⟩) | (refine callE (by rfl) (isFacing_cv a _) (by rfl) ?_)); simp (config := { maxSteps := 1000000 }) (disch := omega) only [go_sem, Int.reduceToNat, ↓reduceIte, Nat.reduceLT, Nat.reduceEqDiff, Nat.reduceAdd, Nat.reduceMul, Nat.reduceSub, Nat.reduceBEq, Nat.reduceLeDiff, reduceCtorEq, Nat.reduceLT, ↓Br_true, ↓Br_false, bind, pure, sc59, sb59]) | ((first | (refine callR (by rfl) (by rfl) (by rfl) (awningCode_cv x _ f A n cap hx (by omega) hc hf) ?_; rintro _ _ ⟨rfl, rfl⟩) | (refine callM (by rfl) (by rfl) (by rfl) (awningCode_cv x _ f A n cap hx (by omega) hc hf) ?_; rintro _ _ ⟨rfl, rfl⟩) | (refine callMo (by rfl) (by rfl) (by rfl) (awningCode_cv x _ f A n cap hx (by omega) hc hf) ?_; rintro _ _ ⟨rfl, rfl⟩) | (refine callE (by rfl) (awningCode_cv x _ f A n cap hx (by omega) hc hf) (by rfl) ?_)); simp (config := { maxSteps := 1000000 }) (disch := omega) only [go_sem, Int.reduceToNat, ↓reduceIte, Nat.reduceLT, Nat.reduceEqDiff, Nat.reduceAdd, Nat.reduceMul, Nat.reduceSub, Nat.reduceBEq, Nat.reduceLeDiff, reduceCtorEq, Nat.reduceLT, ↓Br_true, ↓Br_false, bind, pure, sc59, sb59]) | ((with_reducible show WidN _ _ _ _ _ _ _ _); (first | refine widL (by decide) (by with_reducible assumption) ?_ | refine widL (by decide) (FWok_nn (by with_reducible assumption)) ?_ | refine widN (by decide) (fun c hc => ?_)); simp (config := { maxSteps := 1000000 }) (disch := omega) only [go_sem, Int.reduceToNat, ↓reduceIte, Nat.reduceLT, Nat.reduceEqDiff, Nat.reduceAdd, Nat.reduceMul, Nat.reduceSub, Nat.reduceBEq, Nat.reduceLeDiff, reduceCtorEq, Nat.reduceLT, ↓Br_true, ↓Br_false, bind, pure, sc59, sb59]))
  · simp only [Bool.not_eq_true', decide_eq_false_iff_not] at hc
    simp [bestV, bestC, hc]
  · rename_i h1
    simp only [Bool.not_eq_false', decide_eq_true_eq] at h1 hc
    simp [bestV, bestC, h1, show 8 < n by omega]
  · rename_i h1 h2
    simp only [Bool.not_eq_false', decide_eq_true_eq, decide_eq_false_iff_not] at h1 h2 hc
    obtain rfl : n = 0 := by omega
    simp [bestV, bestC, h1]
  · rename_i hcap h1 h2
    simp only [Bool.not_eq_false', decide_eq_true_eq, decide_eq_false_iff_not] at h1 h2 hc
    have z := awnsC_zero h1
    have hf3 : 0 ≤ a ∧ a ≤ 255 := by have := z.2.2; rwa [inn_true] at this
    have hn0 : 0 < n := by omega
    have e0 := hf 0 hn0
    simp only [Awn.row] at e0
    have hC : bestC A n x a = 0 := by simp [bestC, h1, show ¬ 8 < n by omega, show ¬ n = 0 by omega]
    simp (config := { maxSteps := 1000000 }) (disch := omega) only [go_sem, Int.reduceToNat, ↓reduceIte, Nat.reduceLT, Nat.reduceEqDiff, Nat.reduceAdd, Nat.reduceMul, Nat.reduceSub, Nat.reduceBEq, Nat.reduceLeDiff, reduceCtorEq, Nat.reduceLT, ↓Br_true, ↓Br_false, bind, pure, sc59, sb59, e0]
    repeat (with_reducible refine And.intro (by first | omega | assumption | (unfold SOk; kernel_rfl) | (unfold SBOk; kernel_rfl)) ?_)
    (first | (refine callR (by rfl) (by rfl) (by rfl) (dayBehind_cv x a _ _ _ _ hx (by omega) (by omega) z.2.1 (z.1 0 hn0)) ?_; rintro _ _ ⟨rfl, rfl⟩) | (refine callM (by rfl) (by rfl) (by rfl) (dayBehind_cv x a _ _ _ _ hx (by omega) (by omega) z.2.1 (z.1 0 hn0)) ?_; rintro _ _ ⟨rfl, rfl⟩) | (refine callMo (by rfl) (by rfl) (by rfl) (dayBehind_cv x a _ _ _ _ hx (by omega) (by omega) z.2.1 (z.1 0 hn0)) ?_; rintro _ _ ⟨rfl, rfl⟩) | (refine callE (by rfl) (dayBehind_cv x a _ _ _ _ hx (by omega) (by omega) z.2.1 (z.1 0 hn0)) (by rfl) ?_))
    simp (config := { maxSteps := 1000000 }) (disch := omega) only [go_sem, Int.reduceToNat, ↓reduceIte, Nat.reduceLT, Nat.reduceEqDiff, Nat.reduceAdd, Nat.reduceMul, Nat.reduceSub, Nat.reduceBEq, Nat.reduceLeDiff, reduceCtorEq, Nat.reduceLT, ↓Br_true, ↓Br_false, bind, pure, sc59, sb59, e0]
    refine ⟨Nat, fun k => k ≤ n, fun k => n - k, fun k => [(2, .f (.int .i64 a)), (4, .ptr 1 0 0), (10, .f (.int .i64 (bst (dayA A x a) k).1)), (11, .f (.flt .f32 (bst (dayA A x a) k).2)), (37, .slc 0 0 n cap), (38, .f (.int .i64 n)), (39, .f (.int .i64 k))], fun _ => [.rows n cap 4 f false, .cells 48 (fun j => .int .i16 (x j)) true], 0, (by intro _; simp), ?_, (by (try refine Or.inl ?_); simp [Cov, covE, covH, cb_dead, cb_lit, cb_rows, cb_cells, cd_lit, cd_rows, cd_cells, cd_dead, covRow, look, SV.known, SV.bd, bdL, bst, dayA, hcap] <;> omega), ?_⟩
    · omega
    · intro k hk
      by_cases hlt : k < n
      · have hd : decide ((k : Int) < n) = true := decide_eq_true (by omega)
        have e1 := hf k hlt
        simp only [Awn.row] at e1
        simp (config := { maxSteps := 1000000 }) (disch := omega) only [go_sem, Int.reduceToNat, ↓reduceIte, Nat.reduceLT, Nat.reduceEqDiff, Nat.reduceAdd, Nat.reduceMul, Nat.reduceSub, Nat.reduceBEq, Nat.reduceLeDiff, reduceCtorEq, Nat.reduceLT, ↓Br_true, ↓Br_false, bind, pure, sc59, sb59, hd, e1]
        repeat (with_reducible refine And.intro (by first | omega | assumption | (unfold SOk; kernel_rfl) | (unfold SBOk; kernel_rfl)) ?_)
        (first | (refine callR (by rfl) (by rfl) (by rfl) (dayBehind_cv x a _ _ _ _ hx (by omega) (by omega) z.2.1 (z.1 k hlt)) ?_; rintro _ _ ⟨rfl, rfl⟩) | (refine callM (by rfl) (by rfl) (by rfl) (dayBehind_cv x a _ _ _ _ hx (by omega) (by omega) z.2.1 (z.1 k hlt)) ?_; rintro _ _ ⟨rfl, rfl⟩) | (refine callMo (by rfl) (by rfl) (by rfl) (dayBehind_cv x a _ _ _ _ hx (by omega) (by omega) z.2.1 (z.1 k hlt)) ?_; rintro _ _ ⟨rfl, rfl⟩) | (refine callE (by rfl) (dayBehind_cv x a _ _ _ _ hx (by omega) (by omega) z.2.1 (z.1 k hlt)) (by rfl) ?_))
        simp (config := { maxSteps := 1000000 }) (disch := omega) only [go_sem, Int.reduceToNat, ↓reduceIte, Nat.reduceLT, Nat.reduceEqDiff, Nat.reduceAdd, Nat.reduceMul, Nat.reduceSub, Nat.reduceBEq, Nat.reduceLeDiff, reduceCtorEq, Nat.reduceLT, ↓Br_true, ↓Br_false, bind, pure, sc59, sb59, hd, e1]
        refine ⟨fun hc => ?_, fun hc => ?_⟩
        · exact ⟨k + 1, by omega, by omega, by (try refine Or.inl ?_); simp [Cov, covE, covH, cb_dead, cb_lit, cb_rows, cb_cells, cd_lit, cd_rows, cd_cells, cd_dead, covRow, look, SV.known, SV.bd, bdL, bst, dayA, hc, hcap] <;> omega⟩
        · exact ⟨k + 1, by omega, by omega, by (try refine Or.inl ?_); simp [Cov, covE, covH, cb_dead, cb_lit, cb_rows, cb_cells, cd_lit, cd_rows, cd_cells, cd_dead, covRow, look, SV.known, SV.bd, bdL, bst, dayA, hc, hcap] <;> omega⟩
      · have hd : decide ((k : Int) < n) = false := decide_eq_false (by omega)
        simp (config := { maxSteps := 1000000 }) (disch := omega) only [go_sem, Int.reduceToNat, ↓reduceIte, Nat.reduceLT, Nat.reduceEqDiff, Nat.reduceAdd, Nat.reduceMul, Nat.reduceSub, Nat.reduceBEq, Nat.reduceLeDiff, reduceCtorEq, Nat.reduceLT, ↓Br_true, ↓Br_false, bind, pure, sc59, sb59, hd]
        obtain rfl : k = n := by omega
        simp [bestV, hC]
theorem sBestAwning_cv (A : Nat → Awn) (n cap : Nat) (f : Nat → List FV) (x : Nat → Int) (a : Int) (hx : Small x) (hn : n ≤ 1048576) (hcap : n ≤ cap) (hf : ∀ i, i < n → f i = (A i).row) :
    CV Tryz.prog 60 [.slc 0 0 n cap, sunV x, .f (.int .i64 a)] [.rows n cap 4 f false] (fun v h => v = bestV (bestC A n x a) (bst (dayA A x a) n) ∧ h = [.rows n cap 4 f false]) := by
  have hB := fun i (hi : i < n) => awnAt_row A (hf i hi) hi hcap
  refine cv_of_run 1000 sc60 sb60 58 [.tmp 6, .tmp 7, .tmp 8] tabOk (by kernel_rfl) Tryz.func60 rfl (by kernel_rfl) Tryz.ntmps60 rfl (by simp) rfl (by simp [bdL, SV.bd]) ?_
  simp (config := { maxSteps := 1000000 }) (disch := omega) only [go_sem, Int.reduceToNat, ↓reduceIte, Nat.reduceLT, Nat.reduceEqDiff, Nat.reduceAdd, Nat.reduceMul, Nat.reduceSub, Nat.reduceBEq, Nat.reduceLeDiff, reduceCtorEq, Nat.reduceLT, ↓Br_true, ↓Br_false, bind, pure, sc60, sb60]
  refine ⟨Nat, fun k => k ≤ n ∧ (List.range k).all (fun i => (A i).v) = true, fun k => n - k, fun k => [(0, .slc 0 0 n cap), (2, .f (.int .i64 a)), (4, .ptr 1 0 0), (9, .f (.int .i64 k))], fun _ => [.rows n cap 4 f false, .cells 48 (fun j => .int .i16 (x j)) true], 0, (by intro _; simp), ?_, (by (try refine Or.inl ?_); simp [Cov, covE, covH, cb_dead, cb_lit, cb_rows, cb_cells, cd_lit, cd_rows, cd_cells, cd_dead, covRow, look, SV.known, SV.bd, bdL, hcap] <;> omega), ?_⟩
  · exact ⟨by omega, rfl⟩
  · rintro k ⟨hk, hall⟩
    by_cases hlt : k < n
    · have hd : decide ((k : Int) < n) = true := decide_eq_true (by omega)
      simp (config := { maxSteps := 1000000 }) (disch := omega) only [go_sem, Int.reduceToNat, ↓reduceIte, Nat.reduceLT, Nat.reduceEqDiff, Nat.reduceAdd, Nat.reduceMul, Nat.reduceSub, Nat.reduceBEq, Nat.reduceLeDiff, reduceCtorEq, Nat.reduceLT, ↓Br_true, ↓Br_false, bind, pure, sc60, sb60, hd]
      repeat' (first | (with_reducible refine And.intro (by first | (unfold SOk; kernel_rfl) | (unfold SBOk; kernel_rfl) | (with_reducible assumption) | omega | assumption) ?_) | (with_reducible refine Br_intro (fun hc => ?_) (fun hc => ?_)) | ((first | (refine callR (by rfl) (by rfl) (by rfl) (l04Ok_cv _ k _ _ _ _ _ (hB k hlt)) ?_; rintro _ _ ⟨rfl, rfl⟩) | (refine callM (by rfl) (by rfl) (by rfl) (l04Ok_cv _ k _ _ _ _ _ (hB k hlt)) ?_; rintro _ _ ⟨rfl, rfl⟩) | (refine callMo (by rfl) (by rfl) (by rfl) (l04Ok_cv _ k _ _ _ _ _ (hB k hlt)) ?_; rintro _ _ ⟨rfl, rfl⟩) | (refine callE (by rfl) (l04Ok_cv _ k _ _ _ _ _ (hB k hlt)) (by rfl) ?_)); simp (config := { maxSteps := 1000000 }) (disch := omega) only [go_sem, Int.reduceToNat, ↓reduceIte, Nat.reduceLT, Nat.reduceEqDiff, Nat.reduceAdd, Nat.reduceMul, Nat.reduceSub, Nat.reduceBEq, Nat.reduceLeDiff, reduceCtorEq, Nat.reduceLT, ↓Br_true, ↓Br_false, bind, pure, sc60, sb60, hd]) | ((with_reducible show WidN _ _ _ _ _ _ _ _); (first | refine widL (by decide) (by with_reducible assumption) ?_ | refine widL (by decide) (FWok_nn (by with_reducible assumption)) ?_ | refine widN (by decide) (fun c hc => ?_)); simp (config := { maxSteps := 1000000 }) (disch := omega) only [go_sem, Int.reduceToNat, ↓reduceIte, Nat.reduceLT, Nat.reduceEqDiff, Nat.reduceAdd, Nat.reduceMul, Nat.reduceSub, Nat.reduceBEq, Nat.reduceLeDiff, reduceCtorEq, Nat.reduceLT, ↓Br_true, ↓Br_false, bind, pure, sc60, sb60, hd]))
      · simp only [Bool.not_eq_true'] at hc
        have : (List.range n).all (fun i => (A i).v) = false := List.all_eq_false.2 ⟨k, by simpa using hlt, by simp [Awn.v, hc]⟩
        simp [bestV, bestC, awnsC, this]
      · simp only [Bool.not_eq_false'] at hc
        refine ⟨k + 1, ⟨by omega, ?_⟩, by omega, by (try refine Or.inl ?_); simp [Cov, covE, covH, cb_dead, cb_lit, cb_rows, cb_cells, cd_lit, cd_rows, cd_cells, cd_dead, covRow, look, SV.known, SV.bd, bdL, hcap] <;> omega⟩
        rw [List.range_succ, List.all_append, hall]; simp [Awn.v, hc]
    · obtain rfl : k = n := by omega
      have hd : decide ((k : Int) < k) = false := decide_eq_false (by omega)
      simp (config := { maxSteps := 1000000 }) (disch := omega) only [go_sem, Int.reduceToNat, ↓reduceIte, Nat.reduceLT, Nat.reduceEqDiff, Nat.reduceAdd, Nat.reduceMul, Nat.reduceSub, Nat.reduceBEq, Nat.reduceLeDiff, reduceCtorEq, Nat.reduceLT, ↓Br_true, ↓Br_false, bind, pure, sc60, sb60, hd]
      have eC : awnsC A k x (inn a 0 255) = sunC x (inn a 0 255) := by simp [awnsC, hall]
      repeat' (first | (with_reducible refine And.intro (by first | (unfold SOk; kernel_rfl) | (unfold SBOk; kernel_rfl) | (with_reducible assumption) | omega | assumption) ?_) | (with_reducible refine Br_intro (fun hc => ?_) (fun hc => ?_)) | ((have cc := l01Ok_cv x hx; (first | ((first | refine callR (by rfl) (by rfl) (by rfl) cc ?_ | refine callM (by rfl) (by rfl) (by rfl) cc ?_ | refine callMo (by rfl) (by rfl) (by rfl) cc ?_); clear cc; rintro _ _ ⟨rfl, rfl⟩) | (refine callE (by rfl) cc (by rfl) ?_; clear cc))); simp (config := { maxSteps := 1000000 }) (disch := omega) only [go_sem, Int.reduceToNat, ↓reduceIte, Nat.reduceLT, Nat.reduceEqDiff, Nat.reduceAdd, Nat.reduceMul, Nat.reduceSub, Nat.reduceBEq, Nat.reduceLeDiff, reduceCtorEq, Nat.reduceLT, ↓Br_true, ↓Br_false, bind, pure, sc60, sb60]) | ((first | (refine callR (by rfl) (by rfl) (by rfl) (l01Faced_cv _ _) ?_; rintro _ _ ⟨rfl, rfl⟩) | (refine callM (by rfl) (by rfl) (by rfl) (l01Faced_cv _ _) ?_; rintro _ _ ⟨rfl, rfl⟩) | (refine callMo (by rfl) (by rfl) (by rfl) (l01Faced_cv _ _) ?_; rintro _ _ ⟨rfl, rfl⟩) | (refine callE (by rfl) (l01Faced_cv _ _) (by rfl) ?_)); simp (config := { maxSteps := 1000000 }) (disch := omega) only [go_sem, Int.reduceToNat, ↓reduceIte, Nat.reduceLT, Nat.reduceEqDiff, Nat.reduceAdd, Nat.reduceMul, Nat.reduceSub, Nat.reduceBEq, Nat.reduceLeDiff, reduceCtorEq, Nat.reduceLT, ↓Br_true, ↓Br_false, bind, pure, sc60, sb60]) | ((with_reducible show WidN _ _ _ _ _ _ _ _); (first | refine widL (by decide) (by with_reducible assumption) ?_ | refine widL (by decide) (FWok_nn (by with_reducible assumption)) ?_ | refine widN (by decide) (fun c hc => ?_)); simp (config := { maxSteps := 1000000 }) (disch := omega) only [go_sem, Int.reduceToNat, ↓reduceIte, Nat.reduceLT, Nat.reduceEqDiff, Nat.reduceAdd, Nat.reduceMul, Nat.reduceSub, Nat.reduceBEq, Nat.reduceLeDiff, reduceCtorEq, Nat.reduceLT, ↓Br_true, ↓Br_false, bind, pure, sc60, sb60]))
      · have e1 : awnsC A k x (inn a 0 255) = 1 := by rw [eC]; simp_all [sunC]
        simp [bestV, bestC, e1]
      · have e1 : awnsC A k x (inn a 0 255) = 2 := by rw [eC]; simp_all [sunC]
        simp [bestV, bestC, e1]
      · rename_i h1 h2
        simp only [Bool.not_eq_true', Bool.not_eq_false', decide_eq_true_eq] at *
        have e1 : awnsC A k x (inn a 0 255) = 0 := by rw [eC]; simp [sunC, h1, h2]
        simp [bestV, bestC, e1, show 8 < k by omega]
      · rename_i h1 h2 h3
        simp only [Bool.not_eq_true', Bool.not_eq_false', decide_eq_true_eq] at *
        have e1 : awnsC A k x (inn a 0 255) = 0 := by rw [eC]; simp [sunC, h1, h2]
        obtain rfl : k = 0 := by omega
        simp [bestV, bestC, e1]
      · rename_i h1 h2 h3
        simp only [Bool.not_eq_true', Bool.not_eq_false', decide_eq_true_eq, decide_eq_false_iff_not] at h1 h2 h3 hc
        have e1 : awnsC A k x (inn a 0 255) = 0 := by rw [eC]; simp [sunC, h1, h2]
        have z := awnsC_zero e1
        have hf3 : 0 ≤ a ∧ a ≤ 255 := by have := z.2.2; rwa [inn_true] at this
        have hn0 : 0 < k := by omega
        have hC : bestC A k x a = 0 := by simp [bestC, e1, show ¬ 8 < k by omega, show ¬ k = 0 by omega]
        have g0 := bst_one (dayA A x a)
        have dE := fun i => day_eq x a (A i).o (A i).d (A i).g (A i).l
        repeat (with_reducible refine And.intro (by first | omega | assumption | (unfold SOk; kernel_rfl) | (unfold SBOk; kernel_rfl)) ?_)
        (first | (refine callR (by rfl) (by rfl) (by rfl) (l04Gusty_cv _ 0 _ x a _ _ _ _ 16777215 (hB 0 hn0) hx (by omega) (by omega) z.2.1 (z.1 0 hn0)) ?_; rintro _ _ ⟨rfl, rfl⟩) | (refine callM (by rfl) (by rfl) (by rfl) (l04Gusty_cv _ 0 _ x a _ _ _ _ 16777215 (hB 0 hn0) hx (by omega) (by omega) z.2.1 (z.1 0 hn0)) ?_; rintro _ _ ⟨rfl, rfl⟩) | (refine callMo (by rfl) (by rfl) (by rfl) (l04Gusty_cv _ 0 _ x a _ _ _ _ 16777215 (hB 0 hn0) hx (by omega) (by omega) z.2.1 (z.1 0 hn0)) ?_; rintro _ _ ⟨rfl, rfl⟩) | (refine callE (by rfl) (l04Gusty_cv _ 0 _ x a _ _ _ _ 16777215 (hB 0 hn0) hx (by omega) (by omega) z.2.1 (z.1 0 hn0)) (by rfl) ?_))
        simp (config := { maxSteps := 1000000 }) (disch := omega) only [go_sem, Int.reduceToNat, ↓reduceIte, Nat.reduceLT, Nat.reduceEqDiff, Nat.reduceAdd, Nat.reduceMul, Nat.reduceSub, Nat.reduceBEq, Nat.reduceLeDiff, reduceCtorEq, Nat.reduceLT, ↓Br_true, ↓Br_false, bind, pure, sc60, sb60, hn0]
        refine ⟨Nat, fun i => 1 ≤ i ∧ i ≤ k, fun i => k - i, fun i => [(0, .slc 0 0 k cap), (2, .f (.int .i64 a)), (4, .ptr 1 0 0), (10, .f (.int .i64 (bst (dayA A x a) i).1)), (11, .f (.flt .f32 (bst (dayA A x a) i).2)), (12, .f (.int .i64 i))], fun _ => [.rows k cap 4 f false, .cells 48 (fun j => .int .i16 (x j)) true], 1, (by intro _; simp), ?_, (by (try refine Or.inl ?_); simp [Cov, covE, covH, cb_dead, cb_lit, cb_rows, cb_cells, cd_lit, cd_rows, cd_cells, cd_dead, covRow, look, SV.known, SV.bd, bdL, g0, dayA, dE, hcap] <;> omega), ?_⟩
        · omega
        · rintro i ⟨hi1, hi2⟩
          by_cases hlt : i < k
          · have hd : decide ((i : Int) < k) = true := decide_eq_true (by omega)
            simp (config := { maxSteps := 1000000 }) (disch := omega) only [go_sem, Int.reduceToNat, ↓reduceIte, Nat.reduceLT, Nat.reduceEqDiff, Nat.reduceAdd, Nat.reduceMul, Nat.reduceSub, Nat.reduceBEq, Nat.reduceLeDiff, reduceCtorEq, Nat.reduceLT, ↓Br_true, ↓Br_false, bind, pure, sc60, sb60, hd]
            repeat (with_reducible refine And.intro (by first | omega | assumption | (unfold SOk; kernel_rfl) | (unfold SBOk; kernel_rfl)) ?_)
            (first | (refine callR (by rfl) (by rfl) (by rfl) (l04Gusty_cv _ i _ x a _ _ _ _ 16777215 (hB i hlt) hx (by omega) (by omega) z.2.1 (z.1 i hlt)) ?_; rintro _ _ ⟨rfl, rfl⟩) | (refine callM (by rfl) (by rfl) (by rfl) (l04Gusty_cv _ i _ x a _ _ _ _ 16777215 (hB i hlt) hx (by omega) (by omega) z.2.1 (z.1 i hlt)) ?_; rintro _ _ ⟨rfl, rfl⟩) | (refine callMo (by rfl) (by rfl) (by rfl) (l04Gusty_cv _ i _ x a _ _ _ _ 16777215 (hB i hlt) hx (by omega) (by omega) z.2.1 (z.1 i hlt)) ?_; rintro _ _ ⟨rfl, rfl⟩) | (refine callE (by rfl) (l04Gusty_cv _ i _ x a _ _ _ _ 16777215 (hB i hlt) hx (by omega) (by omega) z.2.1 (z.1 i hlt)) (by rfl) ?_))
            simp (config := { maxSteps := 1000000 }) (disch := omega) only [go_sem, Int.reduceToNat, ↓reduceIte, Nat.reduceLT, Nat.reduceEqDiff, Nat.reduceAdd, Nat.reduceMul, Nat.reduceSub, Nat.reduceBEq, Nat.reduceLeDiff, reduceCtorEq, Nat.reduceLT, ↓Br_true, ↓Br_false, bind, pure, sc60, sb60, hd]
            refine ⟨fun hc => ?_, fun hc => ?_⟩
            · rw [dE] at hc
              exact ⟨i + 1, by omega, by omega, by (try refine Or.inl ?_); simp [Cov, covE, covH, cb_dead, cb_lit, cb_rows, cb_cells, cd_lit, cd_rows, cd_cells, cd_dead, covRow, look, SV.known, SV.bd, bdL, bst, dayA, dE, hc, hcap] <;> omega⟩
            · rw [dE] at hc
              exact ⟨i + 1, by omega, by omega, by (try refine Or.inl ?_); simp [Cov, covE, covH, cb_dead, cb_lit, cb_rows, cb_cells, cd_lit, cd_rows, cd_cells, cd_dead, covRow, look, SV.known, SV.bd, bdL, bst, dayA, dE, hc, hcap] <;> omega⟩
          · have hd : decide ((i : Int) < k) = false := decide_eq_false (by omega)
            simp (config := { maxSteps := 1000000 }) (disch := omega) only [go_sem, Int.reduceToNat, ↓reduceIte, Nat.reduceLT, Nat.reduceEqDiff, Nat.reduceAdd, Nat.reduceMul, Nat.reduceSub, Nat.reduceBEq, Nat.reduceLeDiff, reduceCtorEq, Nat.reduceLT, ↓Br_true, ↓Br_false, bind, pure, sc60, sb60, hd]
            obtain rfl : i = k := by omega
            simp [bestV, hC]
end Go.Proofs.YtpcnpmhpelbndaaGreatDoor.Vx
