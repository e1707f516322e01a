/- The middle one of votes, in the abstract: the reference's. -/
import Derived.Test.YtgepaaakleomeacMe
namespace Go.Proofs.Ytgepaaakleomeac.Vx
open Go Go.RowKit Fl
set_option maxRecDepth 100000
set_option maxHeartbeats 2000000
set_option linter.unusedSimpArgs false
set_option linter.unusedVariables false

theorem ins_rows {g R : Nat → List FV} {S : Nat → Nat} {x a k : Nat} (hg : ∀ t, t < k → g t = f32R (S t)) (ha : a ≤ k) (hR : ∀ t, t < k - a → R t = g (a + t)) :
    ∀ t, t < k + 1 → catR (catR g a (shR (nthR [ [.flt .f32 x] ]) 0)) (a + 1) (shR R 0) t = f32R (dIns S x a t) := fun t ht => by
  unfold catR dIns shR
  by_cases c1 : t < a
  · rw [if_pos (by omega), if_pos c1, if_pos c1, hg t (by omega)]
  · by_cases c2 : t = a
    · subst c2
      rw [if_pos (by omega), if_neg c1, if_neg c1, if_pos rfl, Nat.sub_self]
      rfl
    · rw [if_neg (by omega), if_neg c1, if_neg c2, hR _ (by omega), show a + (0 + (t - (a + 1))) = t - 1 by omega, hg _ (by omega)]
theorem sMedianVote_cv (n : Nat) (f : Nat → List FV) (p : Nat → Nat) (hf : ∀ i, i < n → f i = [.flt .f32 (p i)]) (hn : n ≤ 1048576) :
    CV Try.prog 13 [.slc 0 0 n n] [.rows n n 1 f false] (fun v h => v = medV p n ∧ h = [.rows n n 1 f false]) := by
  refine cv_of_run 1000 sc13 sb13 76 [.tmp 2, .tmp 3] tabOk (by kernel_rfl) Try.func13 rfl (by kernel_rfl) Try.ntmps13 rfl (by simp) rfl (by simp [bdL, SV.bd]) ?_
  simp (config := { maxSteps := 1000000 }) (disch := omega) only [go_sem, Int.reduceToNat, ↓reduceIte, Nat.reduceLT, Nat.reduceEqDiff, Nat.reduceAdd, Nat.reduceMul, Nat.reduceSub, Nat.reduceBEq, Nat.reduceLeDiff, reduceCtorEq, Nat.reduceLT, ↓Br_true, ↓Br_false, bind, pure, sc13, sb13]
  (have cc := l05Votes_cv n n f p hf (Nat.le_refl n) hn; (first | ((first | refine callR (by rfl) (by rfl) (by rfl) cc ?_ | refine callM (by rfl) (by rfl) (by rfl) cc ?_); clear cc; rintro _ _ ⟨rfl, rfl⟩) | (refine callE (by rfl) cc (by rfl) ?_; clear cc)))
  simp (config := { maxSteps := 1000000 }) (disch := omega) only [go_sem, Int.reduceToNat, ↓reduceIte, Nat.reduceLT, Nat.reduceEqDiff, Nat.reduceAdd, Nat.reduceMul, Nat.reduceSub, Nat.reduceBEq, Nat.reduceLeDiff, reduceCtorEq, Nat.reduceLT, ↓Br_true, ↓Br_false, bind, pure, sc13, sb13]
  refine ⟨fun hc => ?_, fun hc => ?_⟩
  · simp only [Bool.not_eq_true'] at hc
    simp [medV, hc]
  · simp only [Bool.not_eq_false'] at hc
    have hv := hc
    simp only [vVot, Bool.and_eq_true, inn_true] at hc
    obtain ⟨⟨h1, h2⟩, h3⟩ := hc
    refine ⟨(Nat × Nat × (Nat → List FV)), fun s => s.1 ≤ n ∧ s.1 ≤ s.2.1 ∧ ∀ t, t < s.1 → s.2.2 t = f32R (sortF p s.1 t), fun s => n - s.1, fun s => [(0, .slc 0 0 n n), (2, .f (.flt .f32 0)), (3, .f (.int .i64 0)), (4, .slc 1 0 s.1 s.2.1), (5, .f (.int .i64 s.1))], fun s => [.rows n n 1 f false, .rows s.1 s.2.1 1 s.2.2 true], (0, 0, noRow), (by intro _; simp), ?_, (by (try refine Or.inl ?_); simp [Cov, covE, covH, cb_dead, cb_lit, cb_rows, cb_cells, cd_lit, cd_rows, cd_cells, cd_dead, covRow, look, SV.known, SV.bd, bdL] <;> omega), ?_⟩
    · exact ⟨by omega, by omega, fun t ht => by omega⟩
    · rintro ⟨k, c, g⟩ ⟨hkn, hkc, hg⟩
      simp only at hkn hkc hg
      by_cases hlt : k < n
      · have hd : decide ((k : Int) < n) = true := decide_eq_true (by omega)
        have e1 := hf k hlt
        simp (config := { maxSteps := 1000000 }) (disch := omega) only [go_sem, Int.reduceToNat, ↓reduceIte, Nat.reduceLT, Nat.reduceEqDiff, Nat.reduceAdd, Nat.reduceMul, Nat.reduceSub, Nat.reduceBEq, Nat.reduceLeDiff, reduceCtorEq, Nat.reduceLT, ↓Br_true, ↓Br_false, bind, pure, sc13, sb13, hd]
        have hS : ∃ S, S = sortF p k := ⟨_, rfl⟩
        obtain ⟨S, hS⟩ := hS
        rw [← hS] at hg
        refine ⟨Nat, fun a => a ≤ k ∧ posF S (p k) a = posF S (p k) k, fun a => a, fun a => [(0, .slc 0 0 n n), (2, .f (.flt .f32 0)), (3, .f (.int .i64 0)), (4, .slc 1 0 k c), (5, .f (.int .i64 k)), (6, .f (.int .i64 a))], fun _ => [.rows n n 1 f false, .rows k c 1 g true], k, (by intro _; simp), ?_, (by (try refine Or.inl ?_); simp [Cov, covE, covH, cb_dead, cb_lit, cb_rows, cb_cells, cd_lit, cd_rows, cd_cells, cd_dead, covRow, look, SV.known, SV.bd, bdL, hkc] <;> omega), ?_⟩
        · exact ⟨Nat.le_refl k, rfl⟩
        · rintro a ⟨hak, hpos⟩
          have es : 0 < a → (a : Int) - 1 = ((a - 1 : Nat) : Int) := fun h => by omega
          by_cases hst : 0 < a ∧ flt (p k) (S (a - 1)) = true
          · obtain ⟨ha, hfl⟩ := hst
            have hd0 : decide ((0 : Int) < (a : Int)) = true := decide_eq_true (by omega)
            have e2 := hg (a - 1) (by omega)
            rw [f32R] at e2
            simp (config := { maxSteps := 1000000 }) (disch := omega) only [go_sem, Int.reduceToNat, ↓reduceIte, Nat.reduceLT, Nat.reduceEqDiff, Nat.reduceAdd, Nat.reduceMul, Nat.reduceSub, Nat.reduceBEq, Nat.reduceLeDiff, reduceCtorEq, Nat.reduceLT, ↓Br_true, ↓Br_false, bind, pure, sc13, sb13, hd0, e1, e2, es ha, hfl]
            repeat' (first | (with_reducible refine And.intro (by first | (unfold SOk; kernel_rfl) | (unfold SBOk; kernel_rfl) | (with_reducible assumption) | omega | assumption) ?_) | (with_reducible refine Br_intro (fun hc => ?_) (fun hc => ?_)) | ((with_reducible show WidN _ _ _ _ _ _ _ _); (first | refine widL (by decide) (by with_reducible assumption) ?_ | refine widL (by decide) (FWok_nn (by with_reducible assumption)) ?_ | refine widN (by decide) (fun c hc => ?_)); simp (config := { maxSteps := 1000000 }) (disch := omega) only [go_sem, Int.reduceToNat, ↓reduceIte, Nat.reduceLT, Nat.reduceEqDiff, Nat.reduceAdd, Nat.reduceMul, Nat.reduceSub, Nat.reduceBEq, Nat.reduceLeDiff, reduceCtorEq, Nat.reduceLT, ↓Br_true, ↓Br_false, bind, pure, sc13, sb13, hd0, e1, e2, es ha, hfl]))
            refine ⟨a - 1, ⟨by omega, ?_⟩, by omega, by (try refine Or.inl ?_); simp [Cov, covE, covH, cb_dead, cb_lit, cb_rows, cb_cells, cd_lit, cd_rows, cd_cells, cd_dead, covRow, look, SV.known, SV.bd, bdL, hkc, es ha] <;> omega⟩
            rw [← hpos]
            obtain ⟨b, rfl⟩ : ∃ b, a = b + 1 := ⟨a - 1, by omega⟩
            simp only [Nat.add_sub_cancel] at hfl ⊢
            simp [posF, hfl]
          · have hj : posF S (p k) k = a := by
              rw [← hpos]
              rcases a with _ | b
              · rfl
              · have : flt (p k) (S b) = false := by simpa using hst
                simp [posF, this]
            have hoff : ∃ o, (if c = a then 0 else a) = o ∧ o + (k - a) ≤ k ∧ (a < k → o = a) := by
              refine ⟨_, rfl, ?_, fun h => by rw [if_neg (by omega)]⟩
              split <;> omega
            obtain ⟨o, ho, ho1, ho2⟩ := hoff
            have hcase : decide ((0 : Int) < (a : Int)) = false ∨ (decide ((0 : Int) < (a : Int)) = true ∧ 0 < a ∧ flt (p k) (S (a - 1)) = false) := by
              by_cases h0 : 0 < a
              · exact .inr ⟨decide_eq_true (by omega), h0, by simpa [h0] using hst⟩
              · exact .inl (decide_eq_false (by omega))
            rcases hcase with hd0 | ⟨hd0, ha, hfl⟩
            focus
              simp (config := { maxSteps := 1000000 }) (disch := omega) only [go_sem, Int.reduceToNat, ↓reduceIte, Nat.reduceLT, Nat.reduceEqDiff, Nat.reduceAdd, Nat.reduceMul, Nat.reduceSub, Nat.reduceBEq, Nat.reduceLeDiff, reduceCtorEq, Nat.reduceLT, ↓Br_true, ↓Br_false, bind, pure, sc13, sb13, hd0, ho]
              repeat' (first | (with_reducible refine And.intro (by first | (unfold SOk; kernel_rfl) | (unfold SBOk; kernel_rfl) | (with_reducible assumption) | omega | assumption) ?_) | (with_reducible refine Br_intro (fun hc => ?_) (fun hc => ?_)) | ((with_reducible show WidN _ _ _ _ _ _ _ _); (first | refine widL (by decide) (by with_reducible assumption) ?_ | refine widL (by decide) (FWok_nn (by with_reducible assumption)) ?_ | refine widN (by decide) (fun c hc => ?_)); simp (config := { maxSteps := 1000000 }) (disch := omega) only [go_sem, Int.reduceToNat, ↓reduceIte, Nat.reduceLT, Nat.reduceEqDiff, Nat.reduceAdd, Nat.reduceMul, Nat.reduceSub, Nat.reduceBEq, Nat.reduceLeDiff, reduceCtorEq, Nat.reduceLT, ↓Br_true, ↓Br_false, bind, pure, sc13, sb13, hd0, ho]))
            rotate_left
            focus
              have e2 := hg (a - 1) (by omega)
              rw [f32R] at e2
              simp (config := { maxSteps := 1000000 }) (disch := omega) only [go_sem, Int.reduceToNat, ↓reduceIte, Nat.reduceLT, Nat.reduceEqDiff, Nat.reduceAdd, Nat.reduceMul, Nat.reduceSub, Nat.reduceBEq, Nat.reduceLeDiff, reduceCtorEq, Nat.reduceLT, ↓Br_true, ↓Br_false, bind, pure, sc13, sb13, hd0, e1, e2, es ha, hfl, ho]
              repeat' (first | (with_reducible refine And.intro (by first | (unfold SOk; kernel_rfl) | (unfold SBOk; kernel_rfl) | (with_reducible assumption) | omega | assumption) ?_) | (with_reducible refine Br_intro (fun hc => ?_) (fun hc => ?_)) | ((with_reducible show WidN _ _ _ _ _ _ _ _); (first | refine widL (by decide) (by with_reducible assumption) ?_ | refine widL (by decide) (FWok_nn (by with_reducible assumption)) ?_ | refine widN (by decide) (fun c hc => ?_)); simp (config := { maxSteps := 1000000 }) (disch := omega) only [go_sem, Int.reduceToNat, ↓reduceIte, Nat.reduceLT, Nat.reduceEqDiff, Nat.reduceAdd, Nat.reduceMul, Nat.reduceSub, Nat.reduceBEq, Nat.reduceLeDiff, reduceCtorEq, Nat.reduceLT, ↓Br_true, ↓Br_false, bind, pure, sc13, sb13, hd0, e1, e2, es ha, hfl, ho]))
            all_goals
              by_cases hek : a = k
              · refine Or.inr (Or.inr ⟨⟨by simp only; omega, rfl⟩, ?_⟩)
                simp (config := { maxSteps := 1000000 }) (disch := omega) only [go_sem, Int.reduceToNat, ↓reduceIte, Nat.reduceLT, Nat.reduceEqDiff, Nat.reduceAdd, Nat.reduceMul, Nat.reduceSub, Nat.reduceBEq, Nat.reduceLeDiff, reduceCtorEq, Nat.reduceLT, ↓Br_true, ↓Br_false, bind, pure, sc13, sb13, e1]
                repeat (with_reducible refine And.intro (by first | omega | assumption | (unfold SOk; kernel_rfl) | (unfold SBOk; kernel_rfl)) ?_)
                refine ⟨Nat × (Nat → List FV), fun s => k + 1 ≤ s.1 ∧ ∀ t, t < k + 1 → s.2 t = f32R (sortF p (k + 1) t), fun s => [(0, .slc 0 0 n n), (2, .f (.flt .f32 0)), (3, .f (.int .i64 0)), (4, .slc 1 0 (k + 1) s.1), (5, .f (.int .i64 k))], fun s => [.rows n n 1 f false, .rows (k + 1) s.1 1 s.2 true], ?_, ?_⟩
                · subst hek
                  simp (config := { maxSteps := 1000000 }) (disch := omega) only [go_sem, Int.reduceToNat, ↓reduceIte, Nat.reduceLT, Nat.reduceEqDiff, Nat.reduceAdd, Nat.reduceMul, Nat.reduceSub, Nat.reduceBEq, Nat.reduceLeDiff, reduceCtorEq, Nat.reduceLT, ↓Br_true, ↓Br_false, bind, pure, sc13, sb13, e1]
                  repeat' (first | omega | (with_reducible refine And.intro ?_ ?_))
                  all_goals
                    refine Or.inr ⟨by omega, Nat.le_refl _, fun c1 hc1 => Or.inr ⟨by omega, Nat.le_refl _, fun c2 hc2 => ⟨(c2, catR (catR g a (shR (nthR [ [.flt .f32 (p a)] ]) 0)) (a + 1) (shR noRow 0)), ⟨by omega, ?_⟩, by refine Or.inr ⟨[0, 5], by rfl, ?_⟩; simp [Cov, covE, covH, cb_dead, cb_lit, cb_rows, cb_cells, cd_lit, cd_rows, cd_cells, cd_dead, covRow, look, SV.known, SV.bd, bdL, locE, locV, locH, hget, SV.lin, inL, SV.ren, idx, bk_ren_lit, bk_ren_rows, bk_ren_cells, renL, hc2] <;> omega⟩⟩⟩
                    rw [show sortF p (a + 1) = dIns S (p a) a by rw [sortF, ← hS, hj]]
                    exact ins_rows hg (Nat.le_refl a) fun t ht => by omega
                · rintro ⟨c2, y⟩ ⟨hc2, hy⟩
                  simp only at hc2 hy
                  refine ⟨by simp, ?_⟩
                  simp (config := { maxSteps := 1000000 }) (disch := omega) only [go_sem, Int.reduceToNat, ↓reduceIte, Nat.reduceLT, Nat.reduceEqDiff, Nat.reduceAdd, Nat.reduceMul, Nat.reduceSub, Nat.reduceBEq, Nat.reduceLeDiff, reduceCtorEq, Nat.reduceLT, ↓Br_true, ↓Br_false, bind, pure, sc13, sb13]
                  exact ⟨(k + 1, c2, y), ⟨by omega, hc2, hy⟩, by omega, by (try refine Or.inl ?_); simp [Cov, covE, covH, cb_dead, cb_lit, cb_rows, cb_cells, cd_lit, cd_rows, cd_cells, cd_dead, covRow, look, SV.known, SV.bd, bdL] <;> omega⟩
              · refine Or.inl ⟨by simp only; omega, fun c3 hc3 => ?_⟩
                simp only at hc3
                simp (config := { maxSteps := 1000000 }) (disch := omega) only [go_sem, Int.reduceToNat, ↓reduceIte, Nat.reduceLT, Nat.reduceEqDiff, Nat.reduceAdd, Nat.reduceMul, Nat.reduceSub, Nat.reduceBEq, Nat.reduceLeDiff, reduceCtorEq, Nat.reduceLT, ↓Br_true, ↓Br_false, bind, pure, sc13, sb13, e1]
                repeat (with_reducible refine And.intro (by first | omega | assumption | (unfold SOk; kernel_rfl) | (unfold SBOk; kernel_rfl)) ?_)
                refine ⟨Nat × (Nat → List FV), fun s => k + 1 ≤ s.1 ∧ ∀ t, t < k + 1 → s.2 t = f32R (sortF p (k + 1) t), fun s => [(0, .slc 0 0 n n), (2, .f (.flt .f32 0)), (3, .f (.int .i64 0)), (4, .slc 1 0 (k + 1) s.1), (5, .f (.int .i64 k))], fun s => [.rows n n 1 f false, .rows (k + 1) s.1 1 s.2 true], ?_, ?_⟩
                · have ek : a + 1 + (k - a) = k + 1 := by omega
                  simp (config := { maxSteps := 1000000 }) (disch := omega) only [go_sem, Int.reduceToNat, ↓reduceIte, Nat.reduceLT, Nat.reduceEqDiff, Nat.reduceAdd, Nat.reduceMul, Nat.reduceSub, Nat.reduceBEq, Nat.reduceLeDiff, reduceCtorEq, Nat.reduceLT, ↓Br_true, ↓Br_false, bind, pure, sc13, sb13, e1]
                  repeat' (first | omega | (with_reducible refine And.intro ?_ ?_))
                  all_goals
                    refine Or.inr ⟨by omega, Nat.le_refl _, fun c1 hc1 => Or.inr ⟨by omega, Nat.le_refl _, fun c2 hc2 => ⟨(c2, catR (catR g a (shR (nthR [ [.flt .f32 (p k)] ]) 0)) (a + 1) (shR (catR noRow 0 (shR g o)) 0)), ⟨by omega, ?_⟩, by refine Or.inr ⟨[0, 6], by rfl, ?_⟩; simp [Cov, covE, covH, cb_dead, cb_lit, cb_rows, cb_cells, cd_lit, cd_rows, cd_cells, cd_dead, covRow, look, SV.known, SV.bd, bdL, locE, locV, locH, hget, SV.lin, inL, SV.ren, idx, bk_ren_lit, bk_ren_rows, bk_ren_cells, renL, ek] <;> omega⟩⟩⟩
                    rw [show sortF p (k + 1) = dIns S (p k) a by rw [sortF, ← hS, hj]]
                    exact ins_rows hg hak fun t ht => by simp [catR, shR, ho2 (by omega), Nat.add_comm]
                · rintro ⟨c2, y⟩ ⟨hc2, hy⟩
                  simp only at hc2 hy
                  refine ⟨by simp, ?_⟩
                  simp (config := { maxSteps := 1000000 }) (disch := omega) only [go_sem, Int.reduceToNat, ↓reduceIte, Nat.reduceLT, Nat.reduceEqDiff, Nat.reduceAdd, Nat.reduceMul, Nat.reduceSub, Nat.reduceBEq, Nat.reduceLeDiff, reduceCtorEq, Nat.reduceLT, ↓Br_true, ↓Br_false, bind, pure, sc13, sb13]
                  exact ⟨(k + 1, c2, y), ⟨by omega, hc2, hy⟩, by omega, by (try refine Or.inl ?_); simp [Cov, covE, covH, cb_dead, cb_lit, cb_rows, cb_cells, cd_lit, cd_rows, cd_cells, cd_dead, covRow, look, SV.known, SV.bd, bdL] <;> omega⟩
      · have hd : decide ((k : Int) < n) = false := decide_eq_false (by omega)
        obtain rfl : k = n := by omega
        have et : (k : Int).tmod 2 = ((k % 2 : Nat) : Int) := rfl
        have ed : (k : Int).tdiv 2 = ((k / 2 : Nat) : Int) := rfl
        have hb : k / 2 < k := by omega
        have g1 := hg (k / 2) hb
        rw [f32R] at g1
        by_cases ho : k % 2 = 1
        · have hd2 : decide (((k % 2 : Nat) : Int) = 1) = true := decide_eq_true (by omega)
          simp (config := { maxSteps := 1000000 }) (disch := omega) only [go_sem, Int.reduceToNat, ↓reduceIte, Nat.reduceLT, Nat.reduceEqDiff, Nat.reduceAdd, Nat.reduceMul, Nat.reduceSub, Nat.reduceBEq, Nat.reduceLeDiff, reduceCtorEq, Nat.reduceLT, ↓Br_true, ↓Br_false, bind, pure, sc13, sb13, hd, et, ed, hd2, g1]
          repeat' (first | (with_reducible refine And.intro (by first | (unfold SOk; kernel_rfl) | (unfold SBOk; kernel_rfl) | (with_reducible assumption) | omega | assumption) ?_) | (with_reducible refine Br_intro (fun hc => ?_) (fun hc => ?_)) | ((with_reducible show WidN _ _ _ _ _ _ _ _); (first | refine widL (by decide) (by with_reducible assumption) ?_ | refine widL (by decide) (FWok_nn (by with_reducible assumption)) ?_ | refine widN (by decide) (fun c hc => ?_)); simp (config := { maxSteps := 1000000 }) (disch := omega) only [go_sem, Int.reduceToNat, ↓reduceIte, Nat.reduceLT, Nat.reduceEqDiff, Nat.reduceAdd, Nat.reduceMul, Nat.reduceSub, Nat.reduceBEq, Nat.reduceLeDiff, reduceCtorEq, Nat.reduceLT, ↓Br_true, ↓Br_false, bind, pure, sc13, sb13, hd, et, ed, hd2, g1]))
          simp [medV, medF, hv, ho]
        · have hd2 : decide (((k % 2 : Nat) : Int) = 1) = false := decide_eq_false (by omega)
          have es : ((k / 2 : Nat) : Int) - 1 = ((k / 2 - 1 : Nat) : Int) := by omega
          have hb2 : k / 2 - 1 < k := by omega
          have g2 := hg (k / 2 - 1) hb2
          rw [f32R] at g2
          have m := med_ok h3 (by omega) ho
          have m1 := m.1
          have m2 := m.2.1
          simp (config := { maxSteps := 1000000 }) (disch := omega) only [go_sem, Int.reduceToNat, ↓reduceIte, Nat.reduceLT, Nat.reduceEqDiff, Nat.reduceAdd, Nat.reduceMul, Nat.reduceSub, Nat.reduceBEq, Nat.reduceLeDiff, reduceCtorEq, Nat.reduceLT, ↓Br_true, ↓Br_false, bind, pure, sc13, sb13, hd, et, ed, hd2, es, g1, g2]
          repeat' (first | (with_reducible refine And.intro (by first | (unfold SOk; kernel_rfl) | (unfold SBOk; kernel_rfl) | (with_reducible assumption) | omega | assumption) ?_) | (with_reducible refine Br_intro (fun hc => ?_) (fun hc => ?_)) | ((with_reducible show WidN _ _ _ _ _ _ _ _); (first | refine widL (by decide) (by with_reducible assumption) ?_ | refine widL (by decide) (FWok_nn (by with_reducible assumption)) ?_ | refine widN (by decide) (fun c hc => ?_)); simp (config := { maxSteps := 1000000 }) (disch := omega) only [go_sem, Int.reduceToNat, ↓reduceIte, Nat.reduceLT, Nat.reduceEqDiff, Nat.reduceAdd, Nat.reduceMul, Nat.reduceSub, Nat.reduceBEq, Nat.reduceLeDiff, reduceCtorEq, Nat.reduceLT, ↓Br_true, ↓Br_false, bind, pure, sc13, sb13, hd, et, ed, hd2, es, g1, g2]))
          simp [medV, medF, hv, ho]
end Go.Proofs.Ytgepaaakleomeac.Vx
