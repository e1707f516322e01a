/- The middle one of votes, in the abstract: both sides. -/
import Derived.Test.YtgepaaakleomeacMd
import Derived.Test.YtgepaaakleomeacGm
namespace Go.Proofs.Ytgepaaakleomeac.Vx
open Go Go.RowKit Fl
set_option maxRecDepth 100000
set_option maxHeartbeats 2000000
set_option linter.unusedSimpArgs false
set_option linter.unusedVariables false

def medF (p : Nat → Nat) (n : Nat) : Nat := if n % 2 = 1 then sortF p n (n / 2) else fdiv (fadd (sortF p n (n / 2 - 1)) (sortF p n (n / 2))) 1073741824
def medV (p : Nat → Nat) (n : Nat) : SV := .tup [.f (.flt .f32 (if vVot p n then medF p n else 0)), .f (.int .i64 (if vVot p n then 0 else 2))]
theorem sort_mem (p : Nat → Nat) : ∀ k t, t < k → ∃ s, s < k ∧ sortF p k t = p s
  | 0, t, h => by omega
  | k + 1, t, h => by
    have hp := posF_le (sortF p k) (p k) k
    simp only [sortF, dIns]
    split
    · obtain ⟨s, h1, h2⟩ := sort_mem p k t (by omega); exact ⟨s, by omega, h2⟩
    · split
      · exact ⟨k, by omega, rfl⟩
      · obtain ⟨s, h1, h2⟩ := sort_mem p k (t - 1) (by omega); exact ⟨s, by omega, h2⟩
theorem sort_part {p : Nat → Nat} {n : Nat} (h : allP p n = true) {t : Nat} (ht : t < n) : F0 (sortF p n t) := by
  obtain ⟨s, h1, h2⟩ := sort_mem p n t ht
  rw [h2]; exact (isPart_F0 (allP_at h h1)).1
theorem div_inf' {x y : Nat} (hx : P0 x) (hf : ¬ fin x) (hy : fin y) (h : 0 < key y) : S.div x y = some 2139095040 := by
  obtain ⟨e, s⟩ := inf_of hx hf
  unfold Ieee.Format.div
  rw [read_inf e, s]
  obtain ⟨n, q, e', _⟩ := read_fin hy
  rw [e', sgn_of_pos h]
  rfl
theorem div_P0' {x y : Nat} (hx : P0 x) (hy : fin y) (h : 0 < key y) : DivOk x y ∧ P0 (fdiv x y) := by
  by_cases fx : fin x
  · exact div_F0 ⟨fx, hx.2⟩ hy h
  · have e := div_inf' hx fx hy h
    have e' : fdiv x y = 2139095040 := by unfold fdiv; rw [e]; rfl
    rw [e']
    exact ⟨⟨_, e⟩, by decide, by decide⟩
theorem med_ok {p : Nat → Nat} {n : Nat} (h : allP p n = true) (h1 : 1 ≤ n) (he : ¬ n % 2 = 1) :
    AddOk (sortF p n (n / 2 - 1)) (sortF p n (n / 2)) ∧ DivOk (fadd (sortF p n (n / 2 - 1)) (sortF p n (n / 2))) 1073741824 ∧ nn (fdiv (fadd (sortF p n (n / 2 - 1)) (sortF p n (n / 2))) 1073741824) := by
  have a := add_P0 (sort_part h (t := n / 2 - 1) (by omega)).p (sort_part h (t := n / 2) (by omega)).p
  have d := div_P0' (y := 1073741824) a.2.1 (by decide) (by decide)
  exact ⟨a.1, d.1, d.2.1⟩
theorem med_nn (p : Nat → Nat) (n : Nat) : nn (if vVot p n then medF p n else 0) := by
  split
  · rename_i h
    simp only [vVot, Bool.and_eq_true, inn_true] at h
    unfold medF
    split
    · exact (sort_part h.2 (t := n / 2) (by omega)).p.1
    · rename_i he
      exact (med_ok h.2 (by omega) he).2.2
  · decide
theorem MedianVote_cv (n : Nat) (f : Nat → List FV) (p : Nat → Nat) (hf : ∀ i, i < n → f i = [.flt .f32 (p i)]) (hn : n ≤ 1048576) :
    CV Try.prog 15 [.slc 0 0 n n] [.rows n n 1 f false] (fun v h => v = medV p n ∧ h = [.rows n n 1 f false]) := by
  refine cv_of_run 1000 sc15 sb15 36 [.tmp 2, .tmp 3] tabOk (by kernel_rfl) Try.func15 rfl (by kernel_rfl) Try.ntmps15 rfl (by simp) rfl (by simp [bdL, SV.bd]) ?_
  simp (config := { maxSteps := 1000000 }) (disch := omega) only [go_sem, Int.reduceToNat, ↓reduceIte, Nat.reduceLT, Nat.reduceEqDiff, Nat.reduceAdd, Nat.reduceMul, Nat.reduceSub, Nat.reduceBEq, Nat.reduceLeDiff, reduceCtorEq, Nat.reduceLT, ↓Br_true, ↓Br_false, bind, pure, sc15, sb15]
  (have cc := areVotes_cv n n f p hf (Nat.le_refl n) hn; (first | ((first | refine callR (by rfl) (by rfl) (by rfl) cc ?_ | refine callM (by rfl) (by rfl) (by rfl) cc ?_); clear cc; rintro _ _ ⟨rfl, rfl⟩) | (refine callE (by rfl) cc (by rfl) ?_; clear cc)))
  simp (config := { maxSteps := 1000000 }) (disch := omega) only [go_sem, Int.reduceToNat, ↓reduceIte, Nat.reduceLT, Nat.reduceEqDiff, Nat.reduceAdd, Nat.reduceMul, Nat.reduceSub, Nat.reduceBEq, Nat.reduceLeDiff, reduceCtorEq, Nat.reduceLT, ↓Br_true, ↓Br_false, bind, pure, sc15, sb15]
  refine ⟨fun hc => ?_, fun hc => ?_⟩
  · simp only [Bool.not_eq_true'] at hc
    simp [medV, hc]
  · simp only [Bool.not_eq_false'] at hc
    have hv := hc
    simp only [vVot, Bool.and_eq_true, inn_true] at hc
    obtain ⟨⟨h1, h2⟩, h3⟩ := hc
    have et : (n : Int).tmod 2 = ((n % 2 : Nat) : Int) := rfl
    have ed : (n : Int).tdiv 2 = ((n / 2 : Nat) : Int) := rfl
    have hb : n / 2 < n := by omega
    have cc := Clone_cv n n f (Nat.le_refl n) (by omega) (by omega); (first | refine callR (by rfl) (by rfl) (by rfl) cc ?_ | refine callM (by rfl) (by rfl) (by rfl) cc ?_ | refine callG (by rfl) (by rfl) (by rfl) cc ?_); clear cc; rintro _ _ ⟨cap', g, hg, hc', rfl, rfl⟩
    simp (config := { maxSteps := 1000000 }) (disch := omega) only [go_sem, Int.reduceToNat, ↓reduceIte, Nat.reduceLT, Nat.reduceEqDiff, Nat.reduceAdd, Nat.reduceMul, Nat.reduceSub, Nat.reduceBEq, Nat.reduceLeDiff, reduceCtorEq, Nat.reduceLT, ↓Br_true, ↓Br_false, bind, pure, sc15, sb15]
    have cs := SortStable_cv p n cap' g hc' (by omega) (by omega) (fun i hi => by rw [hg i hi, hf i hi]; rfl)
    by_cases ho : n % 2 = 1
    · have hd : decide (((n % 2 : Nat) : Int) = 1) = true := decide_eq_true (by omega)
      have cc := cs; (first | refine callR (by rfl) (by rfl) (by rfl) cc ?_ | refine callM (by rfl) (by rfl) (by rfl) cc ?_ | refine callG (by rfl) (by rfl) (by rfl) cc ?_); clear cc; rintro _ _ ⟨rfl, y, hy, rfl⟩
      simp (config := { maxSteps := 1000000 }) (disch := omega) only [go_sem, Int.reduceToNat, ↓reduceIte, Nat.reduceLT, Nat.reduceEqDiff, Nat.reduceAdd, Nat.reduceMul, Nat.reduceSub, Nat.reduceBEq, Nat.reduceLeDiff, reduceCtorEq, Nat.reduceLT, ↓Br_true, ↓Br_false, bind, pure, sc15, sb15, et, ed, hd, hy (n / 2) hb, f32R]
      repeat' (first | (with_reducible refine And.intro (by first | (unfold SOk; kernel_rfl) | (unfold SBOk; kernel_rfl) | (with_reducible assumption) | omega | assumption) ?_) | (with_reducible refine Br_intro (fun hc => ?_) (fun hc => ?_)) | ((with_reducible show WidN _ _ _ _ _ _ _ _); (first | refine widL (by decide) (by with_reducible assumption) ?_ | refine widL (by decide) (FWok_nn (by with_reducible assumption)) ?_ | refine widN (by decide) (fun c hc => ?_)); simp (config := { maxSteps := 1000000 }) (disch := omega) only [go_sem, Int.reduceToNat, ↓reduceIte, Nat.reduceLT, Nat.reduceEqDiff, Nat.reduceAdd, Nat.reduceMul, Nat.reduceSub, Nat.reduceBEq, Nat.reduceLeDiff, reduceCtorEq, Nat.reduceLT, ↓Br_true, ↓Br_false, bind, pure, sc15, sb15, et, ed, hd, hy (n / 2) hb, f32R]))
      simp [medV, medF, hv, ho]
    · have hd : decide (((n % 2 : Nat) : Int) = 1) = false := decide_eq_false (by omega)
      have es : ((n / 2 : Nat) : Int) - 1 = ((n / 2 - 1 : Nat) : Int) := by omega
      have hb2 : n / 2 - 1 < n := by omega
      have m := med_ok h3 (by omega) ho
      have m1 := m.1
      have m2 := m.2.1
      have cc := cs; (first | refine callR (by rfl) (by rfl) (by rfl) cc ?_ | refine callM (by rfl) (by rfl) (by rfl) cc ?_ | refine callG (by rfl) (by rfl) (by rfl) cc ?_); clear cc; rintro _ _ ⟨rfl, y, hy, rfl⟩
      simp (config := { maxSteps := 1000000 }) (disch := omega) only [go_sem, Int.reduceToNat, ↓reduceIte, Nat.reduceLT, Nat.reduceEqDiff, Nat.reduceAdd, Nat.reduceMul, Nat.reduceSub, Nat.reduceBEq, Nat.reduceLeDiff, reduceCtorEq, Nat.reduceLT, ↓Br_true, ↓Br_false, bind, pure, sc15, sb15, et, ed, hd, es, hy (n / 2) hb, hy (n / 2 - 1) hb2, f32R]
      repeat' (first | (with_reducible refine And.intro (by first | (unfold SOk; kernel_rfl) | (unfold SBOk; kernel_rfl) | (with_reducible assumption) | omega | assumption) ?_) | (with_reducible refine Br_intro (fun hc => ?_) (fun hc => ?_)) | ((with_reducible show WidN _ _ _ _ _ _ _ _); (first | refine widL (by decide) (by with_reducible assumption) ?_ | refine widL (by decide) (FWok_nn (by with_reducible assumption)) ?_ | refine widN (by decide) (fun c hc => ?_)); simp (config := { maxSteps := 1000000 }) (disch := omega) only [go_sem, Int.reduceToNat, ↓reduceIte, Nat.reduceLT, Nat.reduceEqDiff, Nat.reduceAdd, Nat.reduceMul, Nat.reduceSub, Nat.reduceBEq, Nat.reduceLeDiff, reduceCtorEq, Nat.reduceLT, ↓Br_true, ↓Br_false, bind, pure, sc15, sb15, et, ed, hd, es, hy (n / 2) hb, hy (n / 2 - 1) hb2, f32R]))
      simp [medV, medF, hv, ho]
end Go.Proofs.Ytgepaaakleomeac.Vx
