/- Awnings, for the law of the awnings: sums, what is drawn, texts that are read back. -/
import Derived.Test.YtpcnpmhpelbndaaGreatDoorTv
import Derived.Test.YtpcnpmhpelbndaaGreatDoorGt
import Derived.Test.YtpcnpmhpelbndaaGreatDoorGb
import Derived.Test.YtpcnpmhpelbndaaGreatDoorDba
import Derived.Test.YtpcnpmhpelbndaaGreatDoorDn
import Derived.Test.YtpcnpmhpelbndaaGreatDoorW1
namespace Go.Proofs.YtpcnpmhpelbndaaGreatDoor.Vx
set_option linter.unusedSimpArgs false
set_option linter.unusedVariables false
open Go Go.RowKit Fl
set_option maxRecDepth 100000
set_option maxHeartbeats 4000000
set_option linter.unusedSimpArgs false
set_option linter.unusedVariables false
theorem sumF_mono {V V' : Nat → Nat} : ∀ n, (∀ k, k < n → P0 (V k) ∧ P0 (V' k) ∧ key (V k) ≤ key (V' k)) → key (sumF V n) ≤ key (sumF V' n)
  | 0, _ => Int.le_refl _
  | n + 1, h => by
    have a := sumF_P0 (V := V) n fun k hk => (h k (by omega)).1
    have b := sumF_P0 (V := V') n fun k hk => (h k (by omega)).2.1
    obtain ⟨h1, h2, h3⟩ := h n (by omega)
    exact add_mono a h1 b h2 (sumF_mono n fun k hk => h k (by omega)) h3
theorem beh_le {x : Nat → Int} {t : Nat} {a : Int} {o d g l : Nat} (hv : vSun x = true) (ht : t < 24) (hw : vAwning o d g l = true) : key (behindF x t a o d g l) ≤ key (fallF x t a) := by
  have hF := fall_F0 (a := a) hv ht
  have hP := part_F0 (x := x) (t := t) (a := a) fun h => partOk_of hv ht hw h
  have hm := mul_part hF.1 hP.1 hP.2
  exact (sub_F0 hF.1 hm.2.1 hm.2.2).2.2
def fallDay (x : Nat → Int) (a : Int) : Nat := sumF (fun k => fallF x k a) 24
theorem day_P0 {x : Nat → Int} {a : Int} {o d g l : Nat} (hv : vSun x = true) (hw : vAwning o d g l = true) : P0 (dayF x a o d g l) := sumF_P0 24 fun k hk => (behOk_of hv hk hw).2.1.p
theorem fallDay_P0 {x : Nat → Int} {a : Int} (hv : vSun x = true) : P0 (fallDay x a) := sumF_P0 24 fun k hk => (fall_F0 hv hk).1.p
theorem sameF_self {a : Nat} (h : nn a) : sameF a a = true := by
  have : feq a a = true := by rw [feq_self]; exact decide_eq_true h
  simp [sameF, this]

/-! ### hidden hours -/
theorem l01Asked_cv (x : Nat → Int) (r : Bool) (hs : Small x) :
    CV Tryz.prog 109 [.ptr 0 0 0, .f (.bool r)] [sunB x] (fun v h => v = .f (.int .i64 (sunC x r)) ∧ h = [sunB x]) := by
  refine cv_of_run 1000 sc109 sb109 10 [.tmp 4] tabOk (by kernel_rfl) Tryz.func109 rfl (by kernel_rfl) Tryz.ntmps109 rfl (by simp) rfl (by simp [bdL, SV.bd]) ?_
  simp (config := { maxSteps := 1000000 }) (disch := omega) only [go_sem, Int.reduceToNat, ↓reduceIte, Nat.reduceLT, Nat.reduceEqDiff, Nat.reduceAdd, Nat.reduceMul, Nat.reduceSub, Nat.reduceBEq, Nat.reduceLeDiff, reduceCtorEq, Nat.reduceLT, ↓Br_true, ↓Br_false, bind, pure, sc109, sb109]
  repeat' (first | (with_reducible refine And.intro (by first | (unfold SOk; kernel_rfl) | (unfold SBOk; kernel_rfl) | (with_reducible assumption) | omega | assumption) ?_) | (with_reducible refine Br_intro (fun hc => ?_) (fun hc => ?_)) | ((have cc := l01Ok_cv x hs; (first | ((first | refine callR (by rfl) (by rfl) (by rfl) cc ?_ | refine callM (by rfl) (by rfl) (by rfl) cc ?_ | refine callMo (by rfl) (by rfl) (by rfl) cc ?_); clear cc; rintro _ _ ⟨rfl, rfl⟩) | (refine callE (by rfl) cc (by rfl) ?_; clear cc))); simp (config := { maxSteps := 1000000 }) (disch := omega) only [go_sem, Int.reduceToNat, ↓reduceIte, Nat.reduceLT, Nat.reduceEqDiff, Nat.reduceAdd, Nat.reduceMul, Nat.reduceSub, Nat.reduceBEq, Nat.reduceLeDiff, reduceCtorEq, Nat.reduceLT, ↓Br_true, ↓Br_false, bind, pure, sc109, sb109]) | ((with_reducible show WidN _ _ _ _ _ _ _ _); (first | refine widL (by decide) (by with_reducible assumption) ?_ | refine widL (by decide) (FWok_nn (by with_reducible assumption)) ?_ | refine widN (by decide) (fun c hc => ?_)); simp (config := { maxSteps := 1000000 }) (disch := omega) only [go_sem, Int.reduceToNat, ↓reduceIte, Nat.reduceLT, Nat.reduceEqDiff, Nat.reduceAdd, Nat.reduceMul, Nat.reduceSub, Nat.reduceBEq, Nat.reduceLeDiff, reduceCtorEq, Nat.reduceLT, ↓Br_true, ↓Br_false, bind, pure, sc109, sb109]))
  all_goals simp_all [sunC]
theorem l01Day_cv (x : Nat → Int) (a : Int) (hx : Small x) (h2 : -32768 ≤ a) (h3 : a ≤ 32767) (hv : vSun x = true) :
    CV Tryz.prog 111 [.ptr 0 0 0, .f (.int .i64 a)] [sunB x] (fun v h => v = .f (.flt .f32 (fallDay x a)) ∧ h = [sunB x]) := by
  refine cv_of_run 1000 sc111 sb111 18 [.tmp 4] tabOk (by kernel_rfl) Tryz.func111 rfl (by kernel_rfl) Tryz.ntmps111 rfl (by simp) rfl (by simp [bdL, SV.bd]) ?_
  simp (config := { maxSteps := 1000000 }) (disch := omega) only [go_sem, Int.reduceToNat, ↓reduceIte, Nat.reduceLT, Nat.reduceEqDiff, Nat.reduceAdd, Nat.reduceMul, Nat.reduceSub, Nat.reduceBEq, Nat.reduceLeDiff, reduceCtorEq, Nat.reduceLT, ↓Br_true, ↓Br_false, bind, pure, sc111, sb111]
  refine ⟨Nat, fun k => k ≤ 24, fun k => 24 - k, fun k => [(0, .ptr 0 0 0), (1, .f (.int .i64 a)), (4, .f (.flt .f32 0)), (5, .f (.flt .f32 (sumF (fun k => fallF x k a) k))), (6, .f (.int .i64 k))], fun _ => [sunB x], 0, (by intro _; simp), ?_, (by (try refine Or.inl ?_); simp [Cov, covE, covH, cb_dead, cb_lit, cb_rows, cb_cells, cd_lit, cd_rows, cd_cells, cd_dead, covRow, look, SV.known, SV.bd, bdL, sumF] <;> omega), ?_⟩
  · omega
  · intro k hk
    by_cases hlt : k < 24
    · have hd : decide ((k : Int) < 24) = true := decide_eq_true (by omega)
      have hs := sumF_P0 (V := fun k => fallF x k a) k fun j hj => (fall_F0 hv (by omega)).1.p
      have ha := add_P0 hs (fall_F0 (t := k) (a := a) hv hlt).1.p
      simp (config := { maxSteps := 1000000 }) (disch := omega) only [go_sem, Int.reduceToNat, ↓reduceIte, Nat.reduceLT, Nat.reduceEqDiff, Nat.reduceAdd, Nat.reduceMul, Nat.reduceSub, Nat.reduceBEq, Nat.reduceLeDiff, reduceCtorEq, Nat.reduceLT, ↓Br_true, ↓Br_false, bind, pure, sc111, sb111, hd]
      repeat (with_reducible refine And.intro (by first | omega | assumption | (unfold SOk; kernel_rfl) | (unfold SBOk; kernel_rfl)) ?_)
      (have cc := l01Fall_cv x k a hx hlt h2 h3; (first | ((first | refine callR (by rfl) (by rfl) (by rfl) cc ?_ | refine callM (by rfl) (by rfl) (by rfl) cc ?_ | refine callMo (by rfl) (by rfl) (by rfl) cc ?_); clear cc; rintro _ _ ⟨rfl, rfl⟩) | (refine callE (by rfl) cc (by rfl) ?_; clear cc)))
      simp (config := { maxSteps := 1000000 }) (disch := omega) only [go_sem, Int.reduceToNat, ↓reduceIte, Nat.reduceLT, Nat.reduceEqDiff, Nat.reduceAdd, Nat.reduceMul, Nat.reduceSub, Nat.reduceBEq, Nat.reduceLeDiff, reduceCtorEq, Nat.reduceLT, ↓Br_true, ↓Br_false, bind, pure, sc111, sb111, hd]
      exact ⟨ha.1, k + 1, by omega, by omega, by (try refine Or.inl ?_); simp [Cov, covE, covH, cb_dead, cb_lit, cb_rows, cb_cells, cd_lit, cd_rows, cd_cells, cd_dead, covRow, look, SV.known, SV.bd, bdL, sumF] <;> omega⟩
    · have hd : decide ((k : Int) < 24) = false := decide_eq_false (by omega)
      simp (config := { maxSteps := 1000000 }) (disch := omega) only [go_sem, Int.reduceToNat, ↓reduceIte, Nat.reduceLT, Nat.reduceEqDiff, Nat.reduceAdd, Nat.reduceMul, Nat.reduceSub, Nat.reduceBEq, Nat.reduceLeDiff, reduceCtorEq, Nat.reduceLT, ↓Br_true, ↓Br_false, bind, pure, sc111, sb111, hd]
      obtain rfl : k = 24 := by omega
      rfl
theorem sFallDay_cv (x : Nat → Int) (a : Int) (hx : Small x) (h2 : 0 ≤ a) (h3 : a ≤ 255) (hv : vSun x = true) :
    CV Tryz.prog 43 [sunV x, .f (.int .i64 a)] [] (fun v h => v = .tup [.f (.flt .f32 (fallDay x a)), .f (.int .i64 0)] ∧ h = []) := by
  have e1 : inn a 0 255 = true := inn_true.2 ⟨h2, h3⟩
  have e2 : sunC x true = 0 := by simp [sunC, hv]
  refine cv_of_run 1000 sc43 sb43 15 [.tmp 4, .tmp 5] tabOk (by kernel_rfl) Tryz.func43 rfl (by kernel_rfl) Tryz.ntmps43 rfl (by simp) rfl (by simp [bdL, SV.bd]) ?_
  simp (config := { maxSteps := 1000000 }) (disch := omega) only [go_sem, Int.reduceToNat, ↓reduceIte, Nat.reduceLT, Nat.reduceEqDiff, Nat.reduceAdd, Nat.reduceMul, Nat.reduceSub, Nat.reduceBEq, Nat.reduceLeDiff, reduceCtorEq, Nat.reduceLT, ↓Br_true, ↓Br_false, bind, pure, sc43, sb43]
  repeat' (first | (with_reducible refine And.intro (by first | (unfold SOk; kernel_rfl) | (unfold SBOk; kernel_rfl) | (with_reducible assumption) | omega | assumption) ?_) | (with_reducible refine Br_intro (fun hc => ?_) (fun hc => ?_)) | ((first | (refine callR (by rfl) (by rfl) (by rfl) (l01Faced_cv a _) ?_; rintro _ _ ⟨rfl, rfl⟩) | (refine callM (by rfl) (by rfl) (by rfl) (l01Faced_cv a _) ?_; rintro _ _ ⟨rfl, rfl⟩) | (refine callMo (by rfl) (by rfl) (by rfl) (l01Faced_cv a _) ?_; rintro _ _ ⟨rfl, rfl⟩) | (refine callE (by rfl) (l01Faced_cv a _) (by rfl) ?_)); simp (config := { maxSteps := 1000000 }) (disch := omega) only [go_sem, Int.reduceToNat, ↓reduceIte, Nat.reduceLT, Nat.reduceEqDiff, Nat.reduceAdd, Nat.reduceMul, Nat.reduceSub, Nat.reduceBEq, Nat.reduceLeDiff, reduceCtorEq, Nat.reduceLT, ↓Br_true, ↓Br_false, bind, pure, sc43, sb43, e1, e2]) | ((have cc := l01Asked_cv x true hx; (first | ((first | refine callR (by rfl) (by rfl) (by rfl) cc ?_ | refine callM (by rfl) (by rfl) (by rfl) cc ?_ | refine callMo (by rfl) (by rfl) (by rfl) cc ?_); clear cc; rintro _ _ ⟨rfl, rfl⟩) | (refine callE (by rfl) cc (by rfl) ?_; clear cc))); simp (config := { maxSteps := 1000000 }) (disch := omega) only [go_sem, Int.reduceToNat, ↓reduceIte, Nat.reduceLT, Nat.reduceEqDiff, Nat.reduceAdd, Nat.reduceMul, Nat.reduceSub, Nat.reduceBEq, Nat.reduceLeDiff, reduceCtorEq, Nat.reduceLT, ↓Br_true, ↓Br_false, bind, pure, sc43, sb43, e1, e2]) | ((have cc := l01Day_cv x a hx (by omega) (by omega) hv; (first | ((first | refine callR (by rfl) (by rfl) (by rfl) cc ?_ | refine callM (by rfl) (by rfl) (by rfl) cc ?_ | refine callMo (by rfl) (by rfl) (by rfl) cc ?_); clear cc; rintro _ _ ⟨rfl, rfl⟩) | (refine callE (by rfl) cc (by rfl) ?_; clear cc))); simp (config := { maxSteps := 1000000 }) (disch := omega) only [go_sem, Int.reduceToNat, ↓reduceIte, Nat.reduceLT, Nat.reduceEqDiff, Nat.reduceAdd, Nat.reduceMul, Nat.reduceSub, Nat.reduceBEq, Nat.reduceLeDiff, reduceCtorEq, Nat.reduceLT, ↓Br_true, ↓Br_false, bind, pure, sc43, sb43, e1, e2]) | ((with_reducible show WidN _ _ _ _ _ _ _ _); (first | refine widL (by decide) (by with_reducible assumption) ?_ | refine widL (by decide) (FWok_nn (by with_reducible assumption)) ?_ | refine widN (by decide) (fun c hc => ?_)); simp (config := { maxSteps := 1000000 }) (disch := omega) only [go_sem, Int.reduceToNat, ↓reduceIte, Nat.reduceLT, Nat.reduceEqDiff, Nat.reduceAdd, Nat.reduceMul, Nat.reduceSub, Nat.reduceBEq, Nat.reduceLeDiff, reduceCtorEq, Nat.reduceLT, ↓Br_true, ↓Br_false, bind, pure, sc43, sb43, e1, e2]))
theorem SameNumber_cv (a b : Nat) : CV Tryz.prog 27 [.f (.flt .f32 a), .f (.flt .f32 b)] [] (fun v hh => v = .f (.bool (sameF a b)) ∧ hh = []) := by
  have c : CV Tryz.prog 88 [.f (.flt .f32 a), .f (.flt .f32 b)] [] (fun v hh => v = .f (.bool (sameF a b)) ∧ hh = []) :=
    CV.old0 trivial (enters_of Tryz.func88 (by kernel_rfl) (by kernel_rfl)) fun w β _ => l01Same_c a b w
  refine cv_of_run 1000 sc27 sb27 8 [.tmp 4] tabOk (by kernel_rfl) Tryz.func27 rfl (by kernel_rfl) Tryz.ntmps27 rfl (by simp) rfl (by simp [bdL, SV.bd]) ?_
  simp (config := { maxSteps := 1000000 }) (disch := omega) only [go_sem, Int.reduceToNat, ↓reduceIte, Nat.reduceLT, Nat.reduceEqDiff, Nat.reduceAdd, Nat.reduceMul, Nat.reduceSub, Nat.reduceBEq, Nat.reduceLeDiff, reduceCtorEq, Nat.reduceLT, ↓Br_true, ↓Br_false, bind, pure, sc27, sb27]
  repeat' (first | (with_reducible refine And.intro (by first | (unfold SOk; kernel_rfl) | (unfold SBOk; kernel_rfl) | (with_reducible assumption) | omega | assumption) ?_) | (with_reducible refine Br_intro (fun hc => ?_) (fun hc => ?_)) | ((have cc := c; (first | ((first | refine callR (by rfl) (by rfl) (by rfl) cc ?_ | refine callM (by rfl) (by rfl) (by rfl) cc ?_ | refine callMo (by rfl) (by rfl) (by rfl) cc ?_); clear cc; rintro _ _ ⟨rfl, rfl⟩) | (refine callE (by rfl) cc (by rfl) ?_; clear cc))); simp (config := { maxSteps := 1000000 }) (disch := omega) only [go_sem, Int.reduceToNat, ↓reduceIte, Nat.reduceLT, Nat.reduceEqDiff, Nat.reduceAdd, Nat.reduceMul, Nat.reduceSub, Nat.reduceBEq, Nat.reduceLeDiff, reduceCtorEq, Nat.reduceLT, ↓Br_true, ↓Br_false, bind, pure, sc27, sb27]) | ((with_reducible show WidN _ _ _ _ _ _ _ _); (first | refine widL (by decide) (by with_reducible assumption) ?_ | refine widL (by decide) (FWok_nn (by with_reducible assumption)) ?_ | refine widN (by decide) (fun c hc => ?_)); simp (config := { maxSteps := 1000000 }) (disch := omega) only [go_sem, Int.reduceToNat, ↓reduceIte, Nat.reduceLT, Nat.reduceEqDiff, Nat.reduceAdd, Nat.reduceMul, Nat.reduceSub, Nat.reduceBEq, Nat.reduceLeDiff, reduceCtorEq, Nat.reduceLT, ↓Br_true, ↓Br_false, bind, pure, sc27, sb27]))
theorem bigS_cv (n cap : Nat) (f : Nat → List FV) (hcap : n ≤ cap) : CV Tryz.prog 11 [.slc 0 0 n cap] [.rows n cap 1 f false] (fun v h => v = .f (.bool (decide ((4096 : Int) < n))) ∧ h = [.rows n cap 1 f false]) := by
  refine cv_of_run 1000 sc11 sb11 6 [.tmp 2] tabOk (by kernel_rfl) Tryz.func11 rfl (by kernel_rfl) Tryz.ntmps11 rfl (by simp) rfl (by simp [bdL, SV.bd]) ?_
  simp (config := { maxSteps := 1000000 }) (disch := omega) only [go_sem, Int.reduceToNat, ↓reduceIte, Nat.reduceLT, Nat.reduceEqDiff, Nat.reduceAdd, Nat.reduceMul, Nat.reduceSub, Nat.reduceBEq, Nat.reduceLeDiff, reduceCtorEq, Nat.reduceLT, ↓Br_true, ↓Br_false, bind, pure, sc11, sb11]
def seatN (L : List Int) (i : Nat) : Int := L.getD i 0
theorem l00Same_cv (L : List Int) (m c1 c2 : Nat) (u v : Nat → List FV) (hL : L.length = m) (hu : IntsAt L u) (hv : IntsAt L v) (h1 : m ≤ c1) (h2 : m ≤ c2) (hm : m ≤ 1048576) :
    CV Tryz.prog 118 [.slc 0 0 m c1, .slc 1 0 m c2] [.rows m c1 1 u false, .rows m c2 1 v false] (fun w h => w = .f (.bool true) ∧ h = [.rows m c1 1 u false, .rows m c2 1 v false]) := by
  refine cv_of_run 1000 sc118 sb118 26 [.tmp 4] tabOk (by kernel_rfl) Tryz.func118 rfl (by kernel_rfl) Tryz.ntmps118 rfl (by simp) rfl (by simp [bdL, SV.bd]) ?_
  simp (config := { maxSteps := 1000000 }) (disch := omega) only [go_sem, Int.reduceToNat, ↓reduceIte, Nat.reduceLT, Nat.reduceEqDiff, Nat.reduceAdd, Nat.reduceMul, Nat.reduceSub, Nat.reduceBEq, Nat.reduceLeDiff, reduceCtorEq, Nat.reduceLT, ↓Br_true, ↓Br_false, bind, pure, sc118, sb118]
  refine ⟨Nat, fun k => k ≤ m, fun k => m - k, fun k => [(0, .slc 0 0 m c1), (1, .slc 1 0 m c2), (4, .f (.bool false)), (5, .f (.int .i64 k))], fun _ => [.rows m c1 1 u false, .rows m c2 1 v false], 0, (by intro _; simp), ?_, (by (try refine Or.inl ?_); simp [Cov, covE, covH, cb_dead, cb_lit, cb_rows, cb_cells, cd_lit, cd_rows, cd_cells, cd_dead, covRow, look, SV.known, SV.bd, bdL, h1, h2] <;> omega), ?_⟩
  · omega
  · intro k hk
    by_cases hlt : k < m
    · have hd : decide ((k : Int) < m) = true := decide_eq_true (by omega)
      have e1 := hu k (by omega)
      have e2 := hv k (by omega)
      simp (config := { maxSteps := 1000000 }) (disch := omega) only [go_sem, Int.reduceToNat, ↓reduceIte, Nat.reduceLT, Nat.reduceEqDiff, Nat.reduceAdd, Nat.reduceMul, Nat.reduceSub, Nat.reduceBEq, Nat.reduceLeDiff, reduceCtorEq, Nat.reduceLT, ↓Br_true, ↓Br_false, bind, pure, sc118, sb118, hd, e1, e2]
      repeat' (first | (with_reducible refine And.intro (by first | (unfold SOk; kernel_rfl) | (unfold SBOk; kernel_rfl) | (with_reducible assumption) | omega | assumption) ?_) | (with_reducible refine Br_intro (fun hc => ?_) (fun hc => ?_)) | ((with_reducible show WidN _ _ _ _ _ _ _ _); (first | refine widL (by decide) (by with_reducible assumption) ?_ | refine widL (by decide) (FWok_nn (by with_reducible assumption)) ?_ | refine widN (by decide) (fun c hc => ?_)); simp (config := { maxSteps := 1000000 }) (disch := omega) only [go_sem, Int.reduceToNat, ↓reduceIte, Nat.reduceLT, Nat.reduceEqDiff, Nat.reduceAdd, Nat.reduceMul, Nat.reduceSub, Nat.reduceBEq, Nat.reduceLeDiff, reduceCtorEq, Nat.reduceLT, ↓Br_true, ↓Br_false, bind, pure, sc118, sb118, hd, e1, e2]))
      exact ⟨k + 1, by omega, by omega, by (try refine Or.inl ?_); simp [Cov, covE, covH, cb_dead, cb_lit, cb_rows, cb_cells, cd_lit, cd_rows, cd_cells, cd_dead, covRow, look, SV.known, SV.bd, bdL, h1, h2] <;> omega⟩
    · have hd : decide ((k : Int) < m) = false := decide_eq_false (by omega)
      simp (config := { maxSteps := 1000000 }) (disch := omega) only [go_sem, Int.reduceToNat, ↓reduceIte, Nat.reduceLT, Nat.reduceEqDiff, Nat.reduceAdd, Nat.reduceMul, Nat.reduceSub, Nat.reduceBEq, Nat.reduceLeDiff, reduceCtorEq, Nat.reduceLT, ↓Br_true, ↓Br_false, bind, pure, sc118, sb118, hd]
theorem SameNumbers_cv (L : List Int) (m c1 c2 : Nat) (u v : Nat → List FV) (hL : L.length = m) (hu : IntsAt L u) (hv : IntsAt L v) (h1 : m ≤ c1) (h2 : m ≤ c2) (hm : m ≤ 1048576) :
    CV Tryz.prog 49 [.slc 0 0 m c1, .slc 1 0 m c2] [.rows m c1 1 u false, .rows m c2 1 v false] (fun w h => w = .f (.bool true) ∧ h = [.rows m c1 1 u false, .rows m c2 1 v false]) := by
  refine cv_of_run 1000 sc49 sb49 8 [.tmp 4] tabOk (by kernel_rfl) Tryz.func49 rfl (by kernel_rfl) Tryz.ntmps49 rfl (by simp) rfl (by simp [bdL, SV.bd]) ?_
  simp (config := { maxSteps := 1000000 }) (disch := omega) only [go_sem, Int.reduceToNat, ↓reduceIte, Nat.reduceLT, Nat.reduceEqDiff, Nat.reduceAdd, Nat.reduceMul, Nat.reduceSub, Nat.reduceBEq, Nat.reduceLeDiff, reduceCtorEq, Nat.reduceLT, ↓Br_true, ↓Br_false, bind, pure, sc49, sb49]
  repeat' (first | (with_reducible refine And.intro (by first | (unfold SOk; kernel_rfl) | (unfold SBOk; kernel_rfl) | (with_reducible assumption) | omega | assumption) ?_) | (with_reducible refine Br_intro (fun hc => ?_) (fun hc => ?_)) | ((have cc := l00Same_cv L m c1 c2 u v hL hu hv h1 h2 hm; (first | ((first | refine callR (by rfl) (by rfl) (by rfl) cc ?_ | refine callM (by rfl) (by rfl) (by rfl) cc ?_ | refine callMo (by rfl) (by rfl) (by rfl) cc ?_); clear cc; rintro _ _ ⟨rfl, rfl⟩) | (refine callE (by rfl) cc (by rfl) ?_; clear cc))); simp (config := { maxSteps := 1000000 }) (disch := omega) only [go_sem, Int.reduceToNat, ↓reduceIte, Nat.reduceLT, Nat.reduceEqDiff, Nat.reduceAdd, Nat.reduceMul, Nat.reduceSub, Nat.reduceBEq, Nat.reduceLeDiff, reduceCtorEq, Nat.reduceLT, ↓Br_true, ↓Br_false, bind, pure, sc49, sb49]) | ((with_reducible show WidN _ _ _ _ _ _ _ _); (first | refine widL (by decide) (by with_reducible assumption) ?_ | refine widL (by decide) (FWok_nn (by with_reducible assumption)) ?_ | refine widN (by decide) (fun c hc => ?_)); simp (config := { maxSteps := 1000000 }) (disch := omega) only [go_sem, Int.reduceToNat, ↓reduceIte, Nat.reduceLT, Nat.reduceEqDiff, Nat.reduceAdd, Nat.reduceMul, Nat.reduceSub, Nat.reduceBEq, Nat.reduceLeDiff, reduceCtorEq, Nat.reduceLT, ↓Br_true, ↓Br_false, bind, pure, sc49, sb49]))
def hasK (L : List Int) (x : Int) : Nat → Bool
  | 0 => false
  | k + 1 => hasK L x k || decide (seatN L k = x)
theorem l00Has_cv (L : List Int) (x : Int) (m c1 : Nat) (u : Nat → List FV) (hL : L.length = m) (hu : IntsAt L u) (h1 : m ≤ c1) (hm : m ≤ 1048576) :
    CV Tryz.prog 123 [.slc 0 0 m c1, .f (.int .i64 x)] [.rows m c1 1 u false] (fun w h => w = .f (.bool (hasK L x m)) ∧ h = [.rows m c1 1 u false]) := by
  have hno : ∀ k j, j < k → hasK L x j = false ∨ hasK L x k = true := fun k j h => by
    cases c : hasK L x j with
    | false => exact .inl rfl
    | true =>
      right
      have : ∀ d, hasK L x (j + d) = true := fun d => by
        induction d with
        | zero => exact c
        | succ d ih => rw [show j + (d + 1) = j + d + 1 by omega, hasK, ih]; rfl
      rw [show k = j + (k - j) by omega]; exact this _
  refine cv_of_run 1000 sc123 sb123 18 [.tmp 4] tabOk (by kernel_rfl) Tryz.func123 rfl (by kernel_rfl) Tryz.ntmps123 rfl (by simp) rfl (by simp [bdL, SV.bd]) ?_
  simp (config := { maxSteps := 1000000 }) (disch := omega) only [go_sem, Int.reduceToNat, ↓reduceIte, Nat.reduceLT, Nat.reduceEqDiff, Nat.reduceAdd, Nat.reduceMul, Nat.reduceSub, Nat.reduceBEq, Nat.reduceLeDiff, reduceCtorEq, Nat.reduceLT, ↓Br_true, ↓Br_false, bind, pure, sc123, sb123]
  refine ⟨Nat, fun k => k ≤ m ∧ hasK L x k = false, fun k => m - k, fun k => [(0, .slc 0 0 m c1), (1, .f (.int .i64 x)), (4, .f (.bool false)), (5, .f (.int .i64 k))], fun _ => [.rows m c1 1 u false], 0, (by intro _; simp), ?_, (by (try refine Or.inl ?_); simp [Cov, covE, covH, cb_dead, cb_lit, cb_rows, cb_cells, cd_lit, cd_rows, cd_cells, cd_dead, covRow, look, SV.known, SV.bd, bdL, h1] <;> omega), ?_⟩
  · exact ⟨by omega, rfl⟩
  · rintro k ⟨hk, hn⟩
    by_cases hlt : k < m
    · have hd : decide ((k : Int) < m) = true := decide_eq_true (by omega)
      have e1 := hu k (by omega)
      have eh : hasK L x (k + 1) = decide (seatN L k = x) := by rw [hasK, hn]; simp
      have es : seatN L k = L.getD k 0 := rfl
      simp (config := { maxSteps := 1000000 }) (disch := omega) only [go_sem, Int.reduceToNat, ↓reduceIte, Nat.reduceLT, Nat.reduceEqDiff, Nat.reduceAdd, Nat.reduceMul, Nat.reduceSub, Nat.reduceBEq, Nat.reduceLeDiff, reduceCtorEq, Nat.reduceLT, ↓Br_true, ↓Br_false, bind, pure, sc123, sb123, hd, e1]
      repeat' (first | (with_reducible refine And.intro (by first | (unfold SOk; kernel_rfl) | (unfold SBOk; kernel_rfl) | (with_reducible assumption) | omega | assumption) ?_) | (with_reducible refine Br_intro (fun hc => ?_) (fun hc => ?_)) | ((with_reducible show WidN _ _ _ _ _ _ _ _); (first | refine widL (by decide) (by with_reducible assumption) ?_ | refine widL (by decide) (FWok_nn (by with_reducible assumption)) ?_ | refine widN (by decide) (fun c hc => ?_)); simp (config := { maxSteps := 1000000 }) (disch := omega) only [go_sem, Int.reduceToNat, ↓reduceIte, Nat.reduceLT, Nat.reduceEqDiff, Nat.reduceAdd, Nat.reduceMul, Nat.reduceSub, Nat.reduceBEq, Nat.reduceLeDiff, reduceCtorEq, Nat.reduceLT, ↓Br_true, ↓Br_false, bind, pure, sc123, sb123, hd, e1]))
      · simp only [decide_eq_true_eq] at hc
        have : hasK L x (k + 1) = true := by rw [eh, es]; exact decide_eq_true hc
        rcases hno m k hlt with c | c
        · by_cases q : k + 1 = m
          · rw [← q, this]
          · rcases hno m (k + 1) (by omega) with d | d
            · rw [this] at d; cases d
            · rw [d]
        · rw [c]
      · simp only [decide_eq_false_iff_not] at hc
        exact ⟨k + 1, ⟨by omega, by rw [eh, es]; exact decide_eq_false hc⟩, by omega, by (try refine Or.inl ?_); simp [Cov, covE, covH, cb_dead, cb_lit, cb_rows, cb_cells, cd_lit, cd_rows, cd_cells, cd_dead, covRow, look, SV.known, SV.bd, bdL, h1] <;> omega⟩
    · have hd : decide ((k : Int) < m) = false := decide_eq_false (by omega)
      obtain rfl : k = m := by omega
      simp (config := { maxSteps := 1000000 }) (disch := omega) only [go_sem, Int.reduceToNat, ↓reduceIte, Nat.reduceLT, Nat.reduceEqDiff, Nat.reduceAdd, Nat.reduceMul, Nat.reduceSub, Nat.reduceBEq, Nat.reduceLeDiff, reduceCtorEq, Nat.reduceLT, ↓Br_true, ↓Br_false, bind, pure, sc123, sb123, hd]
      rw [hn]
theorem HasNumber_cv (L : List Int) (x : Int) (m c1 : Nat) (u : Nat → List FV) (hL : L.length = m) (hu : IntsAt L u) (h1 : m ≤ c1) (hm : m ≤ 1048576) :
    CV Tryz.prog 56 [.slc 0 0 m c1, .f (.int .i64 x)] [.rows m c1 1 u false] (fun w h => w = .f (.bool (hasK L x m)) ∧ h = [.rows m c1 1 u false]) := by
  refine cv_of_run 1000 sc56 sb56 8 [.tmp 4] tabOk (by kernel_rfl) Tryz.func56 rfl (by kernel_rfl) Tryz.ntmps56 rfl (by simp) rfl (by simp [bdL, SV.bd]) ?_
  simp (config := { maxSteps := 1000000 }) (disch := omega) only [go_sem, Int.reduceToNat, ↓reduceIte, Nat.reduceLT, Nat.reduceEqDiff, Nat.reduceAdd, Nat.reduceMul, Nat.reduceSub, Nat.reduceBEq, Nat.reduceLeDiff, reduceCtorEq, Nat.reduceLT, ↓Br_true, ↓Br_false, bind, pure, sc56, sb56]
  repeat' (first | (with_reducible refine And.intro (by first | (unfold SOk; kernel_rfl) | (unfold SBOk; kernel_rfl) | (with_reducible assumption) | omega | assumption) ?_) | (with_reducible refine Br_intro (fun hc => ?_) (fun hc => ?_)) | ((have cc := l00Has_cv L x m c1 u hL hu h1 hm; (first | ((first | refine callR (by rfl) (by rfl) (by rfl) cc ?_ | refine callM (by rfl) (by rfl) (by rfl) cc ?_ | refine callMo (by rfl) (by rfl) (by rfl) cc ?_); clear cc; rintro _ _ ⟨rfl, rfl⟩) | (refine callE (by rfl) cc (by rfl) ?_; clear cc))); simp (config := { maxSteps := 1000000 }) (disch := omega) only [go_sem, Int.reduceToNat, ↓reduceIte, Nat.reduceLT, Nat.reduceEqDiff, Nat.reduceAdd, Nat.reduceMul, Nat.reduceSub, Nat.reduceBEq, Nat.reduceLeDiff, reduceCtorEq, Nat.reduceLT, ↓Br_true, ↓Br_false, bind, pure, sc56, sb56]) | ((with_reducible show WidN _ _ _ _ _ _ _ _); (first | refine widL (by decide) (by with_reducible assumption) ?_ | refine widL (by decide) (FWok_nn (by with_reducible assumption)) ?_ | refine widN (by decide) (fun c hc => ?_)); simp (config := { maxSteps := 1000000 }) (disch := omega) only [go_sem, Int.reduceToNat, ↓reduceIte, Nat.reduceLT, Nat.reduceEqDiff, Nat.reduceAdd, Nat.reduceMul, Nat.reduceSub, Nat.reduceBEq, Nat.reduceLeDiff, reduceCtorEq, Nat.reduceLT, ↓Br_true, ↓Br_false, bind, pure, sc56, sb56]))
theorem P6Tone_cv (n cap : Nat) (f : Nat → List FV) (hB : BytesAt n f) (hcap : n ≤ cap) (hn : n ≤ 4096) :
    CV Tryz.prog 13 [.slc 0 0 n cap] [.rows n cap 1 f false] (fun v h => ∃ x : Nat, Prt x ∧ v = .f (.flt .f32 x) ∧ h = [.rows n cap 1 f false]) := by
  refine cv_of_run 1000 sc13 sb13 6 [.tmp 2] tabOk (by kernel_rfl) Tryz.func13 rfl (by kernel_rfl) Tryz.ntmps13 rfl (by simp) rfl (by simp [bdL, SV.bd]) ?_
  simp (config := { maxSteps := 1000000 }) (disch := omega) only [go_sem, Int.reduceToNat, ↓reduceIte, Nat.reduceLT, Nat.reduceEqDiff, Nat.reduceAdd, Nat.reduceMul, Nat.reduceSub, Nat.reduceBEq, Nat.reduceLeDiff, reduceCtorEq, Nat.reduceLT, ↓Br_true, ↓Br_false, bind, pure, sc13, sb13]
  have cc := fromS_cv n cap f hB hcap hn; (first | refine callR (by rfl) (by rfl) (by rfl) cc ?_ | refine callM (by rfl) (by rfl) (by rfl) cc ?_ | refine callMo (by rfl) (by rfl) (by rfl) cc ?_ | refine callG (by rfl) (by rfl) (by rfl) cc ?_ | refine callW (by rfl) (by first | rfl | (simp [ofL, kpB, kpR, ofB, isOwnB, isDead, inL, hget]; done)) (by rfl) (by rfl) cc ?_); clear cc; rintro _ _ ⟨rfl, rfl⟩
  simp (config := { maxSteps := 1000000 }) (disch := omega) only [go_sem, Int.reduceToNat, ↓reduceIte, Nat.reduceLT, Nat.reduceEqDiff, Nat.reduceAdd, Nat.reduceMul, Nat.reduceSub, Nat.reduceBEq, Nat.reduceLeDiff, reduceCtorEq, Nat.reduceLT, ↓Br_true, ↓Br_false, bind, pure, sc13, sb13]
  have cc := toneS_cv n cap f hB hcap hn 0 0 (by omega); (first | refine callR (by rfl) (by rfl) (by rfl) cc ?_ | refine callM (by rfl) (by rfl) (by rfl) cc ?_ | refine callMo (by rfl) (by rfl) (by rfl) cc ?_ | refine callG (by rfl) (by rfl) (by rfl) cc ?_ | refine callW (by rfl) (by first | rfl | (simp [ofL, kpB, kpR, ofB, isOwnB, isDead, inL, hget]; done)) (by rfl) (by rfl) cc ?_); clear cc; rintro _ _ ⟨x, a1, s1, rfl, hx, ha1, rfl⟩
  simp (config := { maxSteps := 1000000 }) (disch := omega) only [go_sem, Int.reduceToNat, ↓reduceIte, Nat.reduceLT, Nat.reduceEqDiff, Nat.reduceAdd, Nat.reduceMul, Nat.reduceSub, Nat.reduceBEq, Nat.reduceLeDiff, reduceCtorEq, Nat.reduceLT, ↓Br_true, ↓Br_false, bind, pure, sc13, sb13]
  exact ⟨x, hx, rfl⟩
/-! ### Texts that are read back -/
theorem sp_cut {c : UInt8} : ∀ {p r : List UInt8}, c ∉ p → sp c (p ++ c :: r) = p :: sp c r
  | [], r, _ => by simp [sp]
  | b :: p, r, h => by
    have hb : ¬ b = c := fun e => h (by simp [e])
    rw [List.cons_append, sp, if_neg hb, sp_cut (fun e => h (List.mem_cons_of_mem _ e))]
    rfl
theorem sp_whole {c : UInt8} : ∀ {p : List UInt8}, c ∉ p → sp c p = [p]
  | [], _ => rfl
  | b :: p, h => by
    have hb : ¬ b = c := fun e => h (by simp [e])
    rw [sp, if_neg hb, sp_whole (fun e => h (List.mem_cons_of_mem _ e))]
    rfl
theorem hexd_ne : ∀ k, k < 16 → hexd k ≠ 32 ∧ hexd k ≠ 10 ∧ hexd k ≠ 47 ∧ hexd k ≠ 120 := by decide
theorem hexN_mem : ∀ n b x, x ∈ hexN b n → ∃ k, k < 16 ∧ x = hexd k
  | 0, _, _, h => by simp [hexN] at h
  | n + 1, b, x, h => by
    rw [hexN] at h
    rcases List.mem_append.1 h with h | h
    · exact hexN_mem n _ x h
    · exact ⟨b % 16, Nat.mod_lt _ (by omega), by simpa using h⟩
theorem hex_no32 (b n : Nat) : (32 : UInt8) ∉ hexN b n := fun h => by
  obtain ⟨k, hk, e⟩ := hexN_mem n b 32 h
  exact (hexd_ne k hk).1 e.symm
theorem tbits_nn {a : Nat} (h : nn a) : tbits a = a := by
  rw [tbits, if_pos]; rw [feq_self]; exact decide_eq_true h
theorem num_hex {a : Nat} (h : nn a) (ha : a < 4294967296) : num (hexN (tbits a) 8) = some a := by
  rw [tbits_nn h]; exact num_iff.2 ⟨rfl, ha, tbits_nn h⟩
theorem btw_nn {a l u : Nat} (h : btw a l u = true) : nn a := by
  unfold btw at h; simp only [Bool.and_eq_true] at h; exact (fle_nn h.2).1
theorem vAw_nn {a b c d : Nat} (h : vAwning a b c d = true) : nn a ∧ nn b ∧ nn c ∧ nn d := by
  simp only [vAwning, Bool.and_eq_true] at h
  exact ⟨btw_nn h.1.1.1, btw_nn h.1.1.2, btw_nn h.1.2, btw_nn h.2⟩
theorem sp_awnT (a b c d : Nat) : sp 32 (awnT a b c d) = [hexN (tbits a) 8, hexN (tbits b) 8, hexN (tbits c) 8, hexN (tbits d) 8] := by
  have e : awnT a b c d = hexN (tbits a) 8 ++ 32 :: (hexN (tbits b) 8 ++ 32 :: (hexN (tbits c) 8 ++ 32 :: hexN (tbits d) 8)) := by simp [awnT]
  rw [e, sp_cut (hex_no32 _ _), sp_cut (hex_no32 _ _), sp_cut (hex_no32 _ _), sp_whole (hex_no32 _ _)]
theorem rd_awn {a b c d : Nat} (h : vAwning a b c d = true) (ha : a < 4294967296) (hb : b < 4294967296) (hc : c < 4294967296) (hd : d < 4294967296) :
    rdV (awnS a b c d) = .tup [tawnV a b c d, .f (.int .i64 0)] := by
  obtain ⟨n1, n2, n3, n4⟩ := vAw_nn h
  have es : awnS a b c d = awnT a b c d := by rw [awnS, if_pos h]
  have e1 : num (wd (awnT a b c d) 0) = some a := by rw [wd, sp_awnT]; exact num_hex n1 ha
  have e2 : num (wd (awnT a b c d) 1) = some b := by rw [wd, sp_awnT]; exact num_hex n2 hb
  have e3 : num (wd (awnT a b c d) 2) = some c := by rw [wd, sp_awnT]; exact num_hex n3 hc
  have e4 : num (wd (awnT a b c d) 3) = some d := by rw [wd, sp_awnT]; exact num_hex n4 hd
  have ok : rdOk (awnT a b c d) = true := by simp [rdOk, sp_awnT, gd, e1, e2, e3, e4, h]
  rw [es, rdV, if_pos ok]
  simp [gd, e1, e2, e3, e4]
theorem awnS_len (a b c d : Nat) : (awnS a b c d).length ≤ 35 := by
  unfold awnS; split
  · rw [awnT_len]; exact Nat.le_refl _
  · simp
theorem ReadBack_cv {a b c d : Nat} (h : vAwning a b c d = true) (ha : a < 4294967296) (hb : b < 4294967296) (hc : c < 4294967296) (hd : d < 4294967296) :
    CV Tryz.prog 39 [.f (.str (bs (awnS a b c d)))] [] (fun v hh => v = .tup [tawnV a b c d, .f (.int .i64 0)] ∧ hh = []) := by
  have := ReadAwning_cv (awnS a b c d) (Nat.le_trans (awnS_len a b c d) (by omega))
  rw [rd_awn h ha hb hc hd] at this
  exact this
theorem aSameAwning_cv {a b c d : Nat} (h : vAwning a b c d = true) : CV Tryz.prog 47 [tawnV a b c d, tawnV a b c d] [] (fun v hh => v = .f (.bool true) ∧ hh = []) := by
  obtain ⟨n1, n2, n3, n4⟩ := vAw_nn h
  have e : sameAwning a b c d a b c d = true := by simp [sameAwning, sameF_self n1, sameF_self n2, sameF_self n3, sameF_self n4]
  exact CV.old trivial (enters_of Tryz.func47 (by kernel_rfl) (by kernel_rfl)) fun w β _ => by
    have := SameAwning_c a b c d a b c d w
    rw [e] at this
    exact this
theorem asSameAwning_cv {a b c d : Nat} (h : vAwning a b c d = true) : CV Tryz.prog 46 [tawnV a b c d, tawnV a b c d] [] (fun v hh => v = .f (.bool true) ∧ hh = []) := by
  obtain ⟨n1, n2, n3, n4⟩ := vAw_nn h
  have e : sameAwning a b c d a b c d = true := by simp [sameAwning, sameF_self n1, sameF_self n2, sameF_self n3, sameF_self n4]
  exact CV.old trivial (enters_of Tryz.func46 (by kernel_rfl) (by kernel_rfl)) fun w β _ => by
    have := sSameAwning_c a b c d a b c d w
    rw [e] at this
    exact this
theorem FallOn_cv (x : Nat → Int) (t : Nat) (a : Int) (hx : Small x) (h1 : t < 24) (h2 : 0 ≤ a) (h3 : a ≤ 255) (hv : vSun x = true) :
    CV Tryz.prog 50 [sunV x, .f (.int .i64 t), .f (.int .i64 a)] [] (fun v h => v = .tup [.f (.flt .f32 (fallF x t a)), .f (.int .i64 0)] ∧ h = []) := by
  have i1 : inn (t : Int) 0 23 = true := inn_true.2 (by omega)
  have i2 : inn a 0 255 = true := inn_true.2 ⟨h2, h3⟩
  have c1 := sunCode_cv x true [] hx
  have e : sunC x true = 0 := by simp [sunC, hv]
  rw [e] at c1
  refine cv_of_run 1000 sc50 sb50 23 [.tmp 6, .tmp 7] tabOk (by kernel_rfl) Tryz.func50 rfl (by kernel_rfl) Tryz.ntmps50 rfl (by simp) rfl (by simp [bdL, SV.bd]) ?_
  simp (config := { maxSteps := 1000000 }) (disch := omega) only [go_sem, Int.reduceToNat, ↓reduceIte, Nat.reduceLT, Nat.reduceEqDiff, Nat.reduceAdd, Nat.reduceMul, Nat.reduceSub, Nat.reduceBEq, Nat.reduceLeDiff, reduceCtorEq, Nat.reduceLT, ↓Br_true, ↓Br_false, bind, pure, sc50, sb50, i1, i2]
  refine ⟨by first | (unfold SOk; kernel_rfl) | (unfold SBOk; kernel_rfl), ?_⟩
  repeat' (first | (with_reducible refine And.intro (by first | (unfold SOk; kernel_rfl) | (unfold SBOk; kernel_rfl) | (with_reducible assumption) | omega | assumption) ?_) | (with_reducible refine Br_intro (fun hc => ?_) (fun hc => ?_)) | ((first | (refine callR (by rfl) (by rfl) (by rfl) (isHour_cv _ _) ?_; rintro _ _ ⟨rfl, rfl⟩) | (refine callM (by rfl) (by rfl) (by rfl) (isHour_cv _ _) ?_; rintro _ _ ⟨rfl, rfl⟩) | (refine callMo (by rfl) (by rfl) (by rfl) (isHour_cv _ _) ?_; rintro _ _ ⟨rfl, rfl⟩) | (refine callE (by rfl) (isHour_cv _ _) (by rfl) ?_)); simp (config := { maxSteps := 1000000 }) (disch := omega) only [go_sem, Int.reduceToNat, ↓reduceIte, Nat.reduceLT, Nat.reduceEqDiff, Nat.reduceAdd, Nat.reduceMul, Nat.reduceSub, Nat.reduceBEq, Nat.reduceLeDiff, reduceCtorEq, Nat.reduceLT, ↓Br_true, ↓Br_false, bind, pure, sc50, sb50, i1, i2]) | ((first | (refine callR (by rfl) (by rfl) (by rfl) (isFacing_cv _ _) ?_; rintro _ _ ⟨rfl, rfl⟩) | (refine callM (by rfl) (by rfl) (by rfl) (isFacing_cv _ _) ?_; rintro _ _ ⟨rfl, rfl⟩) | (refine callMo (by rfl) (by rfl) (by rfl) (isFacing_cv _ _) ?_; rintro _ _ ⟨rfl, rfl⟩) | (refine callE (by rfl) (isFacing_cv _ _) (by rfl) ?_)); simp (config := { maxSteps := 1000000 }) (disch := omega) only [go_sem, Int.reduceToNat, ↓reduceIte, Nat.reduceLT, Nat.reduceEqDiff, Nat.reduceAdd, Nat.reduceMul, Nat.reduceSub, Nat.reduceBEq, Nat.reduceLeDiff, reduceCtorEq, Nat.reduceLT, ↓Br_true, ↓Br_false, bind, pure, sc50, sb50, i1, i2]) | ((have cc := c1; (first | ((first | refine callR (by rfl) (by rfl) (by rfl) cc ?_ | refine callM (by rfl) (by rfl) (by rfl) cc ?_ | refine callMo (by rfl) (by rfl) (by rfl) cc ?_); clear cc; rintro _ _ ⟨rfl, rfl⟩) | (refine callE (by rfl) cc (by rfl) ?_; clear cc))); simp (config := { maxSteps := 1000000 }) (disch := omega) only [go_sem, Int.reduceToNat, ↓reduceIte, Nat.reduceLT, Nat.reduceEqDiff, Nat.reduceAdd, Nat.reduceMul, Nat.reduceSub, Nat.reduceBEq, Nat.reduceLeDiff, reduceCtorEq, Nat.reduceLT, ↓Br_true, ↓Br_false, bind, pure, sc50, sb50, i1, i2]) | ((have cc := fall_cv x t a hx h1 (by omega) (by omega); (first | ((first | refine callR (by rfl) (by rfl) (by rfl) cc ?_ | refine callM (by rfl) (by rfl) (by rfl) cc ?_ | refine callMo (by rfl) (by rfl) (by rfl) cc ?_); clear cc; rintro _ _ ⟨rfl, rfl⟩) | (refine callE (by rfl) cc (by rfl) ?_; clear cc))); simp (config := { maxSteps := 1000000 }) (disch := omega) only [go_sem, Int.reduceToNat, ↓reduceIte, Nat.reduceLT, Nat.reduceEqDiff, Nat.reduceAdd, Nat.reduceMul, Nat.reduceSub, Nat.reduceBEq, Nat.reduceLeDiff, reduceCtorEq, Nat.reduceLT, ↓Br_true, ↓Br_false, bind, pure, sc50, sb50, i1, i2]) | ((with_reducible show WidN _ _ _ _ _ _ _ _); (first | refine widL (by decide) (by with_reducible assumption) ?_ | refine widL (by decide) (FWok_nn (by with_reducible assumption)) ?_ | refine widN (by decide) (fun c hc => ?_)); simp (config := { maxSteps := 1000000 }) (disch := omega) only [go_sem, Int.reduceToNat, ↓reduceIte, Nat.reduceLT, Nat.reduceEqDiff, Nat.reduceAdd, Nat.reduceMul, Nat.reduceSub, Nat.reduceBEq, Nat.reduceLeDiff, reduceCtorEq, Nat.reduceLT, ↓Br_true, ↓Br_false, bind, pure, sc50, sb50, i1, i2]))
end Go.Proofs.YtpcnpmhpelbndaaGreatDoor.Vx
