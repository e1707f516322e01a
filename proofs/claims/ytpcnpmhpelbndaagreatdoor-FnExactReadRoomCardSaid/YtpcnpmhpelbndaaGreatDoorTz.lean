/- Rooms that are read: rooms without windows; the reference. -/
import Derived.Test.YtpcnpmhpelbndaaGreatDoorTy
namespace Go.Proofs.YtpcnpmhpelbndaaGreatDoor.Vx
open Go Go.RowKit Fl
set_option maxRecDepth 100000
set_option maxHeartbeats 4000000
set_option linter.unusedSimpArgs false
set_option linter.unusedVariables false
theorem strEq_bs (a b : List UInt8) : strEq (bs a) (bs b) = (a == b) := by
  by_cases h : a = b
  · subst h; rw [strEq_self]; simp
  · have : (a == b) = false := by simpa using h
    rw [this]
    cases e : strEq (bs a) (bs b)
    · rfl
    · exfalso
      apply h
      have := (show bs a = bs b by simpa [strEq] using e)
      exact bs_inj.1 this
theorem l03OkN_cv (r : Rom) (us : Nat → Win) (hr : (-128 ≤ r.wi ∧ r.wi ≤ 127) ∧ -128 ≤ r.hi ∧ r.hi ≤ 127) :
    CV Tryz.prog 64 [.ptr 0 0 0] [.lit [.f (.int .i8 r.wi), .f (.int .i8 r.hi), .f .nils] false] (fun v h => v = .f (.bool (vRoom r us 0)) ∧ h = [.lit [.f (.int .i8 r.wi), .f (.int .i8 r.hi), .f .nils] false]) := by
  obtain ⟨⟨_, _⟩, ⟨_, _⟩⟩ := hr
  have ev : vRoom r us 0 = (inn r.wi 1 10 && inn r.hi 1 10) := by simp [vRoom, allW]
  rw [ev]
  refine cv_of_run 1000 sc64 sb64 47 [.tmp 2] tabOk (by kernel_rfl) Tryz.func64 rfl (by kernel_rfl) Tryz.ntmps64 rfl (by simp) rfl (by simp [bdL, SV.bd]) ?_
  simp (config := { maxSteps := 1000000 }) (disch := omega) only [go_sem, Int.reduceToNat, ↓reduceIte, Nat.reduceLT, Nat.reduceEqDiff, Nat.reduceAdd, Nat.reduceMul, Nat.reduceSub, Nat.reduceBEq, Nat.reduceLeDiff, reduceCtorEq, Nat.reduceLT, ↓Br_true, ↓Br_false, bind, pure, sc64, sb64]
  repeat' (first | (with_reducible refine And.intro (by first | (unfold SOk; kernel_rfl) | (unfold SBOk; kernel_rfl) | (with_reducible assumption) | omega | assumption) ?_) | (with_reducible refine Br_intro (fun hc => ?_) (fun hc => ?_)) | ((first | (refine callR (by rfl) (by rfl) (by rfl) (rl00In_cv _ _ _) ?_; rintro _ _ ⟨rfl, rfl⟩) | (refine callM (by rfl) (by rfl) (by rfl) (rl00In_cv _ _ _) ?_; rintro _ _ ⟨rfl, rfl⟩) | (refine callMo (by rfl) (by rfl) (by rfl) (rl00In_cv _ _ _) ?_; rintro _ _ ⟨rfl, rfl⟩) | (refine callE (by rfl) (rl00In_cv _ _ _) (by rfl) ?_)); simp (config := { maxSteps := 1000000 }) (disch := omega) only [go_sem, Int.reduceToNat, ↓reduceIte, Nat.reduceLT, Nat.reduceEqDiff, Nat.reduceAdd, Nat.reduceMul, Nat.reduceSub, Nat.reduceBEq, Nat.reduceLeDiff, reduceCtorEq, Nat.reduceLT, ↓Br_true, ↓Br_false, bind, pure, sc64, sb64]) | ((with_reducible show WidN _ _ _ _ _ _ _ _); (first | refine widL (by decide) (by with_reducible assumption) ?_ | refine widL (by decide) (FWok_nn (by with_reducible assumption)) ?_ | refine widN (by decide) (fun c hc => ?_)); simp (config := { maxSteps := 1000000 }) (disch := omega) only [go_sem, Int.reduceToNat, ↓reduceIte, Nat.reduceLT, Nat.reduceEqDiff, Nat.reduceAdd, Nat.reduceMul, Nat.reduceSub, Nat.reduceBEq, Nat.reduceLeDiff, reduceCtorEq, Nat.reduceLT, ↓Br_true, ↓Br_false, bind, pure, sc64, sb64]))
  · simp_all
  · simp_all
  · simp_all
  · have e1 : inn r.wi 1 10 = true := by simp_all
    have e2 : inn r.hi 1 10 = true := by simp_all
    rw [e1, e2]
    refine ⟨Nat, fun k => k = 0, fun k => 0, fun k => [(0, .ptr 0 0 0), (2, .f (.bool false)), (3, .f (.int .i64 0))], fun _ => [.lit [.f (.int .i8 r.wi), .f (.int .i8 r.hi), .f .nils] false], 0, (by intro _; simp), ?_, (by (try refine Or.inl ?_); simp [Cov, covE, covH, cb_dead, cb_lit, cb_rows, cb_cells, cd_lit, cd_rows, cd_cells, cd_dead, covRow, look, SV.known, SV.bd, bdL] <;> omega), ?_⟩
    · rfl
    · rintro k rfl
      have hd : decide ((0 : Int) < 0) = false := by decide
      simp (config := { maxSteps := 1000000 }) (disch := omega) only [go_sem, Int.reduceToNat, ↓reduceIte, Nat.reduceLT, Nat.reduceEqDiff, Nat.reduceAdd, Nat.reduceMul, Nat.reduceSub, Nat.reduceBEq, Nat.reduceLeDiff, reduceCtorEq, Nat.reduceLT, ↓Br_true, ↓Br_false, bind, pure, sc64, sb64, hd]
      all_goals rfl
theorem ValidRoomN_cv (r : Rom) (us : Nat → Win) (hr : (-128 ≤ r.wi ∧ r.wi ≤ 127) ∧ -128 ≤ r.hi ∧ r.hi ≤ 127) :
    CV Tryz.prog 25 [.agg [.f (.int .i8 r.wi), .f (.int .i8 r.hi), .f .nils]] [] (fun v h => v = .f (.bool (vRoom r us 0)) ∧ h = []) := by
  obtain ⟨⟨_, _⟩, ⟨_, _⟩⟩ := hr
  have ev : vRoom r us 0 = (inn r.wi 1 10 && inn r.hi 1 10) := by simp [vRoom, allW]
  rw [ev]
  refine cv_of_run 1000 sc25 sb25 34 [.tmp 2] tabOk (by kernel_rfl) Tryz.func25 rfl (by kernel_rfl) Tryz.ntmps25 rfl (by simp) rfl (by simp [bdL, SV.bd]) ?_
  simp (config := { maxSteps := 1000000 }) (disch := omega) only [go_sem, Int.reduceToNat, ↓reduceIte, Nat.reduceLT, Nat.reduceEqDiff, Nat.reduceAdd, Nat.reduceMul, Nat.reduceSub, Nat.reduceBEq, Nat.reduceLeDiff, reduceCtorEq, Nat.reduceLT, ↓Br_true, ↓Br_false, bind, pure, sc25, sb25]
  repeat' (first | (with_reducible refine And.intro (by first | (unfold SOk; kernel_rfl) | (unfold SBOk; kernel_rfl) | (with_reducible assumption) | omega | assumption) ?_) | (with_reducible refine Br_intro (fun hc => ?_) (fun hc => ?_)) | ((first | (refine callR (by rfl) (by rfl) (by rfl) (rwithin_cv _ _ _) ?_; rintro _ _ ⟨rfl, rfl⟩) | (refine callM (by rfl) (by rfl) (by rfl) (rwithin_cv _ _ _) ?_; rintro _ _ ⟨rfl, rfl⟩) | (refine callMo (by rfl) (by rfl) (by rfl) (rwithin_cv _ _ _) ?_; rintro _ _ ⟨rfl, rfl⟩) | (refine callE (by rfl) (rwithin_cv _ _ _) (by rfl) ?_)); simp (config := { maxSteps := 1000000 }) (disch := omega) only [go_sem, Int.reduceToNat, ↓reduceIte, Nat.reduceLT, Nat.reduceEqDiff, Nat.reduceAdd, Nat.reduceMul, Nat.reduceSub, Nat.reduceBEq, Nat.reduceLeDiff, reduceCtorEq, Nat.reduceLT, ↓Br_true, ↓Br_false, bind, pure, sc25, sb25]) | ((with_reducible show WidN _ _ _ _ _ _ _ _); (first | refine widL (by decide) (by with_reducible assumption) ?_ | refine widL (by decide) (FWok_nn (by with_reducible assumption)) ?_ | refine widN (by decide) (fun c hc => ?_)); simp (config := { maxSteps := 1000000 }) (disch := omega) only [go_sem, Int.reduceToNat, ↓reduceIte, Nat.reduceLT, Nat.reduceEqDiff, Nat.reduceAdd, Nat.reduceMul, Nat.reduceSub, Nat.reduceBEq, Nat.reduceLeDiff, reduceCtorEq, Nat.reduceLT, ↓Br_true, ↓Br_false, bind, pure, sc25, sb25]))
  · simp_all
  · simp_all
  · simp_all
  · have e1 : inn r.wi 1 10 = true := by simp_all
    have e2 : inn r.hi 1 10 = true := by simp_all
    rw [e1, e2]
    refine ⟨Nat, fun k => k = 0, fun k => 0, fun k => [(1, .ptr 0 0 0), (2, .f (.bool false)), (24, .f .nils), (25, .f (.int .i64 0)), (26, .f (.int .i64 0))], fun _ => [.lit [.f (.int .i8 r.wi), .f (.int .i8 r.hi), .f .nils] true], 0, (by intro _; simp), ?_, (by (try refine Or.inl ?_); simp [Cov, covE, covH, cb_dead, cb_lit, cb_rows, cb_cells, cd_lit, cd_rows, cd_cells, cd_dead, covRow, look, SV.known, SV.bd, bdL] <;> omega), ?_⟩
    · rfl
    · rintro k rfl
      have hd : decide ((0 : Int) < 0) = false := by decide
      simp (config := { maxSteps := 1000000 }) (disch := omega) only [go_sem, Int.reduceToNat, ↓reduceIte, Nat.reduceLT, Nat.reduceEqDiff, Nat.reduceAdd, Nat.reduceMul, Nat.reduceSub, Nat.reduceBEq, Nat.reduceLeDiff, reduceCtorEq, Nat.reduceLT, ↓Br_true, ↓Br_false, bind, pure, sc25, sb25, hd]
      all_goals rfl
/-- The text of a room without windows. -/
theorem RoomTextN_cv (r : Rom) (us : Nat → Win) (hr : (-128 ≤ r.wi ∧ r.wi ≤ 127) ∧ -128 ≤ r.hi ∧ r.hi ≤ 127) :
    CV Tryz.prog 14 [.agg [.f (.int .i8 r.wi), .f (.int .i8 r.hi), .f .nils]] [] (fun v h => v = .f (.str (bs (romS r us 0))) ∧ h = []) := by
  have cv := ValidRoomN_cv r us hr
  obtain ⟨⟨_, _⟩, ⟨_, _⟩⟩ := hr
  cases hv : vRoom r us 0
  all_goals rw [hv] at cv
  · refine cv_of_run 1000 sc14 sb14 48 [.tmp 2] tabOk (by kernel_rfl) Tryz.func14 rfl (by kernel_rfl) Tryz.ntmps14 rfl (by simp) rfl (by simp [bdL, SV.bd]) ?_
    simp (config := { maxSteps := 1000000 }) (disch := omega) only [go_sem, Int.reduceToNat, ↓reduceIte, Nat.reduceLT, Nat.reduceEqDiff, Nat.reduceAdd, Nat.reduceMul, Nat.reduceSub, Nat.reduceBEq, Nat.reduceLeDiff, reduceCtorEq, Nat.reduceLT, ↓Br_true, ↓Br_false, bind, pure, sc14, sb14, hv]
    repeat' (first | (with_reducible refine And.intro (by first | (unfold SOk; kernel_rfl) | (unfold SBOk; kernel_rfl) | (with_reducible assumption) | omega | assumption) ?_) | (with_reducible refine Br_intro (fun hc => ?_) (fun hc => ?_)) | ((have cc := cv; (first | ((first | refine callR (by rfl) (by rfl) (by rfl) cc ?_ | refine callM (by rfl) (by rfl) (by rfl) cc ?_ | refine callMo (by rfl) (by rfl) (by rfl) cc ?_); clear cc; rintro _ _ ⟨rfl, rfl⟩) | (refine callE (by rfl) cc (by rfl) ?_; clear cc))); simp (config := { maxSteps := 1000000 }) (disch := omega) only [go_sem, Int.reduceToNat, ↓reduceIte, Nat.reduceLT, Nat.reduceEqDiff, Nat.reduceAdd, Nat.reduceMul, Nat.reduceSub, Nat.reduceBEq, Nat.reduceLeDiff, reduceCtorEq, Nat.reduceLT, ↓Br_true, ↓Br_false, bind, pure, sc14, sb14, hv]) | ((with_reducible show WidN _ _ _ _ _ _ _ _); (first | refine widL (by decide) (by with_reducible assumption) ?_ | refine widL (by decide) (FWok_nn (by with_reducible assumption)) ?_ | refine widN (by decide) (fun c hc => ?_)); simp (config := { maxSteps := 1000000 }) (disch := omega) only [go_sem, Int.reduceToNat, ↓reduceIte, Nat.reduceLT, Nat.reduceEqDiff, Nat.reduceAdd, Nat.reduceMul, Nat.reduceSub, Nat.reduceBEq, Nat.reduceLeDiff, reduceCtorEq, Nat.reduceLT, ↓Br_true, ↓Br_false, bind, pure, sc14, sb14, hv]))
    simp [romS, hv]
  · obtain ⟨hz, h12, hw⟩ := vRoom_at hv
    have c1 := decimal_cv r.wi (by have := hz.1; omega) (by have := hz.1; omega)
    have c2 := decimal_cv r.hi (by have := hz.2; omega) (by have := hz.2; omega)
    have l1 := Lib.itoa_length_le r.wi (by have := hz.1; omega) (by have := hz.1; omega)
    have l2 := Lib.itoa_length_le r.hi (by have := hz.2; omega) (by have := hz.2; omega)
    have a1 := bs_add (Lib.itoa r.wi) [120]
    have a2 := bs_add (Lib.itoa r.wi ++ [120]) (Lib.itoa r.hi)
    have a3 : bs (Lib.itoa r.wi ++ [120] ++ Lib.itoa r.hi) ++ bs [10] = bs (headT r) := bs_add _ _
    have a4 : (Lib.itoa r.wi ++ [120] ++ Lib.itoa r.hi).length ≤ 43 := by simp; omega
    refine cv_of_run 1000 sc14 sb14 48 [.tmp 2] tabOk (by kernel_rfl) Tryz.func14 rfl (by kernel_rfl) Tryz.ntmps14 rfl (by simp) rfl (by simp [bdL, SV.bd]) ?_
    simp (config := { maxSteps := 1000000 }) (disch := omega) only [go_sem, Int.reduceToNat, ↓reduceIte, Nat.reduceLT, Nat.reduceEqDiff, Nat.reduceAdd, Nat.reduceMul, Nat.reduceSub, Nat.reduceBEq, Nat.reduceLeDiff, reduceCtorEq, Nat.reduceLT, ↓Br_true, ↓Br_false, bind, pure, sc14, sb14, hv]
    repeat' (first | (with_reducible refine And.intro (by first | (unfold SOk; kernel_rfl) | (unfold SBOk; kernel_rfl) | (with_reducible assumption) | omega | assumption) ?_) | (with_reducible refine Br_intro (fun hc => ?_) (fun hc => ?_)) | ((have cc := cv; (first | ((first | refine callR (by rfl) (by rfl) (by rfl) cc ?_ | refine callM (by rfl) (by rfl) (by rfl) cc ?_ | refine callMo (by rfl) (by rfl) (by rfl) cc ?_); clear cc; rintro _ _ ⟨rfl, rfl⟩) | (refine callE (by rfl) cc (by rfl) ?_; clear cc))); simp (config := { maxSteps := 1000000 }) (disch := omega) only [go_sem, Int.reduceToNat, ↓reduceIte, Nat.reduceLT, Nat.reduceEqDiff, Nat.reduceAdd, Nat.reduceMul, Nat.reduceSub, Nat.reduceBEq, Nat.reduceLeDiff, reduceCtorEq, Nat.reduceLT, ↓Br_true, ↓Br_false, bind, pure, sc14, sb14, hv, a1, a2, a3, List.length_append]) | ((have cc := c1; (first | ((first | refine callR (by rfl) (by rfl) (by rfl) cc ?_ | refine callM (by rfl) (by rfl) (by rfl) cc ?_ | refine callMo (by rfl) (by rfl) (by rfl) cc ?_); clear cc; rintro _ _ ⟨rfl, rfl⟩) | (refine callE (by rfl) cc (by rfl) ?_; clear cc))); simp (config := { maxSteps := 1000000 }) (disch := omega) only [go_sem, Int.reduceToNat, ↓reduceIte, Nat.reduceLT, Nat.reduceEqDiff, Nat.reduceAdd, Nat.reduceMul, Nat.reduceSub, Nat.reduceBEq, Nat.reduceLeDiff, reduceCtorEq, Nat.reduceLT, ↓Br_true, ↓Br_false, bind, pure, sc14, sb14, hv, a1, a2, a3, List.length_append]) | ((have cc := c2; (first | ((first | refine callR (by rfl) (by rfl) (by rfl) cc ?_ | refine callM (by rfl) (by rfl) (by rfl) cc ?_ | refine callMo (by rfl) (by rfl) (by rfl) cc ?_); clear cc; rintro _ _ ⟨rfl, rfl⟩) | (refine callE (by rfl) cc (by rfl) ?_; clear cc))); simp (config := { maxSteps := 1000000 }) (disch := omega) only [go_sem, Int.reduceToNat, ↓reduceIte, Nat.reduceLT, Nat.reduceEqDiff, Nat.reduceAdd, Nat.reduceMul, Nat.reduceSub, Nat.reduceBEq, Nat.reduceLeDiff, reduceCtorEq, Nat.reduceLT, ↓Br_true, ↓Br_false, bind, pure, sc14, sb14, hv, a1, a2, a3, List.length_append]) | ((with_reducible show WidN _ _ _ _ _ _ _ _); (first | refine widL (by decide) (by with_reducible assumption) ?_ | refine widL (by decide) (FWok_nn (by with_reducible assumption)) ?_ | refine widN (by decide) (fun c hc => ?_)); simp (config := { maxSteps := 1000000 }) (disch := omega) only [go_sem, Int.reduceToNat, ↓reduceIte, Nat.reduceLT, Nat.reduceEqDiff, Nat.reduceAdd, Nat.reduceMul, Nat.reduceSub, Nat.reduceBEq, Nat.reduceLeDiff, reduceCtorEq, Nat.reduceLT, ↓Br_true, ↓Br_false, bind, pure, sc14, sb14, hv, a1, a2, a3, List.length_append]))
    refine ⟨Nat, fun k => k = 0, fun k => 0, fun k => [(2, .f (.str (bs []))), (3, .f (.str (bs (headT r)))), (21, .f .nils), (22, .f (.int .i64 0)), (23, .f (.int .i64 0))], fun _ => [.lit [.f (.int .i8 r.wi), .f (.int .i8 r.hi), .f .nils] true], 0, (by intro _; simp), ?_, (by (try refine Or.inl ?_); simp [Cov, covE, covH, cb_dead, cb_lit, cb_rows, cb_cells, cd_lit, cd_rows, cd_cells, cd_dead, covRow, look, SV.known, SV.bd, bdL] <;> omega), ?_⟩
    · rfl
    · rintro k rfl
      have hd : decide ((0 : Int) < 0) = false := by decide
      simp (config := { maxSteps := 1000000 }) (disch := omega) only [go_sem, Int.reduceToNat, ↓reduceIte, Nat.reduceLT, Nat.reduceEqDiff, Nat.reduceAdd, Nat.reduceMul, Nat.reduceSub, Nat.reduceBEq, Nat.reduceLeDiff, reduceCtorEq, Nat.reduceLT, ↓Br_true, ↓Br_false, bind, pure, sc14, sb14, hd]
      simp [romS, hv, romT, winsT]
end Go.Proofs.YtpcnpmhpelbndaaGreatDoor.Vx
