/- Rooms, in the abstract: the glare of a desk; the law. -/
import Derived.Test.YtdncopphjamilaaRg
import Derived.Test.YtdncopphjamilaaRy
namespace Go.Proofs.Ytdncopphjamilaa.Vx
open Go Go.RowKit Fl
set_option maxRecDepth 100000
set_option maxHeartbeats 2000000
set_option linter.unusedSimpArgs false
set_option linter.unusedVariables false

abbrev glV (r : Rom) (us : Nat → Win) (n : Nat) (d : Dsk) : SV :=
  .tup [.f (.flt .f32 (if askC (vRoom r us n) (dskB r d) = 0 then glaF r us d n else 0)), .f (.int .i64 (askC (vRoom r us n) (dskB r d)))]
theorem one_desk (d : Dsk) : ∀ i, i < 1 → nthR [ [.int .i8 d.x, .int .i8 d.y, .int .i8 d.w] ] i = d.fv := fun i hi => by
  obtain rfl : i = 0 := by omega
  rfl
theorem allD_one (r : Rom) (d : Dsk) : allD r (fun _ => d) 1 = dskB r d := by simp [allD]
theorem GlareAt_cv (r : Rom) (us : Nat → Win) (d : Dsk) (n cap : Nat) (f : Nat → List FV) (H : RomH r us n cap f) (hp : d.sm) :
    CV Try.prog 34 [romV r n cap, dskV d] [.rows n cap 3 f false] (fun v h => v = glV r us n d ∧ h = [.rows n cap 3 f false]) := by
  have hcap := H.hcap
  have ca := areDesks_cv r (fun _ => d) n cap 1 1 f (nthR [ [.int .i8 d.x, .int .i8 d.y, .int .i8 d.w] ]) hcap (one_desk d) (Nat.le_refl 1) (by omega) (fun i hi => hp)
  rw [allD_one] at ca
  refine cv_of_run 1000 sc34 sb34 17 [.tmp 4, .tmp 5] tabOk (by kernel_rfl) Try.func34 rfl (by kernel_rfl) Try.ntmps34 rfl (by simp) rfl (by simp [bdL, SV.bd]) ?_
  simp (config := { maxSteps := 1000000 }) (disch := omega) only [go_sem, Int.reduceToNat, ↓reduceIte, Nat.reduceLT, Nat.reduceEqDiff, Nat.reduceAdd, Nat.reduceMul, Nat.reduceSub, Nat.reduceBEq, Nat.reduceLeDiff, reduceCtorEq, Nat.reduceLT, ↓Br_true, ↓Br_false, bind, pure, sc34, sb34]
  repeat' (first | (with_reducible refine And.intro (by first | (unfold SOk; kernel_rfl) | (unfold SBOk; kernel_rfl) | (with_reducible assumption) | omega | assumption) ?_) | (with_reducible refine Br_intro (fun hc => ?_) (fun hc => ?_)) | ((have cc := ca; (first | ((first | refine callR (by rfl) (by rfl) (by rfl) cc ?_ | refine callM (by rfl) (by rfl) (by rfl) cc ?_ | refine callMo (by rfl) (by rfl) (by rfl) cc ?_); clear cc; rintro _ _ ⟨rfl, rfl⟩) | (refine callE (by rfl) cc (by rfl) ?_; clear cc))); simp (config := { maxSteps := 1000000 }) (disch := omega) only [go_sem, Int.reduceToNat, ↓reduceIte, Nat.reduceLT, Nat.reduceEqDiff, Nat.reduceAdd, Nat.reduceMul, Nat.reduceSub, Nat.reduceBEq, Nat.reduceLeDiff, reduceCtorEq, Nat.reduceLT, ↓Br_true, ↓Br_false, bind, pure, sc34, sb34]) | ((first | (refine callR (by rfl) (by rfl) (by rfl) (roomCode_cv r us n cap f _ H) ?_; rintro _ _ ⟨rfl, rfl⟩) | (refine callM (by rfl) (by rfl) (by rfl) (roomCode_cv r us n cap f _ H) ?_; rintro _ _ ⟨rfl, rfl⟩) | (refine callMo (by rfl) (by rfl) (by rfl) (roomCode_cv r us n cap f _ H) ?_; rintro _ _ ⟨rfl, rfl⟩) | (refine callE (by rfl) (roomCode_cv r us n cap f _ H) (by rfl) ?_)); simp (config := { maxSteps := 1000000 }) (disch := omega) only [go_sem, Int.reduceToNat, ↓reduceIte, Nat.reduceLT, Nat.reduceEqDiff, Nat.reduceAdd, Nat.reduceMul, Nat.reduceSub, Nat.reduceBEq, Nat.reduceLeDiff, reduceCtorEq, Nat.reduceLT, ↓Br_true, ↓Br_false, bind, pure, sc34, sb34]) | ((with_reducible show WidN _ _ _ _ _ _ _ _); (first | refine widL (by decide) (by with_reducible assumption) ?_ | refine widL (by decide) (FWok_nn (by with_reducible assumption)) ?_ | refine widN (by decide) (fun c hc => ?_)); simp (config := { maxSteps := 1000000 }) (disch := omega) only [go_sem, Int.reduceToNat, ↓reduceIte, Nat.reduceLT, Nat.reduceEqDiff, Nat.reduceAdd, Nat.reduceMul, Nat.reduceSub, Nat.reduceBEq, Nat.reduceLeDiff, reduceCtorEq, Nat.reduceLT, ↓Br_true, ↓Br_false, bind, pure, sc34, sb34]))
  · simp only [Bool.not_eq_true', decide_eq_false_iff_not] at hc
    simp [glV, hc]
  · simp only [Bool.not_eq_false', decide_eq_true_eq] at hc
    obtain ⟨hz, h12, hw, hb⟩ := room_asked hc
    have hI := desk_in hz hb
    (have cc := glare_cv r us d n cap f H.hf hcap H.hn hz hw hI; (first | ((first | refine callR (by rfl) (by rfl) (by rfl) cc ?_ | refine callM (by rfl) (by rfl) (by rfl) cc ?_ | refine callMo (by rfl) (by rfl) (by rfl) cc ?_); clear cc; rintro _ _ ⟨rfl, rfl⟩) | (refine callE (by rfl) cc (by rfl) ?_; clear cc)))
    simp (config := { maxSteps := 1000000 }) (disch := omega) only [go_sem, Int.reduceToNat, ↓reduceIte, Nat.reduceLT, Nat.reduceEqDiff, Nat.reduceAdd, Nat.reduceMul, Nat.reduceSub, Nat.reduceBEq, Nat.reduceLeDiff, reduceCtorEq, Nat.reduceLT, ↓Br_true, ↓Br_false, bind, pure, sc34, sb34]
    simp [glV, hc]
theorem sGlareAt_cv (r : Rom) (us : Nat → Win) (d : Dsk) (n cap : Nat) (f : Nat → List FV) (H : RomH r us n cap f) (hp : d.sm) :
    CV Try.prog 35 [romV r n cap, dskV d] [.rows n cap 3 f false] (fun v h => v = glV r us n d ∧ h = [.rows n cap 3 f false]) := by
  have hcap := H.hcap
  refine cv_of_run 1000 sc35 sb35 15 [.tmp 4, .tmp 5] tabOk (by kernel_rfl) Try.func35 rfl (by kernel_rfl) Try.ntmps35 rfl (by simp) rfl (by simp [bdL, SV.bd]) ?_
  simp (config := { maxSteps := 1000000 }) (disch := omega) only [go_sem, Int.reduceToNat, ↓reduceIte, Nat.reduceLT, Nat.reduceEqDiff, Nat.reduceAdd, Nat.reduceMul, Nat.reduceSub, Nat.reduceBEq, Nat.reduceLeDiff, reduceCtorEq, Nat.reduceLT, ↓Br_true, ↓Br_false, bind, pure, sc35, sb35]
  repeat' (first | (with_reducible refine And.intro (by first | (unfold SOk; kernel_rfl) | (unfold SBOk; kernel_rfl) | (with_reducible assumption) | omega | assumption) ?_) | (with_reducible refine Br_intro (fun hc => ?_) (fun hc => ?_)) | ((have cc := l03Desk_cv r d n cap f hcap hp ⟨H.hw, H.hh⟩; (first | ((first | refine callR (by rfl) (by rfl) (by rfl) cc ?_ | refine callM (by rfl) (by rfl) (by rfl) cc ?_ | refine callMo (by rfl) (by rfl) (by rfl) cc ?_); clear cc; rintro _ _ ⟨rfl, rfl⟩) | (refine callE (by rfl) cc (by rfl) ?_; clear cc))); simp (config := { maxSteps := 1000000 }) (disch := omega) only [go_sem, Int.reduceToNat, ↓reduceIte, Nat.reduceLT, Nat.reduceEqDiff, Nat.reduceAdd, Nat.reduceMul, Nat.reduceSub, Nat.reduceBEq, Nat.reduceLeDiff, reduceCtorEq, Nat.reduceLT, ↓Br_true, ↓Br_false, bind, pure, sc35, sb35]) | ((first | (refine callR (by rfl) (by rfl) (by rfl) (l03Asked_cv r us n cap f _ H) ?_; rintro _ _ ⟨rfl, rfl⟩) | (refine callM (by rfl) (by rfl) (by rfl) (l03Asked_cv r us n cap f _ H) ?_; rintro _ _ ⟨rfl, rfl⟩) | (refine callMo (by rfl) (by rfl) (by rfl) (l03Asked_cv r us n cap f _ H) ?_; rintro _ _ ⟨rfl, rfl⟩) | (refine callE (by rfl) (l03Asked_cv r us n cap f _ H) (by rfl) ?_)); simp (config := { maxSteps := 1000000 }) (disch := omega) only [go_sem, Int.reduceToNat, ↓reduceIte, Nat.reduceLT, Nat.reduceEqDiff, Nat.reduceAdd, Nat.reduceMul, Nat.reduceSub, Nat.reduceBEq, Nat.reduceLeDiff, reduceCtorEq, Nat.reduceLT, ↓Br_true, ↓Br_false, bind, pure, sc35, sb35]) | ((with_reducible show WidN _ _ _ _ _ _ _ _); (first | refine widL (by decide) (by with_reducible assumption) ?_ | refine widL (by decide) (FWok_nn (by with_reducible assumption)) ?_ | refine widN (by decide) (fun c hc => ?_)); simp (config := { maxSteps := 1000000 }) (disch := omega) only [go_sem, Int.reduceToNat, ↓reduceIte, Nat.reduceLT, Nat.reduceEqDiff, Nat.reduceAdd, Nat.reduceMul, Nat.reduceSub, Nat.reduceBEq, Nat.reduceLeDiff, reduceCtorEq, Nat.reduceLT, ↓Br_true, ↓Br_false, bind, pure, sc35, sb35]))
  · simp only [Bool.not_eq_true', decide_eq_false_iff_not] at hc
    simp [glV, hc]
  · simp only [Bool.not_eq_false', decide_eq_true_eq] at hc
    obtain ⟨hz, h12, hw, hb⟩ := room_asked hc
    have hI := desk_in hz hb
    (have cc := l03Glare_cv r us d n cap f H.hf hcap H.hn hz hw hI; (first | ((first | refine callR (by rfl) (by rfl) (by rfl) cc ?_ | refine callM (by rfl) (by rfl) (by rfl) cc ?_ | refine callMo (by rfl) (by rfl) (by rfl) cc ?_); clear cc; rintro _ _ ⟨rfl, rfl⟩) | (refine callE (by rfl) cc (by rfl) ?_; clear cc)))
    simp (config := { maxSteps := 1000000 }) (disch := omega) only [go_sem, Int.reduceToNat, ↓reduceIte, Nat.reduceLT, Nat.reduceEqDiff, Nat.reduceAdd, Nat.reduceMul, Nat.reduceSub, Nat.reduceBEq, Nat.reduceLeDiff, reduceCtorEq, Nat.reduceLT, ↓Br_true, ↓Br_false, bind, pure, sc35, sb35]
    simp [glV, hc]
theorem glV_nn (r : Rom) (us : Nat → Win) (n : Nat) (d : Dsk) : nn (if askC (vRoom r us n) (dskB r d) = 0 then glaF r us d n else 0) := by
  split
  · rename_i h
    obtain ⟨hz, h12, hw, hb⟩ := room_asked h
    exact (glaF_P0 hz hw (desk_in hz hb) n (Nat.le_refl n)).1
  · decide
end Go.Proofs.Ytdncopphjamilaa.Vx
