/- Rooms, in the abstract: the law on desks that are placed. -/
import Derived.Test.YtgepaaakleomeabRpd
import Derived.Test.YtgepaaakleomeabRpm
import Derived.Test.YtgepaaakleomeabRy
namespace Go.Proofs.Ytgepaaakleomeab.Vx
open Go Go.RowKit Fl
set_option maxRecDepth 100000
set_option maxHeartbeats 2000000
set_option linter.unusedSimpArgs false
set_option linter.unusedVariables false

theorem len_fvp {us : Nat → Win} {g : Nat → List FV} {n : Nat} (h : ∀ i, i < n → g i = (us i).fv) : ∀ i, i < n → (g i).length = 3 := fun i hi => by rw [h i hi]; rfl
theorem FnExactPlaceDesksSg_cv (r : Rom) (us : Nat → Win) (n cap : Nat) (f : Nat → List FV) (hf : ∀ i, i < n → f i = (us i).fv) (hcap : n ≤ cap) (htop : n ≤ 9223372036854775807) (hr : (-128 ≤ r.wi ∧ r.wi ≤ 127) ∧ -128 ≤ r.hi ∧ r.hi ≤ 127) (hs : ∀ i, i < n → (us i).sm) (least : Nat) (many : Int) (hT : n ≤ 1048576) (ha : plT r us n least many ≠ []) :
    CV Try.prog 9 [romV r n cap, .f (.flt .f32 least), .f (.int .i64 many)] [.rows n cap 3 f false] (fun v hh => v = .f (.bool true) ∧ hh = [.rows n cap 3 f false]) := by
  have cs := fun f hf  => sPlaceDesks_cv r us least many n n f ⟨hf, Nat.le_refl _, by omega, hr.1, hr.2, hs⟩ ha
  have ci := fun f hf  => PlaceDesks_cv r us least many n n f ⟨hf, Nat.le_refl _, by omega, hr.1, hr.2, hs⟩ ha
  have h5 := plT_le r us n least many
  clear ha
  generalize plK r us n least many = d at *
  generalize plT r us n least many = T at *
  have q0 : szI 1048576 n = 1048576 - (n : Int) := by unfold szI; rw [if_neg (by omega)]
  have q0a : ¬ 1048576 - (n : Int) < 0 := by omega
  have q0b : decide ((1048576 : Int) < n) = false := decide_eq_false (by omega)
  have q0c : decide (1048576 - (n : Int) < 0) = false := decide_eq_false (by omega)
  have hk4 : decide (1 + 3 * ((n : Nat) : Int) < 0) = false := decide_eq_false (by omega)
  have hk5 : decide (1 + 2 * ((T.length : Nat) : Int) < 0) = false := decide_eq_false (by omega)
  have hq1 : decide ((1 : Int) < 0) = false := by decide
  refine cv_of_run 1000 sc9 sb9 106 [.tmp 6] tabOk (by kernel_rfl) Try.func9 rfl (by kernel_rfl) Try.ntmps9 rfl (by simp) rfl (by simp [bdL, SV.bd]) ?_
  simp (config := { maxSteps := 1000000 }) (disch := omega) only [go_sem, Int.reduceToNat, ↓reduceIte, Nat.reduceLT, Nat.reduceEqDiff, Nat.reduceAdd, Nat.reduceMul, Nat.reduceSub, Nat.reduceBEq, Nat.reduceLeDiff, reduceCtorEq, Nat.reduceLT, ↓Br_true, ↓Br_false, bind, pure, sc9, sb9]
  (have cc := szRoomS_cv r n cap f 1048576 (by omega) (by omega) hcap htop; (first | ((first | refine callR (by rfl) (by rfl) (by rfl) cc ?_ | refine callM (by rfl) (by rfl) (by rfl) cc ?_); clear cc; rintro _ _ ⟨rfl, rfl⟩) | (refine callE (by rfl) cc (by rfl) ?_; clear cc)))
  simp (config := { maxSteps := 1000000 }) (disch := omega) only [go_sem, Int.reduceToNat, ↓reduceIte, Nat.reduceLT, Nat.reduceEqDiff, Nat.reduceAdd, Nat.reduceMul, Nat.reduceSub, Nat.reduceBEq, Nat.reduceLeDiff, reduceCtorEq, Nat.reduceLT, ↓Br_true, ↓Br_false, bind, pure, sc9, sb9, q0, q0a, q0b, q0c]
  repeat' (first | (with_reducible refine And.intro (by first | (unfold SOk; kernel_rfl) | (unfold SBOk; kernel_rfl) | (with_reducible assumption) | omega | assumption) ?_) | (with_reducible refine Br_intro (fun hc => ?_) (fun hc => ?_)) | ((with_reducible show WidN _ _ _ _ _ _ _ _); (first | refine widL (by decide) (by with_reducible assumption) ?_ | refine widL (by decide) (FWok_nn (by with_reducible assumption)) ?_ | refine widN (by decide) (fun c hc => ?_)); simp (config := { maxSteps := 1000000 }) (disch := omega) only [go_sem, Int.reduceToNat, ↓reduceIte, Nat.reduceLT, Nat.reduceEqDiff, Nat.reduceAdd, Nat.reduceMul, Nat.reduceSub, Nat.reduceBEq, Nat.reduceLeDiff, reduceCtorEq, Nat.reduceLT, ↓Br_true, ↓Br_false, bind, pure, sc9, sb9, q0, q0a, q0b, q0c]))
  have cc := toRoomS_cv r us n cap f hf (by omega) hcap; (first | refine callR (by rfl) (by rfl) (by rfl) cc ?_ | refine callM (by rfl) (by rfl) (by rfl) cc ?_ | refine callG (by rfl) (by rfl) (by rfl) cc ?_); clear cc; rintro _ _ ⟨a1, ia1, rfl, rfl⟩
  simp (config := { maxSteps := 1000000 }) (disch := omega) only [go_sem, Int.reduceToNat, ↓reduceIte, Nat.reduceLT, Nat.reduceEqDiff, Nat.reduceAdd, Nat.reduceMul, Nat.reduceSub, Nat.reduceBEq, Nat.reduceLeDiff, reduceCtorEq, Nat.reduceLT, ↓Br_true, ↓Br_false, bind, pure, sc9, sb9]
  have cc := cs a1 ia1; (first | refine callR (by rfl) (by rfl) (by rfl) cc ?_ | refine callM (by rfl) (by rfl) (by rfl) cc ?_ | refine callG (by rfl) (by rfl) (by rfl) cc ?_); clear cc; rintro _ _ ⟨cap2, w2, i2, c2, rfl, rfl⟩
  simp (config := { maxSteps := 1000000 }) (disch := omega) only [go_sem, Int.reduceToNat, ↓reduceIte, Nat.reduceLT, Nat.reduceEqDiff, Nat.reduceAdd, Nat.reduceMul, Nat.reduceSub, Nat.reduceBEq, Nat.reduceLeDiff, reduceCtorEq, Nat.reduceLT, ↓Br_true, ↓Br_false, bind, pure, sc9, sb9]
  have cc := toRoomS_cv r us n cap f hf (by omega) hcap; (first | refine callR (by rfl) (by rfl) (by rfl) cc ?_ | refine callM (by rfl) (by rfl) (by rfl) cc ?_ | refine callG (by rfl) (by rfl) (by rfl) cc ?_); clear cc; rintro _ _ ⟨a2, ia2, rfl, rfl⟩
  simp (config := { maxSteps := 1000000 }) (disch := omega) only [go_sem, Int.reduceToNat, ↓reduceIte, Nat.reduceLT, Nat.reduceEqDiff, Nat.reduceAdd, Nat.reduceMul, Nat.reduceSub, Nat.reduceBEq, Nat.reduceLeDiff, reduceCtorEq, Nat.reduceLT, ↓Br_true, ↓Br_false, bind, pure, sc9, sb9]
  have cc := ci a2 ia2; (first | refine callR (by rfl) (by rfl) (by rfl) cc ?_ | refine callM (by rfl) (by rfl) (by rfl) cc ?_ | refine callG (by rfl) (by rfl) (by rfl) cc ?_); clear cc; rintro _ _ ⟨cap4, w4, i4, c4, rfl, rfl⟩
  simp (config := { maxSteps := 1000000 }) (disch := omega) only [go_sem, Int.reduceToNat, ↓reduceIte, Nat.reduceLT, Nat.reduceEqDiff, Nat.reduceAdd, Nat.reduceMul, Nat.reduceSub, Nat.reduceBEq, Nat.reduceLeDiff, reduceCtorEq, Nat.reduceLT, ↓Br_true, ↓Br_false, bind, pure, sc9, sb9]
  (have cc := eqTileS_cv T w4 w2 cap4 cap2 i4 i2 c4 c2 (by omega); (first | ((first | refine callR (by rfl) (by rfl) (by rfl) cc ?_ | refine callM (by rfl) (by rfl) (by rfl) cc ?_); clear cc; rintro _ _ ⟨rfl, rfl⟩) | (refine callE (by rfl) cc (by rfl) ?_; clear cc)))
  simp (config := { maxSteps := 1000000 }) (disch := omega) only [go_sem, Int.reduceToNat, ↓reduceIte, Nat.reduceLT, Nat.reduceEqDiff, Nat.reduceAdd, Nat.reduceMul, Nat.reduceSub, Nat.reduceBEq, Nat.reduceLeDiff, reduceCtorEq, Nat.reduceLT, ↓Br_true, ↓Br_false, bind, pure, sc9, sb9]
  repeat (with_reducible refine And.intro (by first | omega | assumption | (unfold SOk; kernel_rfl) | (unfold SBOk; kernel_rfl)) ?_)
  have cc := toRoomS_cv r us n cap f hf (by omega) hcap; (first | refine callR (by rfl) (by rfl) (by rfl) cc ?_ | refine callM (by rfl) (by rfl) (by rfl) cc ?_ | refine callG (by rfl) (by rfl) (by rfl) cc ?_); clear cc; rintro _ _ ⟨a3, ia3, rfl, rfl⟩
  simp (config := { maxSteps := 1000000 }) (disch := omega) only [go_sem, Int.reduceToNat, ↓reduceIte, Nat.reduceLT, Nat.reduceEqDiff, Nat.reduceAdd, Nat.reduceMul, Nat.reduceSub, Nat.reduceBEq, Nat.reduceLeDiff, reduceCtorEq, Nat.reduceLT, ↓Br_true, ↓Br_false, bind, pure, sc9, sb9]
  (have cc := eqRoom_cv r us n a2 a3 n n ia2 ia3 (Nat.le_refl _) (Nat.le_refl _) (by omega); (first | ((first | refine callR (by rfl) (by rfl) (by rfl) cc ?_ | refine callM (by rfl) (by rfl) (by rfl) cc ?_); clear cc; rintro _ _ ⟨rfl, rfl⟩) | (refine callE (by rfl) cc (by rfl) ?_; clear cc)))
  simp (config := { maxSteps := 1000000 }) (disch := omega) only [go_sem, Int.reduceToNat, ↓reduceIte, Nat.reduceLT, Nat.reduceEqDiff, Nat.reduceAdd, Nat.reduceMul, Nat.reduceSub, Nat.reduceBEq, Nat.reduceLeDiff, reduceCtorEq, Nat.reduceLT, ↓Br_true, ↓Br_false, bind, pure, sc9, sb9]
  have cc := markRoom_cv r n a2 n (Nat.le_refl _) (by omega) (len_fvp ia2); (first | refine callR (by rfl) (by rfl) (by rfl) cc ?_ | refine callM (by rfl) (by rfl) (by rfl) cc ?_ | refine callG (by rfl) (by rfl) (by rfl) cc ?_); clear cc; rintro _ _ ⟨rfl, y0, iy0, rfl⟩
  simp (config := { maxSteps := 1000000 }) (disch := omega) only [go_sem, Int.reduceToNat, ↓reduceIte, Nat.reduceLT, Nat.reduceEqDiff, Nat.reduceAdd, Nat.reduceMul, Nat.reduceSub, Nat.reduceBEq, Nat.reduceLeDiff, reduceCtorEq, Nat.reduceLT, ↓Br_true, ↓Br_false, bind, pure, sc9, sb9]
  refine ⟨fun hc => ?_, fun hc => ?_⟩
  · rw [hk4] at hc; cases hc
  · (have cc := eqTileS_cv T w4 w2 cap4 cap2 i4 i2 c4 c2 (by omega); (first | ((first | refine callR (by rfl) (by rfl) (by rfl) cc ?_ | refine callM (by rfl) (by rfl) (by rfl) cc ?_); clear cc; rintro _ _ ⟨rfl, rfl⟩) | (refine callE (by rfl) cc (by rfl) ?_; clear cc)))
    simp (config := { maxSteps := 1000000 }) (disch := omega) only [go_sem, Int.reduceToNat, ↓reduceIte, Nat.reduceLT, Nat.reduceEqDiff, Nat.reduceAdd, Nat.reduceMul, Nat.reduceSub, Nat.reduceBEq, Nat.reduceLeDiff, reduceCtorEq, Nat.reduceLT, ↓Br_true, ↓Br_false, bind, pure, sc9, sb9]
    repeat (with_reducible refine And.intro (by first | omega | assumption | (unfold SOk; kernel_rfl) | (unfold SBOk; kernel_rfl)) ?_)
    have cc := markTileS_cv T.length w4 cap4 c4 (by omega) (fun i hi => by rw [i4 i hi]; rfl); (first | refine callR (by rfl) (by rfl) (by rfl) cc ?_ | refine callM (by rfl) (by rfl) (by rfl) cc ?_ | refine callG (by rfl) (by rfl) (by rfl) cc ?_); clear cc; rintro _ _ ⟨rfl, y4, iy4, rfl⟩
    simp (config := { maxSteps := 1000000 }) (disch := omega) only [go_sem, Int.reduceToNat, ↓reduceIte, Nat.reduceLT, Nat.reduceEqDiff, Nat.reduceAdd, Nat.reduceMul, Nat.reduceSub, Nat.reduceBEq, Nat.reduceLeDiff, reduceCtorEq, Nat.reduceLT, ↓Br_true, ↓Br_false, bind, pure, sc9, sb9]
    (have cc := heldTileS_cv T.length y4 cap4 c4 (by omega) iy4; (first | ((first | refine callR (by rfl) (by rfl) (by rfl) cc ?_ | refine callM (by rfl) (by rfl) (by rfl) cc ?_); clear cc; rintro _ _ ⟨rfl, rfl⟩) | (refine callE (by rfl) cc (by rfl) ?_; clear cc)))
    simp (config := { maxSteps := 1000000 }) (disch := omega) only [go_sem, Int.reduceToNat, ↓reduceIte, Nat.reduceLT, Nat.reduceEqDiff, Nat.reduceAdd, Nat.reduceMul, Nat.reduceSub, Nat.reduceBEq, Nat.reduceLeDiff, reduceCtorEq, Nat.reduceLT, ↓Br_true, ↓Br_false, bind, pure, sc9, sb9, hk5]
    have cc := toRoomS_cv r us n cap f hf (by omega) hcap; (first | refine callR (by rfl) (by rfl) (by rfl) cc ?_ | refine callM (by rfl) (by rfl) (by rfl) cc ?_ | refine callG (by rfl) (by rfl) (by rfl) cc ?_); clear cc; rintro _ _ ⟨a8, ia8, rfl, rfl⟩
    simp (config := { maxSteps := 1000000 }) (disch := omega) only [go_sem, Int.reduceToNat, ↓reduceIte, Nat.reduceLT, Nat.reduceEqDiff, Nat.reduceAdd, Nat.reduceMul, Nat.reduceSub, Nat.reduceBEq, Nat.reduceLeDiff, reduceCtorEq, Nat.reduceLT, ↓Br_true, ↓Br_false, bind, pure, sc9, sb9]
    have cc := ci a8 ia8; (first | refine callR (by rfl) (by rfl) (by rfl) cc ?_ | refine callM (by rfl) (by rfl) (by rfl) cc ?_ | refine callG (by rfl) (by rfl) (by rfl) cc ?_); clear cc; rintro _ _ ⟨cap9, w9, i9, c9, rfl, rfl⟩
    simp (config := { maxSteps := 1000000 }) (disch := omega) only [go_sem, Int.reduceToNat, ↓reduceIte, Nat.reduceLT, Nat.reduceEqDiff, Nat.reduceAdd, Nat.reduceMul, Nat.reduceSub, Nat.reduceBEq, Nat.reduceLeDiff, reduceCtorEq, Nat.reduceLT, ↓Br_true, ↓Br_false, bind, pure, sc9, sb9]
    (have cc := eqTileS_cv T w9 w2 cap9 cap2 i9 i2 c9 c2 (by omega); (first | ((first | refine callR (by rfl) (by rfl) (by rfl) cc ?_ | refine callM (by rfl) (by rfl) (by rfl) cc ?_); clear cc; rintro _ _ ⟨rfl, rfl⟩) | (refine callE (by rfl) cc (by rfl) ?_; clear cc)))
    simp (config := { maxSteps := 1000000 }) (disch := omega) only [go_sem, Int.reduceToNat, ↓reduceIte, Nat.reduceLT, Nat.reduceEqDiff, Nat.reduceAdd, Nat.reduceMul, Nat.reduceSub, Nat.reduceBEq, Nat.reduceLeDiff, reduceCtorEq, Nat.reduceLT, ↓Br_true, ↓Br_false, bind, pure, sc9, sb9]
    (have cc := heldTileS_cv T.length y4 cap4 c4 (by omega) iy4; (first | ((first | refine callR (by rfl) (by rfl) (by rfl) cc ?_ | refine callM (by rfl) (by rfl) (by rfl) cc ?_); clear cc; rintro _ _ ⟨rfl, rfl⟩) | (refine callE (by rfl) cc (by rfl) ?_; clear cc)))
    simp (config := { maxSteps := 1000000 }) (disch := omega) only [go_sem, Int.reduceToNat, ↓reduceIte, Nat.reduceLT, Nat.reduceEqDiff, Nat.reduceAdd, Nat.reduceMul, Nat.reduceSub, Nat.reduceBEq, Nat.reduceLeDiff, reduceCtorEq, Nat.reduceLT, ↓Br_true, ↓Br_false, bind, pure, sc9, sb9, hk5]
theorem FnExactPlaceDesksSb_cv (r : Rom) (us : Nat → Win) (n cap : Nat) (f : Nat → List FV) (hf : ∀ i, i < n → f i = (us i).fv) (hcap : n ≤ cap) (htop : n ≤ 9223372036854775807) (hr : (-128 ≤ r.wi ∧ r.wi ≤ 127) ∧ -128 ≤ r.hi ∧ r.hi ≤ 127) (hs : ∀ i, i < n → (us i).sm) (least : Nat) (many : Int) (hT : n ≤ 1048576) (ha : plT r us n least many = []) :
    CV Try.prog 9 [romV r n cap, .f (.flt .f32 least), .f (.int .i64 many)] [.rows n cap 3 f false] (fun v hh => v = .f (.bool true) ∧ hh = [.rows n cap 3 f false]) := by
  have cs := fun f hf  => sPlaceDesksBad_cv r us least many n n f ⟨hf, Nat.le_refl _, by omega, hr.1, hr.2, hs⟩ ha
  have ci := fun f hf  => PlaceDesksBad_cv r us least many n n f ⟨hf, Nat.le_refl _, by omega, hr.1, hr.2, hs⟩ ha
  clear ha
  generalize plK r us n least many = d at *
  have q0 : szI 1048576 n = 1048576 - (n : Int) := by unfold szI; rw [if_neg (by omega)]
  have q0a : ¬ 1048576 - (n : Int) < 0 := by omega
  have q0b : decide ((1048576 : Int) < n) = false := decide_eq_false (by omega)
  have q0c : decide (1048576 - (n : Int) < 0) = false := decide_eq_false (by omega)
  have hk4 : decide (1 + 3 * ((n : Nat) : Int) < 0) = false := decide_eq_false (by omega)
  have hq1 : decide ((1 : Int) < 0) = false := by decide
  refine cv_of_run 1000 sc9 sb9 106 [.tmp 6] tabOk (by kernel_rfl) Try.func9 rfl (by kernel_rfl) Try.ntmps9 rfl (by simp) rfl (by simp [bdL, SV.bd]) ?_
  simp (config := { maxSteps := 1000000 }) (disch := omega) only [go_sem, Int.reduceToNat, ↓reduceIte, Nat.reduceLT, Nat.reduceEqDiff, Nat.reduceAdd, Nat.reduceMul, Nat.reduceSub, Nat.reduceBEq, Nat.reduceLeDiff, reduceCtorEq, Nat.reduceLT, ↓Br_true, ↓Br_false, bind, pure, sc9, sb9]
  (have cc := szRoomS_cv r n cap f 1048576 (by omega) (by omega) hcap htop; (first | ((first | refine callR (by rfl) (by rfl) (by rfl) cc ?_ | refine callM (by rfl) (by rfl) (by rfl) cc ?_); clear cc; rintro _ _ ⟨rfl, rfl⟩) | (refine callE (by rfl) cc (by rfl) ?_; clear cc)))
  simp (config := { maxSteps := 1000000 }) (disch := omega) only [go_sem, Int.reduceToNat, ↓reduceIte, Nat.reduceLT, Nat.reduceEqDiff, Nat.reduceAdd, Nat.reduceMul, Nat.reduceSub, Nat.reduceBEq, Nat.reduceLeDiff, reduceCtorEq, Nat.reduceLT, ↓Br_true, ↓Br_false, bind, pure, sc9, sb9, q0, q0a, q0b, q0c]
  repeat' (first | (with_reducible refine And.intro (by first | (unfold SOk; kernel_rfl) | (unfold SBOk; kernel_rfl) | (with_reducible assumption) | omega | assumption) ?_) | (with_reducible refine Br_intro (fun hc => ?_) (fun hc => ?_)) | ((with_reducible show WidN _ _ _ _ _ _ _ _); (first | refine widL (by decide) (by with_reducible assumption) ?_ | refine widL (by decide) (FWok_nn (by with_reducible assumption)) ?_ | refine widN (by decide) (fun c hc => ?_)); simp (config := { maxSteps := 1000000 }) (disch := omega) only [go_sem, Int.reduceToNat, ↓reduceIte, Nat.reduceLT, Nat.reduceEqDiff, Nat.reduceAdd, Nat.reduceMul, Nat.reduceSub, Nat.reduceBEq, Nat.reduceLeDiff, reduceCtorEq, Nat.reduceLT, ↓Br_true, ↓Br_false, bind, pure, sc9, sb9, q0, q0a, q0b, q0c]))
  have cc := toRoomS_cv r us n cap f hf (by omega) hcap; (first | refine callR (by rfl) (by rfl) (by rfl) cc ?_ | refine callM (by rfl) (by rfl) (by rfl) cc ?_ | refine callG (by rfl) (by rfl) (by rfl) cc ?_); clear cc; rintro _ _ ⟨a1, ia1, rfl, rfl⟩
  simp (config := { maxSteps := 1000000 }) (disch := omega) only [go_sem, Int.reduceToNat, ↓reduceIte, Nat.reduceLT, Nat.reduceEqDiff, Nat.reduceAdd, Nat.reduceMul, Nat.reduceSub, Nat.reduceBEq, Nat.reduceLeDiff, reduceCtorEq, Nat.reduceLT, ↓Br_true, ↓Br_false, bind, pure, sc9, sb9]
  (have cc := cs a1 ia1; (first | ((first | refine callR (by rfl) (by rfl) (by rfl) cc ?_ | refine callM (by rfl) (by rfl) (by rfl) cc ?_); clear cc; rintro _ _ ⟨rfl, rfl⟩) | (refine callE (by rfl) cc (by rfl) ?_; clear cc)))
  simp (config := { maxSteps := 1000000 }) (disch := omega) only [go_sem, Int.reduceToNat, ↓reduceIte, Nat.reduceLT, Nat.reduceEqDiff, Nat.reduceAdd, Nat.reduceMul, Nat.reduceSub, Nat.reduceBEq, Nat.reduceLeDiff, reduceCtorEq, Nat.reduceLT, ↓Br_true, ↓Br_false, bind, pure, sc9, sb9]
  have cc := toRoomS_cv r us n cap f hf (by omega) hcap; (first | refine callR (by rfl) (by rfl) (by rfl) cc ?_ | refine callM (by rfl) (by rfl) (by rfl) cc ?_ | refine callG (by rfl) (by rfl) (by rfl) cc ?_); clear cc; rintro _ _ ⟨a2, ia2, rfl, rfl⟩
  simp (config := { maxSteps := 1000000 }) (disch := omega) only [go_sem, Int.reduceToNat, ↓reduceIte, Nat.reduceLT, Nat.reduceEqDiff, Nat.reduceAdd, Nat.reduceMul, Nat.reduceSub, Nat.reduceBEq, Nat.reduceLeDiff, reduceCtorEq, Nat.reduceLT, ↓Br_true, ↓Br_false, bind, pure, sc9, sb9]
  (have cc := ci a2 ia2; (first | ((first | refine callR (by rfl) (by rfl) (by rfl) cc ?_ | refine callM (by rfl) (by rfl) (by rfl) cc ?_); clear cc; rintro _ _ ⟨rfl, rfl⟩) | (refine callE (by rfl) cc (by rfl) ?_; clear cc)))
  simp (config := { maxSteps := 1000000 }) (disch := omega) only [go_sem, Int.reduceToNat, ↓reduceIte, Nat.reduceLT, Nat.reduceEqDiff, Nat.reduceAdd, Nat.reduceMul, Nat.reduceSub, Nat.reduceBEq, Nat.reduceLeDiff, reduceCtorEq, Nat.reduceLT, ↓Br_true, ↓Br_false, bind, pure, sc9, sb9]
  (have cc := eqTileNS_cv noRow 0; (first | ((first | refine callR (by rfl) (by rfl) (by rfl) cc ?_ | refine callM (by rfl) (by rfl) (by rfl) cc ?_); clear cc; rintro _ _ ⟨rfl, rfl⟩) | (refine callE (by rfl) cc (by rfl) ?_; clear cc)))
  simp (config := { maxSteps := 1000000 }) (disch := omega) only [go_sem, Int.reduceToNat, ↓reduceIte, Nat.reduceLT, Nat.reduceEqDiff, Nat.reduceAdd, Nat.reduceMul, Nat.reduceSub, Nat.reduceBEq, Nat.reduceLeDiff, reduceCtorEq, Nat.reduceLT, ↓Br_true, ↓Br_false, bind, pure, sc9, sb9]
  repeat (with_reducible refine And.intro (by first | omega | assumption | (unfold SOk; kernel_rfl) | (unfold SBOk; kernel_rfl)) ?_)
  have cc := toRoomS_cv r us n cap f hf (by omega) hcap; (first | refine callR (by rfl) (by rfl) (by rfl) cc ?_ | refine callM (by rfl) (by rfl) (by rfl) cc ?_ | refine callG (by rfl) (by rfl) (by rfl) cc ?_); clear cc; rintro _ _ ⟨a3, ia3, rfl, rfl⟩
  simp (config := { maxSteps := 1000000 }) (disch := omega) only [go_sem, Int.reduceToNat, ↓reduceIte, Nat.reduceLT, Nat.reduceEqDiff, Nat.reduceAdd, Nat.reduceMul, Nat.reduceSub, Nat.reduceBEq, Nat.reduceLeDiff, reduceCtorEq, Nat.reduceLT, ↓Br_true, ↓Br_false, bind, pure, sc9, sb9]
  (have cc := eqRoom_cv r us n a2 a3 n n ia2 ia3 (Nat.le_refl _) (Nat.le_refl _) (by omega); (first | ((first | refine callR (by rfl) (by rfl) (by rfl) cc ?_ | refine callM (by rfl) (by rfl) (by rfl) cc ?_); clear cc; rintro _ _ ⟨rfl, rfl⟩) | (refine callE (by rfl) cc (by rfl) ?_; clear cc)))
  simp (config := { maxSteps := 1000000 }) (disch := omega) only [go_sem, Int.reduceToNat, ↓reduceIte, Nat.reduceLT, Nat.reduceEqDiff, Nat.reduceAdd, Nat.reduceMul, Nat.reduceSub, Nat.reduceBEq, Nat.reduceLeDiff, reduceCtorEq, Nat.reduceLT, ↓Br_true, ↓Br_false, bind, pure, sc9, sb9]
  have cc := markRoom_cv r n a2 n (Nat.le_refl _) (by omega) (len_fvp ia2); (first | refine callR (by rfl) (by rfl) (by rfl) cc ?_ | refine callM (by rfl) (by rfl) (by rfl) cc ?_ | refine callG (by rfl) (by rfl) (by rfl) cc ?_); clear cc; rintro _ _ ⟨rfl, y0, iy0, rfl⟩
  simp (config := { maxSteps := 1000000 }) (disch := omega) only [go_sem, Int.reduceToNat, ↓reduceIte, Nat.reduceLT, Nat.reduceEqDiff, Nat.reduceAdd, Nat.reduceMul, Nat.reduceSub, Nat.reduceBEq, Nat.reduceLeDiff, reduceCtorEq, Nat.reduceLT, ↓Br_true, ↓Br_false, bind, pure, sc9, sb9]
  refine ⟨fun hc => ?_, fun hc => ?_⟩
  · rw [hk4] at hc; cases hc
  · (have cc := eqTileNS_cv noRow 0; (first | ((first | refine callR (by rfl) (by rfl) (by rfl) cc ?_ | refine callM (by rfl) (by rfl) (by rfl) cc ?_); clear cc; rintro _ _ ⟨rfl, rfl⟩) | (refine callE (by rfl) cc (by rfl) ?_; clear cc)))
    simp (config := { maxSteps := 1000000 }) (disch := omega) only [go_sem, Int.reduceToNat, ↓reduceIte, Nat.reduceLT, Nat.reduceEqDiff, Nat.reduceAdd, Nat.reduceMul, Nat.reduceSub, Nat.reduceBEq, Nat.reduceLeDiff, reduceCtorEq, Nat.reduceLT, ↓Br_true, ↓Br_false, bind, pure, sc9, sb9]
    repeat (with_reducible refine And.intro (by first | omega | assumption | (unfold SOk; kernel_rfl) | (unfold SBOk; kernel_rfl)) ?_)
    (have cc := markTileN_cv 1; (first | ((first | refine callR (by rfl) (by rfl) (by rfl) cc ?_ | refine callM (by rfl) (by rfl) (by rfl) cc ?_); clear cc; rintro _ _ ⟨rfl, rfl⟩) | (refine callE (by rfl) cc (by rfl) ?_; clear cc)))
    simp (config := { maxSteps := 1000000 }) (disch := omega) only [go_sem, Int.reduceToNat, ↓reduceIte, Nat.reduceLT, Nat.reduceEqDiff, Nat.reduceAdd, Nat.reduceMul, Nat.reduceSub, Nat.reduceBEq, Nat.reduceLeDiff, reduceCtorEq, Nat.reduceLT, ↓Br_true, ↓Br_false, bind, pure, sc9, sb9]
    (have cc := heldTileN_cv 1; (first | ((first | refine callR (by rfl) (by rfl) (by rfl) cc ?_ | refine callM (by rfl) (by rfl) (by rfl) cc ?_); clear cc; rintro _ _ ⟨rfl, rfl⟩) | (refine callE (by rfl) cc (by rfl) ?_; clear cc)))
    simp (config := { maxSteps := 1000000 }) (disch := omega) only [go_sem, Int.reduceToNat, ↓reduceIte, Nat.reduceLT, Nat.reduceEqDiff, Nat.reduceAdd, Nat.reduceMul, Nat.reduceSub, Nat.reduceBEq, Nat.reduceLeDiff, reduceCtorEq, Nat.reduceLT, ↓Br_true, ↓Br_false, bind, pure, sc9, sb9, hq1]
    have cc := toRoomS_cv r us n cap f hf (by omega) hcap; (first | refine callR (by rfl) (by rfl) (by rfl) cc ?_ | refine callM (by rfl) (by rfl) (by rfl) cc ?_ | refine callG (by rfl) (by rfl) (by rfl) cc ?_); clear cc; rintro _ _ ⟨a8, ia8, rfl, rfl⟩
    simp (config := { maxSteps := 1000000 }) (disch := omega) only [go_sem, Int.reduceToNat, ↓reduceIte, Nat.reduceLT, Nat.reduceEqDiff, Nat.reduceAdd, Nat.reduceMul, Nat.reduceSub, Nat.reduceBEq, Nat.reduceLeDiff, reduceCtorEq, Nat.reduceLT, ↓Br_true, ↓Br_false, bind, pure, sc9, sb9]
    (have cc := ci a8 ia8; (first | ((first | refine callR (by rfl) (by rfl) (by rfl) cc ?_ | refine callM (by rfl) (by rfl) (by rfl) cc ?_); clear cc; rintro _ _ ⟨rfl, rfl⟩) | (refine callE (by rfl) cc (by rfl) ?_; clear cc)))
    simp (config := { maxSteps := 1000000 }) (disch := omega) only [go_sem, Int.reduceToNat, ↓reduceIte, Nat.reduceLT, Nat.reduceEqDiff, Nat.reduceAdd, Nat.reduceMul, Nat.reduceSub, Nat.reduceBEq, Nat.reduceLeDiff, reduceCtorEq, Nat.reduceLT, ↓Br_true, ↓Br_false, bind, pure, sc9, sb9]
    (have cc := eqTileNS_cv noRow 0; (first | ((first | refine callR (by rfl) (by rfl) (by rfl) cc ?_ | refine callM (by rfl) (by rfl) (by rfl) cc ?_); clear cc; rintro _ _ ⟨rfl, rfl⟩) | (refine callE (by rfl) cc (by rfl) ?_; clear cc)))
    simp (config := { maxSteps := 1000000 }) (disch := omega) only [go_sem, Int.reduceToNat, ↓reduceIte, Nat.reduceLT, Nat.reduceEqDiff, Nat.reduceAdd, Nat.reduceMul, Nat.reduceSub, Nat.reduceBEq, Nat.reduceLeDiff, reduceCtorEq, Nat.reduceLT, ↓Br_true, ↓Br_false, bind, pure, sc9, sb9]
    (have cc := heldTileN_cv 1; (first | ((first | refine callR (by rfl) (by rfl) (by rfl) cc ?_ | refine callM (by rfl) (by rfl) (by rfl) cc ?_); clear cc; rintro _ _ ⟨rfl, rfl⟩) | (refine callE (by rfl) cc (by rfl) ?_; clear cc)))
    simp (config := { maxSteps := 1000000 }) (disch := omega) only [go_sem, Int.reduceToNat, ↓reduceIte, Nat.reduceLT, Nat.reduceEqDiff, Nat.reduceAdd, Nat.reduceMul, Nat.reduceSub, Nat.reduceBEq, Nat.reduceLeDiff, reduceCtorEq, Nat.reduceLT, ↓Br_true, ↓Br_false, bind, pure, sc9, sb9, hq1]
theorem FnExactPlaceDesksS_cv (r : Rom) (us : Nat → Win) (n cap : Nat) (f : Nat → List FV) (hf : ∀ i, i < n → f i = (us i).fv) (hcap : n ≤ cap) (htop : n ≤ 9223372036854775807) (hr : (-128 ≤ r.wi ∧ r.wi ≤ 127) ∧ -128 ≤ r.hi ∧ r.hi ≤ 127) (hs : ∀ i, i < n → (us i).sm) (least : Nat) (many : Int) :
    CV Try.prog 9 [romV r n cap, .f (.flt .f32 least), .f (.int .i64 many)] [.rows n cap 3 f false] (fun v hh => v = .f (.bool true) ∧ hh = [.rows n cap 3 f false]) := by
  by_cases hT : n ≤ 1048576
  · by_cases ha : plT r us n least many ≠ []
    · exact FnExactPlaceDesksSg_cv r us n cap f hf hcap htop hr hs least many hT ha
    · exact FnExactPlaceDesksSb_cv r us n cap f hf hcap htop hr hs least many hT (Classical.not_not.1 ha)
  · have qq : szI 1048576 n = -1 := by unfold szI; rw [if_pos (by omega)]
    have q2 : decide ((-1 : Int) < 0) = true := by decide
    refine cv_of_run 1000 sc9 sb9 106 [.tmp 6] tabOk (by kernel_rfl) Try.func9 rfl (by kernel_rfl) Try.ntmps9 rfl (by simp) rfl (by simp [bdL, SV.bd]) ?_
    simp (config := { maxSteps := 1000000 }) (disch := omega) only [go_sem, Int.reduceToNat, ↓reduceIte, Nat.reduceLT, Nat.reduceEqDiff, Nat.reduceAdd, Nat.reduceMul, Nat.reduceSub, Nat.reduceBEq, Nat.reduceLeDiff, reduceCtorEq, Nat.reduceLT, ↓Br_true, ↓Br_false, bind, pure, sc9, sb9]
    (have cc := szRoomS_cv r n cap f 1048576 (by omega) (by omega) hcap htop; (first | ((first | refine callR (by rfl) (by rfl) (by rfl) cc ?_ | refine callM (by rfl) (by rfl) (by rfl) cc ?_); clear cc; rintro _ _ ⟨rfl, rfl⟩) | (refine callE (by rfl) cc (by rfl) ?_; clear cc)))
    simp (config := { maxSteps := 1000000 }) (disch := omega) only [go_sem, Int.reduceToNat, ↓reduceIte, Nat.reduceLT, Nat.reduceEqDiff, Nat.reduceAdd, Nat.reduceMul, Nat.reduceSub, Nat.reduceBEq, Nat.reduceLeDiff, reduceCtorEq, Nat.reduceLT, ↓Br_true, ↓Br_false, bind, pure, sc9, sb9, qq, q2]
    repeat' (first | (with_reducible refine And.intro (by first | (unfold SOk; kernel_rfl) | (unfold SBOk; kernel_rfl) | (with_reducible assumption) | omega | assumption) ?_) | (with_reducible refine Br_intro (fun hc => ?_) (fun hc => ?_)) | ((with_reducible show WidN _ _ _ _ _ _ _ _); (first | refine widL (by decide) (by with_reducible assumption) ?_ | refine widL (by decide) (FWok_nn (by with_reducible assumption)) ?_ | refine widN (by decide) (fun c hc => ?_)); simp (config := { maxSteps := 1000000 }) (disch := omega) only [go_sem, Int.reduceToNat, ↓reduceIte, Nat.reduceLT, Nat.reduceEqDiff, Nat.reduceAdd, Nat.reduceMul, Nat.reduceSub, Nat.reduceBEq, Nat.reduceLeDiff, reduceCtorEq, Nat.reduceLT, ↓Br_true, ↓Br_false, bind, pure, sc9, sb9, qq, q2]))
theorem FnExactPlaceDesksNg_cv (r : Rom) (us : Nat → Win) (hr : (-128 ≤ r.wi ∧ r.wi ≤ 127) ∧ -128 ≤ r.hi ∧ r.hi ≤ 127) (least : Nat) (many : Int) (hT : 0 ≤ 1048576) (ha : plT r us 0 least many ≠ []) :
    CV Try.prog 9 [romN r, .f (.flt .f32 least), .f (.int .i64 many)] [] (fun v hh => v = .f (.bool true) ∧ hh = []) := by
  have hs : ∀ i, i < 0 → (us i).sm := fun i hi => by omega
  have cs := fun f hf  => sPlaceDesks_cv r us least many 0 0 f ⟨hf, Nat.le_refl _, by omega, hr.1, hr.2, hs⟩ ha
  have ci := fun f hf  => PlaceDesks_cv r us least many 0 0 f ⟨hf, Nat.le_refl _, by omega, hr.1, hr.2, hs⟩ ha
  have h5 := plT_le r us 0 least many
  clear ha
  generalize plK r us 0 least many = d at *
  generalize plT r us 0 least many = T at *
  have qz : decide ((1048576 : Int) < 0) = false := by decide
  have hk4 : decide (1 + 3 * ((0 : Nat) : Int) < 0) = false := decide_eq_false (by omega)
  have hk5 : decide (1 + 2 * ((T.length : Nat) : Int) < 0) = false := decide_eq_false (by omega)
  have hq1 : decide ((1 : Int) < 0) = false := by decide
  refine cv_of_run 1000 sc9 sb9 106 [.tmp 6] tabOk (by kernel_rfl) Try.func9 rfl (by kernel_rfl) Try.ntmps9 rfl (by simp) rfl (by simp [bdL, SV.bd]) ?_
  simp (config := { maxSteps := 1000000 }) (disch := omega) only [go_sem, Int.reduceToNat, ↓reduceIte, Nat.reduceLT, Nat.reduceEqDiff, Nat.reduceAdd, Nat.reduceMul, Nat.reduceSub, Nat.reduceBEq, Nat.reduceLeDiff, reduceCtorEq, Nat.reduceLT, ↓Br_true, ↓Br_false, bind, pure, sc9, sb9]
  (have cc := szRoomN_cv r 1048576 (by omega) (by omega); (first | ((first | refine callR (by rfl) (by rfl) (by rfl) cc ?_ | refine callM (by rfl) (by rfl) (by rfl) cc ?_); clear cc; rintro _ _ ⟨rfl, rfl⟩) | (refine callE (by rfl) cc (by rfl) ?_; clear cc)))
  simp (config := { maxSteps := 1000000 }) (disch := omega) only [go_sem, Int.reduceToNat, ↓reduceIte, Nat.reduceLT, Nat.reduceEqDiff, Nat.reduceAdd, Nat.reduceMul, Nat.reduceSub, Nat.reduceBEq, Nat.reduceLeDiff, reduceCtorEq, Nat.reduceLT, ↓Br_true, ↓Br_false, bind, pure, sc9, sb9, qz]
  repeat' (first | (with_reducible refine And.intro (by first | (unfold SOk; kernel_rfl) | (unfold SBOk; kernel_rfl) | (with_reducible assumption) | omega | assumption) ?_) | (with_reducible refine Br_intro (fun hc => ?_) (fun hc => ?_)) | ((with_reducible show WidN _ _ _ _ _ _ _ _); (first | refine widL (by decide) (by with_reducible assumption) ?_ | refine widL (by decide) (FWok_nn (by with_reducible assumption)) ?_ | refine widN (by decide) (fun c hc => ?_)); simp (config := { maxSteps := 1000000 }) (disch := omega) only [go_sem, Int.reduceToNat, ↓reduceIte, Nat.reduceLT, Nat.reduceEqDiff, Nat.reduceAdd, Nat.reduceMul, Nat.reduceSub, Nat.reduceBEq, Nat.reduceLeDiff, reduceCtorEq, Nat.reduceLT, ↓Br_true, ↓Br_false, bind, pure, sc9, sb9, qz]))
  have cc := toRoomN_cv r; (first | refine callR (by rfl) (by rfl) (by rfl) cc ?_ | refine callM (by rfl) (by rfl) (by rfl) cc ?_ | refine callG (by rfl) (by rfl) (by rfl) cc ?_); clear cc; rintro _ _ ⟨a1, rfl, rfl⟩
  simp (config := { maxSteps := 1000000 }) (disch := omega) only [go_sem, Int.reduceToNat, ↓reduceIte, Nat.reduceLT, Nat.reduceEqDiff, Nat.reduceAdd, Nat.reduceMul, Nat.reduceSub, Nat.reduceBEq, Nat.reduceLeDiff, reduceCtorEq, Nat.reduceLT, ↓Br_true, ↓Br_false, bind, pure, sc9, sb9]
  have ia1 : ∀ i, i < 0 → a1 i = (us i).fv := fun i hi => by omega
  have cc := cs a1 ia1; (first | refine callR (by rfl) (by rfl) (by rfl) cc ?_ | refine callM (by rfl) (by rfl) (by rfl) cc ?_ | refine callG (by rfl) (by rfl) (by rfl) cc ?_); clear cc; rintro _ _ ⟨cap2, w2, i2, c2, rfl, rfl⟩
  simp (config := { maxSteps := 1000000 }) (disch := omega) only [go_sem, Int.reduceToNat, ↓reduceIte, Nat.reduceLT, Nat.reduceEqDiff, Nat.reduceAdd, Nat.reduceMul, Nat.reduceSub, Nat.reduceBEq, Nat.reduceLeDiff, reduceCtorEq, Nat.reduceLT, ↓Br_true, ↓Br_false, bind, pure, sc9, sb9]
  have cc := toRoomN_cv r; (first | refine callR (by rfl) (by rfl) (by rfl) cc ?_ | refine callM (by rfl) (by rfl) (by rfl) cc ?_ | refine callG (by rfl) (by rfl) (by rfl) cc ?_); clear cc; rintro _ _ ⟨a2, rfl, rfl⟩
  simp (config := { maxSteps := 1000000 }) (disch := omega) only [go_sem, Int.reduceToNat, ↓reduceIte, Nat.reduceLT, Nat.reduceEqDiff, Nat.reduceAdd, Nat.reduceMul, Nat.reduceSub, Nat.reduceBEq, Nat.reduceLeDiff, reduceCtorEq, Nat.reduceLT, ↓Br_true, ↓Br_false, bind, pure, sc9, sb9]
  have ia2 : ∀ i, i < 0 → a2 i = (us i).fv := fun i hi => by omega
  have cc := ci a2 ia2; (first | refine callR (by rfl) (by rfl) (by rfl) cc ?_ | refine callM (by rfl) (by rfl) (by rfl) cc ?_ | refine callG (by rfl) (by rfl) (by rfl) cc ?_); clear cc; rintro _ _ ⟨cap4, w4, i4, c4, rfl, rfl⟩
  simp (config := { maxSteps := 1000000 }) (disch := omega) only [go_sem, Int.reduceToNat, ↓reduceIte, Nat.reduceLT, Nat.reduceEqDiff, Nat.reduceAdd, Nat.reduceMul, Nat.reduceSub, Nat.reduceBEq, Nat.reduceLeDiff, reduceCtorEq, Nat.reduceLT, ↓Br_true, ↓Br_false, bind, pure, sc9, sb9]
  (have cc := eqTileS_cv T w4 w2 cap4 cap2 i4 i2 c4 c2 (by omega); (first | ((first | refine callR (by rfl) (by rfl) (by rfl) cc ?_ | refine callM (by rfl) (by rfl) (by rfl) cc ?_); clear cc; rintro _ _ ⟨rfl, rfl⟩) | (refine callE (by rfl) cc (by rfl) ?_; clear cc)))
  simp (config := { maxSteps := 1000000 }) (disch := omega) only [go_sem, Int.reduceToNat, ↓reduceIte, Nat.reduceLT, Nat.reduceEqDiff, Nat.reduceAdd, Nat.reduceMul, Nat.reduceSub, Nat.reduceBEq, Nat.reduceLeDiff, reduceCtorEq, Nat.reduceLT, ↓Br_true, ↓Br_false, bind, pure, sc9, sb9]
  repeat (with_reducible refine And.intro (by first | omega | assumption | (unfold SOk; kernel_rfl) | (unfold SBOk; kernel_rfl)) ?_)
  have cc := toRoomN_cv r; (first | refine callR (by rfl) (by rfl) (by rfl) cc ?_ | refine callM (by rfl) (by rfl) (by rfl) cc ?_ | refine callG (by rfl) (by rfl) (by rfl) cc ?_); clear cc; rintro _ _ ⟨a3, rfl, rfl⟩
  simp (config := { maxSteps := 1000000 }) (disch := omega) only [go_sem, Int.reduceToNat, ↓reduceIte, Nat.reduceLT, Nat.reduceEqDiff, Nat.reduceAdd, Nat.reduceMul, Nat.reduceSub, Nat.reduceBEq, Nat.reduceLeDiff, reduceCtorEq, Nat.reduceLT, ↓Br_true, ↓Br_false, bind, pure, sc9, sb9]
  have ia3 : ∀ i, i < 0 → a3 i = (us i).fv := fun i hi => by omega
  (have cc := eqRoom_cv r us 0 a2 a3 0 0 ia2 ia3 (Nat.le_refl _) (Nat.le_refl _) (by omega); (first | ((first | refine callR (by rfl) (by rfl) (by rfl) cc ?_ | refine callM (by rfl) (by rfl) (by rfl) cc ?_); clear cc; rintro _ _ ⟨rfl, rfl⟩) | (refine callE (by rfl) cc (by rfl) ?_; clear cc)))
  simp (config := { maxSteps := 1000000 }) (disch := omega) only [go_sem, Int.reduceToNat, ↓reduceIte, Nat.reduceLT, Nat.reduceEqDiff, Nat.reduceAdd, Nat.reduceMul, Nat.reduceSub, Nat.reduceBEq, Nat.reduceLeDiff, reduceCtorEq, Nat.reduceLT, ↓Br_true, ↓Br_false, bind, pure, sc9, sb9]
  have cc := markRoom_cv r 0 a2 0 (Nat.le_refl _) (by omega) (len_fvp ia2); (first | refine callR (by rfl) (by rfl) (by rfl) cc ?_ | refine callM (by rfl) (by rfl) (by rfl) cc ?_ | refine callG (by rfl) (by rfl) (by rfl) cc ?_); clear cc; rintro _ _ ⟨rfl, y0, iy0, rfl⟩
  simp (config := { maxSteps := 1000000 }) (disch := omega) only [go_sem, Int.reduceToNat, ↓reduceIte, Nat.reduceLT, Nat.reduceEqDiff, Nat.reduceAdd, Nat.reduceMul, Nat.reduceSub, Nat.reduceBEq, Nat.reduceLeDiff, reduceCtorEq, Nat.reduceLT, ↓Br_true, ↓Br_false, bind, pure, sc9, sb9]
  refine ⟨fun hc => ?_, fun hc => ?_⟩
  · rw [hk4] at hc; cases hc
  · (have cc := eqTileS_cv T w4 w2 cap4 cap2 i4 i2 c4 c2 (by omega); (first | ((first | refine callR (by rfl) (by rfl) (by rfl) cc ?_ | refine callM (by rfl) (by rfl) (by rfl) cc ?_); clear cc; rintro _ _ ⟨rfl, rfl⟩) | (refine callE (by rfl) cc (by rfl) ?_; clear cc)))
    simp (config := { maxSteps := 1000000 }) (disch := omega) only [go_sem, Int.reduceToNat, ↓reduceIte, Nat.reduceLT, Nat.reduceEqDiff, Nat.reduceAdd, Nat.reduceMul, Nat.reduceSub, Nat.reduceBEq, Nat.reduceLeDiff, reduceCtorEq, Nat.reduceLT, ↓Br_true, ↓Br_false, bind, pure, sc9, sb9]
    repeat (with_reducible refine And.intro (by first | omega | assumption | (unfold SOk; kernel_rfl) | (unfold SBOk; kernel_rfl)) ?_)
    have cc := markTileS_cv T.length w4 cap4 c4 (by omega) (fun i hi => by rw [i4 i hi]; rfl); (first | refine callR (by rfl) (by rfl) (by rfl) cc ?_ | refine callM (by rfl) (by rfl) (by rfl) cc ?_ | refine callG (by rfl) (by rfl) (by rfl) cc ?_); clear cc; rintro _ _ ⟨rfl, y4, iy4, rfl⟩
    simp (config := { maxSteps := 1000000 }) (disch := omega) only [go_sem, Int.reduceToNat, ↓reduceIte, Nat.reduceLT, Nat.reduceEqDiff, Nat.reduceAdd, Nat.reduceMul, Nat.reduceSub, Nat.reduceBEq, Nat.reduceLeDiff, reduceCtorEq, Nat.reduceLT, ↓Br_true, ↓Br_false, bind, pure, sc9, sb9]
    (have cc := heldTileS_cv T.length y4 cap4 c4 (by omega) iy4; (first | ((first | refine callR (by rfl) (by rfl) (by rfl) cc ?_ | refine callM (by rfl) (by rfl) (by rfl) cc ?_); clear cc; rintro _ _ ⟨rfl, rfl⟩) | (refine callE (by rfl) cc (by rfl) ?_; clear cc)))
    simp (config := { maxSteps := 1000000 }) (disch := omega) only [go_sem, Int.reduceToNat, ↓reduceIte, Nat.reduceLT, Nat.reduceEqDiff, Nat.reduceAdd, Nat.reduceMul, Nat.reduceSub, Nat.reduceBEq, Nat.reduceLeDiff, reduceCtorEq, Nat.reduceLT, ↓Br_true, ↓Br_false, bind, pure, sc9, sb9, hk5]
    have cc := toRoomN_cv r; (first | refine callR (by rfl) (by rfl) (by rfl) cc ?_ | refine callM (by rfl) (by rfl) (by rfl) cc ?_ | refine callG (by rfl) (by rfl) (by rfl) cc ?_); clear cc; rintro _ _ ⟨a8, rfl, rfl⟩
    simp (config := { maxSteps := 1000000 }) (disch := omega) only [go_sem, Int.reduceToNat, ↓reduceIte, Nat.reduceLT, Nat.reduceEqDiff, Nat.reduceAdd, Nat.reduceMul, Nat.reduceSub, Nat.reduceBEq, Nat.reduceLeDiff, reduceCtorEq, Nat.reduceLT, ↓Br_true, ↓Br_false, bind, pure, sc9, sb9]
    have ia8 : ∀ i, i < 0 → a8 i = (us i).fv := fun i hi => by omega
    have cc := ci a8 ia8; (first | refine callR (by rfl) (by rfl) (by rfl) cc ?_ | refine callM (by rfl) (by rfl) (by rfl) cc ?_ | refine callG (by rfl) (by rfl) (by rfl) cc ?_); clear cc; rintro _ _ ⟨cap9, w9, i9, c9, rfl, rfl⟩
    simp (config := { maxSteps := 1000000 }) (disch := omega) only [go_sem, Int.reduceToNat, ↓reduceIte, Nat.reduceLT, Nat.reduceEqDiff, Nat.reduceAdd, Nat.reduceMul, Nat.reduceSub, Nat.reduceBEq, Nat.reduceLeDiff, reduceCtorEq, Nat.reduceLT, ↓Br_true, ↓Br_false, bind, pure, sc9, sb9]
    (have cc := eqTileS_cv T w9 w2 cap9 cap2 i9 i2 c9 c2 (by omega); (first | ((first | refine callR (by rfl) (by rfl) (by rfl) cc ?_ | refine callM (by rfl) (by rfl) (by rfl) cc ?_); clear cc; rintro _ _ ⟨rfl, rfl⟩) | (refine callE (by rfl) cc (by rfl) ?_; clear cc)))
    simp (config := { maxSteps := 1000000 }) (disch := omega) only [go_sem, Int.reduceToNat, ↓reduceIte, Nat.reduceLT, Nat.reduceEqDiff, Nat.reduceAdd, Nat.reduceMul, Nat.reduceSub, Nat.reduceBEq, Nat.reduceLeDiff, reduceCtorEq, Nat.reduceLT, ↓Br_true, ↓Br_false, bind, pure, sc9, sb9]
    (have cc := heldTileS_cv T.length y4 cap4 c4 (by omega) iy4; (first | ((first | refine callR (by rfl) (by rfl) (by rfl) cc ?_ | refine callM (by rfl) (by rfl) (by rfl) cc ?_); clear cc; rintro _ _ ⟨rfl, rfl⟩) | (refine callE (by rfl) cc (by rfl) ?_; clear cc)))
    simp (config := { maxSteps := 1000000 }) (disch := omega) only [go_sem, Int.reduceToNat, ↓reduceIte, Nat.reduceLT, Nat.reduceEqDiff, Nat.reduceAdd, Nat.reduceMul, Nat.reduceSub, Nat.reduceBEq, Nat.reduceLeDiff, reduceCtorEq, Nat.reduceLT, ↓Br_true, ↓Br_false, bind, pure, sc9, sb9, hk5]
theorem FnExactPlaceDesksNb_cv (r : Rom) (us : Nat → Win) (hr : (-128 ≤ r.wi ∧ r.wi ≤ 127) ∧ -128 ≤ r.hi ∧ r.hi ≤ 127) (least : Nat) (many : Int) (hT : 0 ≤ 1048576) (ha : plT r us 0 least many = []) :
    CV Try.prog 9 [romN r, .f (.flt .f32 least), .f (.int .i64 many)] [] (fun v hh => v = .f (.bool true) ∧ hh = []) := by
  have hs : ∀ i, i < 0 → (us i).sm := fun i hi => by omega
  have cs := fun f hf  => sPlaceDesksBad_cv r us least many 0 0 f ⟨hf, Nat.le_refl _, by omega, hr.1, hr.2, hs⟩ ha
  have ci := fun f hf  => PlaceDesksBad_cv r us least many 0 0 f ⟨hf, Nat.le_refl _, by omega, hr.1, hr.2, hs⟩ ha
  clear ha
  generalize plK r us 0 least many = d at *
  have qz : decide ((1048576 : Int) < 0) = false := by decide
  have hk4 : decide (1 + 3 * ((0 : Nat) : Int) < 0) = false := decide_eq_false (by omega)
  have hq1 : decide ((1 : Int) < 0) = false := by decide
  refine cv_of_run 1000 sc9 sb9 106 [.tmp 6] tabOk (by kernel_rfl) Try.func9 rfl (by kernel_rfl) Try.ntmps9 rfl (by simp) rfl (by simp [bdL, SV.bd]) ?_
  simp (config := { maxSteps := 1000000 }) (disch := omega) only [go_sem, Int.reduceToNat, ↓reduceIte, Nat.reduceLT, Nat.reduceEqDiff, Nat.reduceAdd, Nat.reduceMul, Nat.reduceSub, Nat.reduceBEq, Nat.reduceLeDiff, reduceCtorEq, Nat.reduceLT, ↓Br_true, ↓Br_false, bind, pure, sc9, sb9]
  (have cc := szRoomN_cv r 1048576 (by omega) (by omega); (first | ((first | refine callR (by rfl) (by rfl) (by rfl) cc ?_ | refine callM (by rfl) (by rfl) (by rfl) cc ?_); clear cc; rintro _ _ ⟨rfl, rfl⟩) | (refine callE (by rfl) cc (by rfl) ?_; clear cc)))
  simp (config := { maxSteps := 1000000 }) (disch := omega) only [go_sem, Int.reduceToNat, ↓reduceIte, Nat.reduceLT, Nat.reduceEqDiff, Nat.reduceAdd, Nat.reduceMul, Nat.reduceSub, Nat.reduceBEq, Nat.reduceLeDiff, reduceCtorEq, Nat.reduceLT, ↓Br_true, ↓Br_false, bind, pure, sc9, sb9, qz]
  repeat' (first | (with_reducible refine And.intro (by first | (unfold SOk; kernel_rfl) | (unfold SBOk; kernel_rfl) | (with_reducible assumption) | omega | assumption) ?_) | (with_reducible refine Br_intro (fun hc => ?_) (fun hc => ?_)) | ((with_reducible show WidN _ _ _ _ _ _ _ _); (first | refine widL (by decide) (by with_reducible assumption) ?_ | refine widL (by decide) (FWok_nn (by with_reducible assumption)) ?_ | refine widN (by decide) (fun c hc => ?_)); simp (config := { maxSteps := 1000000 }) (disch := omega) only [go_sem, Int.reduceToNat, ↓reduceIte, Nat.reduceLT, Nat.reduceEqDiff, Nat.reduceAdd, Nat.reduceMul, Nat.reduceSub, Nat.reduceBEq, Nat.reduceLeDiff, reduceCtorEq, Nat.reduceLT, ↓Br_true, ↓Br_false, bind, pure, sc9, sb9, qz]))
  have cc := toRoomN_cv r; (first | refine callR (by rfl) (by rfl) (by rfl) cc ?_ | refine callM (by rfl) (by rfl) (by rfl) cc ?_ | refine callG (by rfl) (by rfl) (by rfl) cc ?_); clear cc; rintro _ _ ⟨a1, rfl, rfl⟩
  simp (config := { maxSteps := 1000000 }) (disch := omega) only [go_sem, Int.reduceToNat, ↓reduceIte, Nat.reduceLT, Nat.reduceEqDiff, Nat.reduceAdd, Nat.reduceMul, Nat.reduceSub, Nat.reduceBEq, Nat.reduceLeDiff, reduceCtorEq, Nat.reduceLT, ↓Br_true, ↓Br_false, bind, pure, sc9, sb9]
  have ia1 : ∀ i, i < 0 → a1 i = (us i).fv := fun i hi => by omega
  (have cc := cs a1 ia1; (first | ((first | refine callR (by rfl) (by rfl) (by rfl) cc ?_ | refine callM (by rfl) (by rfl) (by rfl) cc ?_); clear cc; rintro _ _ ⟨rfl, rfl⟩) | (refine callE (by rfl) cc (by rfl) ?_; clear cc)))
  simp (config := { maxSteps := 1000000 }) (disch := omega) only [go_sem, Int.reduceToNat, ↓reduceIte, Nat.reduceLT, Nat.reduceEqDiff, Nat.reduceAdd, Nat.reduceMul, Nat.reduceSub, Nat.reduceBEq, Nat.reduceLeDiff, reduceCtorEq, Nat.reduceLT, ↓Br_true, ↓Br_false, bind, pure, sc9, sb9]
  have cc := toRoomN_cv r; (first | refine callR (by rfl) (by rfl) (by rfl) cc ?_ | refine callM (by rfl) (by rfl) (by rfl) cc ?_ | refine callG (by rfl) (by rfl) (by rfl) cc ?_); clear cc; rintro _ _ ⟨a2, rfl, rfl⟩
  simp (config := { maxSteps := 1000000 }) (disch := omega) only [go_sem, Int.reduceToNat, ↓reduceIte, Nat.reduceLT, Nat.reduceEqDiff, Nat.reduceAdd, Nat.reduceMul, Nat.reduceSub, Nat.reduceBEq, Nat.reduceLeDiff, reduceCtorEq, Nat.reduceLT, ↓Br_true, ↓Br_false, bind, pure, sc9, sb9]
  have ia2 : ∀ i, i < 0 → a2 i = (us i).fv := fun i hi => by omega
  (have cc := ci a2 ia2; (first | ((first | refine callR (by rfl) (by rfl) (by rfl) cc ?_ | refine callM (by rfl) (by rfl) (by rfl) cc ?_); clear cc; rintro _ _ ⟨rfl, rfl⟩) | (refine callE (by rfl) cc (by rfl) ?_; clear cc)))
  simp (config := { maxSteps := 1000000 }) (disch := omega) only [go_sem, Int.reduceToNat, ↓reduceIte, Nat.reduceLT, Nat.reduceEqDiff, Nat.reduceAdd, Nat.reduceMul, Nat.reduceSub, Nat.reduceBEq, Nat.reduceLeDiff, reduceCtorEq, Nat.reduceLT, ↓Br_true, ↓Br_false, bind, pure, sc9, sb9]
  (have cc := eqTileNS_cv noRow 0; (first | ((first | refine callR (by rfl) (by rfl) (by rfl) cc ?_ | refine callM (by rfl) (by rfl) (by rfl) cc ?_); clear cc; rintro _ _ ⟨rfl, rfl⟩) | (refine callE (by rfl) cc (by rfl) ?_; clear cc)))
  simp (config := { maxSteps := 1000000 }) (disch := omega) only [go_sem, Int.reduceToNat, ↓reduceIte, Nat.reduceLT, Nat.reduceEqDiff, Nat.reduceAdd, Nat.reduceMul, Nat.reduceSub, Nat.reduceBEq, Nat.reduceLeDiff, reduceCtorEq, Nat.reduceLT, ↓Br_true, ↓Br_false, bind, pure, sc9, sb9]
  repeat (with_reducible refine And.intro (by first | omega | assumption | (unfold SOk; kernel_rfl) | (unfold SBOk; kernel_rfl)) ?_)
  have cc := toRoomN_cv r; (first | refine callR (by rfl) (by rfl) (by rfl) cc ?_ | refine callM (by rfl) (by rfl) (by rfl) cc ?_ | refine callG (by rfl) (by rfl) (by rfl) cc ?_); clear cc; rintro _ _ ⟨a3, rfl, rfl⟩
  simp (config := { maxSteps := 1000000 }) (disch := omega) only [go_sem, Int.reduceToNat, ↓reduceIte, Nat.reduceLT, Nat.reduceEqDiff, Nat.reduceAdd, Nat.reduceMul, Nat.reduceSub, Nat.reduceBEq, Nat.reduceLeDiff, reduceCtorEq, Nat.reduceLT, ↓Br_true, ↓Br_false, bind, pure, sc9, sb9]
  have ia3 : ∀ i, i < 0 → a3 i = (us i).fv := fun i hi => by omega
  (have cc := eqRoom_cv r us 0 a2 a3 0 0 ia2 ia3 (Nat.le_refl _) (Nat.le_refl _) (by omega); (first | ((first | refine callR (by rfl) (by rfl) (by rfl) cc ?_ | refine callM (by rfl) (by rfl) (by rfl) cc ?_); clear cc; rintro _ _ ⟨rfl, rfl⟩) | (refine callE (by rfl) cc (by rfl) ?_; clear cc)))
  simp (config := { maxSteps := 1000000 }) (disch := omega) only [go_sem, Int.reduceToNat, ↓reduceIte, Nat.reduceLT, Nat.reduceEqDiff, Nat.reduceAdd, Nat.reduceMul, Nat.reduceSub, Nat.reduceBEq, Nat.reduceLeDiff, reduceCtorEq, Nat.reduceLT, ↓Br_true, ↓Br_false, bind, pure, sc9, sb9]
  have cc := markRoom_cv r 0 a2 0 (Nat.le_refl _) (by omega) (len_fvp ia2); (first | refine callR (by rfl) (by rfl) (by rfl) cc ?_ | refine callM (by rfl) (by rfl) (by rfl) cc ?_ | refine callG (by rfl) (by rfl) (by rfl) cc ?_); clear cc; rintro _ _ ⟨rfl, y0, iy0, rfl⟩
  simp (config := { maxSteps := 1000000 }) (disch := omega) only [go_sem, Int.reduceToNat, ↓reduceIte, Nat.reduceLT, Nat.reduceEqDiff, Nat.reduceAdd, Nat.reduceMul, Nat.reduceSub, Nat.reduceBEq, Nat.reduceLeDiff, reduceCtorEq, Nat.reduceLT, ↓Br_true, ↓Br_false, bind, pure, sc9, sb9]
  refine ⟨fun hc => ?_, fun hc => ?_⟩
  · rw [hk4] at hc; cases hc
  · (have cc := eqTileNS_cv noRow 0; (first | ((first | refine callR (by rfl) (by rfl) (by rfl) cc ?_ | refine callM (by rfl) (by rfl) (by rfl) cc ?_); clear cc; rintro _ _ ⟨rfl, rfl⟩) | (refine callE (by rfl) cc (by rfl) ?_; clear cc)))
    simp (config := { maxSteps := 1000000 }) (disch := omega) only [go_sem, Int.reduceToNat, ↓reduceIte, Nat.reduceLT, Nat.reduceEqDiff, Nat.reduceAdd, Nat.reduceMul, Nat.reduceSub, Nat.reduceBEq, Nat.reduceLeDiff, reduceCtorEq, Nat.reduceLT, ↓Br_true, ↓Br_false, bind, pure, sc9, sb9]
    repeat (with_reducible refine And.intro (by first | omega | assumption | (unfold SOk; kernel_rfl) | (unfold SBOk; kernel_rfl)) ?_)
    (have cc := markTileN_cv 1; (first | ((first | refine callR (by rfl) (by rfl) (by rfl) cc ?_ | refine callM (by rfl) (by rfl) (by rfl) cc ?_); clear cc; rintro _ _ ⟨rfl, rfl⟩) | (refine callE (by rfl) cc (by rfl) ?_; clear cc)))
    simp (config := { maxSteps := 1000000 }) (disch := omega) only [go_sem, Int.reduceToNat, ↓reduceIte, Nat.reduceLT, Nat.reduceEqDiff, Nat.reduceAdd, Nat.reduceMul, Nat.reduceSub, Nat.reduceBEq, Nat.reduceLeDiff, reduceCtorEq, Nat.reduceLT, ↓Br_true, ↓Br_false, bind, pure, sc9, sb9]
    (have cc := heldTileN_cv 1; (first | ((first | refine callR (by rfl) (by rfl) (by rfl) cc ?_ | refine callM (by rfl) (by rfl) (by rfl) cc ?_); clear cc; rintro _ _ ⟨rfl, rfl⟩) | (refine callE (by rfl) cc (by rfl) ?_; clear cc)))
    simp (config := { maxSteps := 1000000 }) (disch := omega) only [go_sem, Int.reduceToNat, ↓reduceIte, Nat.reduceLT, Nat.reduceEqDiff, Nat.reduceAdd, Nat.reduceMul, Nat.reduceSub, Nat.reduceBEq, Nat.reduceLeDiff, reduceCtorEq, Nat.reduceLT, ↓Br_true, ↓Br_false, bind, pure, sc9, sb9, hq1]
    have cc := toRoomN_cv r; (first | refine callR (by rfl) (by rfl) (by rfl) cc ?_ | refine callM (by rfl) (by rfl) (by rfl) cc ?_ | refine callG (by rfl) (by rfl) (by rfl) cc ?_); clear cc; rintro _ _ ⟨a8, rfl, rfl⟩
    simp (config := { maxSteps := 1000000 }) (disch := omega) only [go_sem, Int.reduceToNat, ↓reduceIte, Nat.reduceLT, Nat.reduceEqDiff, Nat.reduceAdd, Nat.reduceMul, Nat.reduceSub, Nat.reduceBEq, Nat.reduceLeDiff, reduceCtorEq, Nat.reduceLT, ↓Br_true, ↓Br_false, bind, pure, sc9, sb9]
    have ia8 : ∀ i, i < 0 → a8 i = (us i).fv := fun i hi => by omega
    (have cc := ci a8 ia8; (first | ((first | refine callR (by rfl) (by rfl) (by rfl) cc ?_ | refine callM (by rfl) (by rfl) (by rfl) cc ?_); clear cc; rintro _ _ ⟨rfl, rfl⟩) | (refine callE (by rfl) cc (by rfl) ?_; clear cc)))
    simp (config := { maxSteps := 1000000 }) (disch := omega) only [go_sem, Int.reduceToNat, ↓reduceIte, Nat.reduceLT, Nat.reduceEqDiff, Nat.reduceAdd, Nat.reduceMul, Nat.reduceSub, Nat.reduceBEq, Nat.reduceLeDiff, reduceCtorEq, Nat.reduceLT, ↓Br_true, ↓Br_false, bind, pure, sc9, sb9]
    (have cc := eqTileNS_cv noRow 0; (first | ((first | refine callR (by rfl) (by rfl) (by rfl) cc ?_ | refine callM (by rfl) (by rfl) (by rfl) cc ?_); clear cc; rintro _ _ ⟨rfl, rfl⟩) | (refine callE (by rfl) cc (by rfl) ?_; clear cc)))
    simp (config := { maxSteps := 1000000 }) (disch := omega) only [go_sem, Int.reduceToNat, ↓reduceIte, Nat.reduceLT, Nat.reduceEqDiff, Nat.reduceAdd, Nat.reduceMul, Nat.reduceSub, Nat.reduceBEq, Nat.reduceLeDiff, reduceCtorEq, Nat.reduceLT, ↓Br_true, ↓Br_false, bind, pure, sc9, sb9]
    (have cc := heldTileN_cv 1; (first | ((first | refine callR (by rfl) (by rfl) (by rfl) cc ?_ | refine callM (by rfl) (by rfl) (by rfl) cc ?_); clear cc; rintro _ _ ⟨rfl, rfl⟩) | (refine callE (by rfl) cc (by rfl) ?_; clear cc)))
    simp (config := { maxSteps := 1000000 }) (disch := omega) only [go_sem, Int.reduceToNat, ↓reduceIte, Nat.reduceLT, Nat.reduceEqDiff, Nat.reduceAdd, Nat.reduceMul, Nat.reduceSub, Nat.reduceBEq, Nat.reduceLeDiff, reduceCtorEq, Nat.reduceLT, ↓Br_true, ↓Br_false, bind, pure, sc9, sb9, hq1]
theorem FnExactPlaceDesksN_cv (r : Rom) (us : Nat → Win) (hr : (-128 ≤ r.wi ∧ r.wi ≤ 127) ∧ -128 ≤ r.hi ∧ r.hi ≤ 127) (least : Nat) (many : Int) :
    CV Try.prog 9 [romN r, .f (.flt .f32 least), .f (.int .i64 many)] [] (fun v hh => v = .f (.bool true) ∧ hh = []) := by
  by_cases hT : 0 ≤ 1048576
  · by_cases ha : plT r us 0 least many ≠ []
    · exact FnExactPlaceDesksNg_cv r us hr least many hT ha
    · exact FnExactPlaceDesksNb_cv r us hr least many hT (Classical.not_not.1 ha)
  · exact absurd (Nat.zero_le _) hT
theorem FnExactPlaceDesks_c (a b : Int) (v : Value) (n cap : Nat) (f : Nat → List FV)  (least : Nat) (many : Int) (W : World) (ha : -128 ≤ a ∧ a ≤ 127) (hb : -128 ≤ b ∧ b ≤ 127) (hs : SlcArg W v n cap 3 f) (hk : ∀ i, i < n → RowK [.i .i8, .i .i8, .f .f32] (f i))  :
    Calls Try.prog 9 #[.agg #[.int .i8 a, .int .i8 b, v], .float .f32 least, .int .i64 many] W fun e w' => e = .returned (.bool true) ∧ Below W.heap.size W w' := by
  obtain ⟨us, hf, hsm⟩ := win_rows hk
  rcases hs with ⟨rfl, rfl, rfl⟩ | ⟨bb, off, rfl, hh⟩
  · exact (FnExactPlaceDesksN_cv ⟨a, b⟩ us ⟨ha, hb⟩ least many).law W
  · have := (FnExactPlaceDesksS_cv ⟨a, b⟩ us n cap f hf hh.le (Nat.le_trans hh.le hh.top) ⟨ha, hb⟩ hsm least many).lawH (hh.holds) (fun l => by cases l <;> rfl)
    simpa [denL, den, FV.val] using this
end Go.Proofs.Ytgepaaakleomeab.Vx
