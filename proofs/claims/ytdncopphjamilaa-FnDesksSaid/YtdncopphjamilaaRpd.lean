/- Rooms, in the abstract: desks that are placed: both sides. -/
import Derived.Test.YtdncopphjamilaaRq
namespace Go.Proofs.Ytdncopphjamilaa.Vx
open Go Go.RowKit Fl
set_option maxRecDepth 100000
set_option maxHeartbeats 2000000
set_option linter.unusedSimpArgs false
set_option linter.unusedVariables false

/-- The first so many tiles that are lit well enough. -/
def litT (r : Rom) (us : Nat → Win) (n least : Nat) : Nat → List (Int × Int)
  | 0 => []
  | k + 1 => if fle least (litF r us (tlN (tilesL r) k) n) then litT r us n least k ++ [tlN (tilesL r) k] else litT r us n least k
theorem litT_len (r : Rom) (us : Nat → Win) (n least : Nat) : ∀ k, (litT r us n least k).length ≤ k
  | 0 => Nat.le_refl 0
  | k + 1 => by
    have := litT_len r us n least k
    rw [litT]; split
    · rw [List.length_append, List.length_singleton]; omega
    · omega
theorem litT_in {r : Rom} (hr : r.sz) (us : Nat → Win) (n least : Nat) : ∀ k, k ≤ (tilesL r).length → ∀ p ∈ litT r us n least k, inR p
  | 0, _, p, h => by cases h
  | k + 1, hk, p, h => by
    rw [litT] at h
    split at h
    · rcases List.mem_append.1 h with h | h
      · exact litT_in hr us n least k (by omega) p h
      · rw [List.mem_singleton] at h; subst h; exact tl_in hr (by omega)
    · exact litT_in hr us n least k (by omega) p h
def plO (r : Rom) (us : Nat → Win) (n least : Nat) (many : Int) : Option (List (Int × Int)) := plc (litT r us n least (tilesL r).length) many.toNat []
def plC (r : Rom) (us : Nat → Win) (n least : Nat) (many : Int) : Int := askC (vRoom r us n) (feq least least && inn many 0 5)
def plT (r : Rom) (us : Nat → Win) (n least : Nat) (many : Int) : List (Int × Int) := if plC r us n least many = 0 then (plO r us n least many).getD [] else []
def plK (r : Rom) (us : Nat → Win) (n least : Nat) (many : Int) : Int := if plC r us n least many = 0 then (if (plO r us n least many).isSome then 0 else 6) else plC r us n least many
theorem pl_asked {r : Rom} {us : Nat → Win} {n least : Nat} {many : Int} (ha : plC r us n least many = 0) : r.sz ∧ n ≤ 12 ∧ allW r us n = true ∧ feq least least = true ∧ inn many 0 5 = true := by
  obtain ⟨h1, h2, h3, h4⟩ := room_asked ha
  rw [Bool.and_eq_true] at h4
  exact ⟨h1, h2, h3, h4⟩
theorem PlaceDesksE_cv (r : Rom) (us : Nat → Win) (least : Nat) (many : Int) (n cap : Nat) (f : Nat → List FV) (H : RomH r us n cap f) (ha : plC r us n least many ≠ 0) :
    CV Try.prog 43 [romV r n cap, .f (.flt .f32 least), .f (.int .i64 many)] [.rows n cap 3 f false] (fun v h => v = .tup [.f .nils, .f (.int .i64 (plC r us n least many))] ∧ h = [.rows n cap 3 f false]) := by
  unfold plC at *
  cases hfe : feq least least
  · rw [hfe, Bool.false_and] at ha
    have hd : decide (askC (vRoom r us n) false = 0) = false := decide_eq_false ha
    refine cv_of_run 1000 sc43 sb43 51 [.tmp 6, .tmp 7] tabOk (by kernel_rfl) Try.func43 rfl (by kernel_rfl) Try.ntmps43 rfl (by simp) rfl (by simp [bdL, SV.bd]) ?_
    simp (config := { maxSteps := 1000000 }) (disch := omega) only [go_sem, Int.reduceToNat, ↓reduceIte, Nat.reduceLT, Nat.reduceEqDiff, Nat.reduceAdd, Nat.reduceMul, Nat.reduceSub, Nat.reduceBEq, Nat.reduceLeDiff, reduceCtorEq, Nat.reduceLT, ↓Br_true, ↓Br_false, bind, pure, sc43, sb43, hfe]
    repeat' (first | (with_reducible refine And.intro (by first | (unfold SOk; kernel_rfl) | (unfold SBOk; kernel_rfl) | (with_reducible assumption) | omega | assumption) ?_) | (with_reducible refine Br_intro (fun hc => ?_) (fun hc => ?_)) | ((first | (refine callR (by rfl) (by rfl) (by rfl) (rwithin_cv _ _ _) ?_; rintro _ _ ⟨rfl, rfl⟩) | (refine callM (by rfl) (by rfl) (by rfl) (rwithin_cv _ _ _) ?_; rintro _ _ ⟨rfl, rfl⟩) | (refine callMo (by rfl) (by rfl) (by rfl) (rwithin_cv _ _ _) ?_; rintro _ _ ⟨rfl, rfl⟩) | (refine callE (by rfl) (rwithin_cv _ _ _) (by rfl) ?_)); simp (config := { maxSteps := 1000000 }) (disch := omega) only [go_sem, Int.reduceToNat, ↓reduceIte, Nat.reduceLT, Nat.reduceEqDiff, Nat.reduceAdd, Nat.reduceMul, Nat.reduceSub, Nat.reduceBEq, Nat.reduceLeDiff, reduceCtorEq, Nat.reduceLT, ↓Br_true, ↓Br_false, bind, pure, sc43, sb43, hfe, hd]) | ((first | (refine callR (by rfl) (by rfl) (by rfl) (roomCode_cv r us n cap f _ H) ?_; rintro _ _ ⟨rfl, rfl⟩) | (refine callM (by rfl) (by rfl) (by rfl) (roomCode_cv r us n cap f _ H) ?_; rintro _ _ ⟨rfl, rfl⟩) | (refine callMo (by rfl) (by rfl) (by rfl) (roomCode_cv r us n cap f _ H) ?_; rintro _ _ ⟨rfl, rfl⟩) | (refine callE (by rfl) (roomCode_cv r us n cap f _ H) (by rfl) ?_)); simp (config := { maxSteps := 1000000 }) (disch := omega) only [go_sem, Int.reduceToNat, ↓reduceIte, Nat.reduceLT, Nat.reduceEqDiff, Nat.reduceAdd, Nat.reduceMul, Nat.reduceSub, Nat.reduceBEq, Nat.reduceLeDiff, reduceCtorEq, Nat.reduceLT, ↓Br_true, ↓Br_false, bind, pure, sc43, sb43, hfe, hd]) | ((with_reducible show WidN _ _ _ _ _ _ _ _); (first | refine widL (by decide) (by with_reducible assumption) ?_ | refine widL (by decide) (FWok_nn (by with_reducible assumption)) ?_ | refine widN (by decide) (fun c hc => ?_)); simp (config := { maxSteps := 1000000 }) (disch := omega) only [go_sem, Int.reduceToNat, ↓reduceIte, Nat.reduceLT, Nat.reduceEqDiff, Nat.reduceAdd, Nat.reduceMul, Nat.reduceSub, Nat.reduceBEq, Nat.reduceLeDiff, reduceCtorEq, Nat.reduceLT, ↓Br_true, ↓Br_false, bind, pure, sc43, sb43, hfe, hd]))
    all_goals simp [hfe]
  · rw [hfe, Bool.true_and] at ha
    have hd : decide (askC (vRoom r us n) (inn many 0 5) = 0) = false := decide_eq_false ha
    refine cv_of_run 1000 sc43 sb43 51 [.tmp 6, .tmp 7] tabOk (by kernel_rfl) Try.func43 rfl (by kernel_rfl) Try.ntmps43 rfl (by simp) rfl (by simp [bdL, SV.bd]) ?_
    simp (config := { maxSteps := 1000000 }) (disch := omega) only [go_sem, Int.reduceToNat, ↓reduceIte, Nat.reduceLT, Nat.reduceEqDiff, Nat.reduceAdd, Nat.reduceMul, Nat.reduceSub, Nat.reduceBEq, Nat.reduceLeDiff, reduceCtorEq, Nat.reduceLT, ↓Br_true, ↓Br_false, bind, pure, sc43, sb43, hfe]
    repeat' (first | (with_reducible refine And.intro (by first | (unfold SOk; kernel_rfl) | (unfold SBOk; kernel_rfl) | (with_reducible assumption) | omega | assumption) ?_) | (with_reducible refine Br_intro (fun hc => ?_) (fun hc => ?_)) | ((first | (refine callR (by rfl) (by rfl) (by rfl) (rwithin_cv _ _ _) ?_; rintro _ _ ⟨rfl, rfl⟩) | (refine callM (by rfl) (by rfl) (by rfl) (rwithin_cv _ _ _) ?_; rintro _ _ ⟨rfl, rfl⟩) | (refine callMo (by rfl) (by rfl) (by rfl) (rwithin_cv _ _ _) ?_; rintro _ _ ⟨rfl, rfl⟩) | (refine callE (by rfl) (rwithin_cv _ _ _) (by rfl) ?_)); simp (config := { maxSteps := 1000000 }) (disch := omega) only [go_sem, Int.reduceToNat, ↓reduceIte, Nat.reduceLT, Nat.reduceEqDiff, Nat.reduceAdd, Nat.reduceMul, Nat.reduceSub, Nat.reduceBEq, Nat.reduceLeDiff, reduceCtorEq, Nat.reduceLT, ↓Br_true, ↓Br_false, bind, pure, sc43, sb43, hfe, hd]) | ((first | (refine callR (by rfl) (by rfl) (by rfl) (roomCode_cv r us n cap f _ H) ?_; rintro _ _ ⟨rfl, rfl⟩) | (refine callM (by rfl) (by rfl) (by rfl) (roomCode_cv r us n cap f _ H) ?_; rintro _ _ ⟨rfl, rfl⟩) | (refine callMo (by rfl) (by rfl) (by rfl) (roomCode_cv r us n cap f _ H) ?_; rintro _ _ ⟨rfl, rfl⟩) | (refine callE (by rfl) (roomCode_cv r us n cap f _ H) (by rfl) ?_)); simp (config := { maxSteps := 1000000 }) (disch := omega) only [go_sem, Int.reduceToNat, ↓reduceIte, Nat.reduceLT, Nat.reduceEqDiff, Nat.reduceAdd, Nat.reduceMul, Nat.reduceSub, Nat.reduceBEq, Nat.reduceLeDiff, reduceCtorEq, Nat.reduceLT, ↓Br_true, ↓Br_false, bind, pure, sc43, sb43, hfe, hd]) | ((with_reducible show WidN _ _ _ _ _ _ _ _); (first | refine widL (by decide) (by with_reducible assumption) ?_ | refine widL (by decide) (FWok_nn (by with_reducible assumption)) ?_ | refine widN (by decide) (fun c hc => ?_)); simp (config := { maxSteps := 1000000 }) (disch := omega) only [go_sem, Int.reduceToNat, ↓reduceIte, Nat.reduceLT, Nat.reduceEqDiff, Nat.reduceAdd, Nat.reduceMul, Nat.reduceSub, Nat.reduceBEq, Nat.reduceLeDiff, reduceCtorEq, Nat.reduceLT, ↓Br_true, ↓Br_false, bind, pure, sc43, sb43, hfe, hd]))
    all_goals simp [hfe]
theorem sPlaceDesksE_cv (r : Rom) (us : Nat → Win) (least : Nat) (many : Int) (n cap : Nat) (f : Nat → List FV) (H : RomH r us n cap f) (ha : plC r us n least many ≠ 0) :
    CV Try.prog 44 [romV r n cap, .f (.flt .f32 least), .f (.int .i64 many)] [.rows n cap 3 f false] (fun v h => v = .tup [.slc 1 0 0 0, .f (.int .i64 (plC r us n least many))] ∧ h = [.rows n cap 3 f false, .rows 0 0 2 noRow true]) := by
  unfold plC at *
  cases hfe : feq least least
  · rw [hfe, Bool.false_and] at ha
    have hd : decide (askC (vRoom r us n) false = 0) = false := decide_eq_false ha
    refine cv_of_run 1000 sc44 sb44 58 [.tmp 6, .tmp 7] tabOk (by kernel_rfl) Try.func44 rfl (by kernel_rfl) Try.ntmps44 rfl (by simp) rfl (by simp [bdL, SV.bd]) ?_
    simp (config := { maxSteps := 1000000 }) (disch := omega) only [go_sem, Int.reduceToNat, ↓reduceIte, Nat.reduceLT, Nat.reduceEqDiff, Nat.reduceAdd, Nat.reduceMul, Nat.reduceSub, Nat.reduceBEq, Nat.reduceLeDiff, reduceCtorEq, Nat.reduceLT, ↓Br_true, ↓Br_false, bind, pure, sc44, sb44, hfe]
    repeat' (first | (with_reducible refine And.intro (by first | (unfold SOk; kernel_rfl) | (unfold SBOk; kernel_rfl) | (with_reducible assumption) | omega | assumption) ?_) | (with_reducible refine Br_intro (fun hc => ?_) (fun hc => ?_)) | ((first | (refine callR (by rfl) (by rfl) (by rfl) (l03NotNan_cv _) ?_; rintro _ _ ⟨rfl, rfl⟩) | (refine callM (by rfl) (by rfl) (by rfl) (l03NotNan_cv _) ?_; rintro _ _ ⟨rfl, rfl⟩) | (refine callMo (by rfl) (by rfl) (by rfl) (l03NotNan_cv _) ?_; rintro _ _ ⟨rfl, rfl⟩) | (refine callE (by rfl) (l03NotNan_cv _) (by rfl) ?_)); simp (config := { maxSteps := 1000000 }) (disch := omega) only [go_sem, Int.reduceToNat, ↓reduceIte, Nat.reduceLT, Nat.reduceEqDiff, Nat.reduceAdd, Nat.reduceMul, Nat.reduceSub, Nat.reduceBEq, Nat.reduceLeDiff, reduceCtorEq, Nat.reduceLT, ↓Br_true, ↓Br_false, bind, pure, sc44, sb44, hfe, hd]) | ((first | (refine callR (by rfl) (by rfl) (by rfl) (rl00In_cv _ _ _) ?_; rintro _ _ ⟨rfl, rfl⟩) | (refine callM (by rfl) (by rfl) (by rfl) (rl00In_cv _ _ _) ?_; rintro _ _ ⟨rfl, rfl⟩) | (refine callMo (by rfl) (by rfl) (by rfl) (rl00In_cv _ _ _) ?_; rintro _ _ ⟨rfl, rfl⟩) | (refine callE (by rfl) (rl00In_cv _ _ _) (by rfl) ?_)); simp (config := { maxSteps := 1000000 }) (disch := omega) only [go_sem, Int.reduceToNat, ↓reduceIte, Nat.reduceLT, Nat.reduceEqDiff, Nat.reduceAdd, Nat.reduceMul, Nat.reduceSub, Nat.reduceBEq, Nat.reduceLeDiff, reduceCtorEq, Nat.reduceLT, ↓Br_true, ↓Br_false, bind, pure, sc44, sb44, hfe, hd]) | ((first | (refine callR (by rfl) (by rfl) (by rfl) (l03Asked_cv r us n cap f _ H) ?_; rintro _ _ ⟨rfl, rfl⟩) | (refine callM (by rfl) (by rfl) (by rfl) (l03Asked_cv r us n cap f _ H) ?_; rintro _ _ ⟨rfl, rfl⟩) | (refine callMo (by rfl) (by rfl) (by rfl) (l03Asked_cv r us n cap f _ H) ?_; rintro _ _ ⟨rfl, rfl⟩) | (refine callE (by rfl) (l03Asked_cv r us n cap f _ H) (by rfl) ?_)); simp (config := { maxSteps := 1000000 }) (disch := omega) only [go_sem, Int.reduceToNat, ↓reduceIte, Nat.reduceLT, Nat.reduceEqDiff, Nat.reduceAdd, Nat.reduceMul, Nat.reduceSub, Nat.reduceBEq, Nat.reduceLeDiff, reduceCtorEq, Nat.reduceLT, ↓Br_true, ↓Br_false, bind, pure, sc44, sb44, hfe, hd]) | ((with_reducible show WidN _ _ _ _ _ _ _ _); (first | refine widL (by decide) (by with_reducible assumption) ?_ | refine widL (by decide) (FWok_nn (by with_reducible assumption)) ?_ | refine widN (by decide) (fun c hc => ?_)); simp (config := { maxSteps := 1000000 }) (disch := omega) only [go_sem, Int.reduceToNat, ↓reduceIte, Nat.reduceLT, Nat.reduceEqDiff, Nat.reduceAdd, Nat.reduceMul, Nat.reduceSub, Nat.reduceBEq, Nat.reduceLeDiff, reduceCtorEq, Nat.reduceLT, ↓Br_true, ↓Br_false, bind, pure, sc44, sb44, hfe, hd]))
    all_goals simp [hfe]
  · rw [hfe, Bool.true_and] at ha
    have hd : decide (askC (vRoom r us n) (inn many 0 5) = 0) = false := decide_eq_false ha
    refine cv_of_run 1000 sc44 sb44 58 [.tmp 6, .tmp 7] tabOk (by kernel_rfl) Try.func44 rfl (by kernel_rfl) Try.ntmps44 rfl (by simp) rfl (by simp [bdL, SV.bd]) ?_
    simp (config := { maxSteps := 1000000 }) (disch := omega) only [go_sem, Int.reduceToNat, ↓reduceIte, Nat.reduceLT, Nat.reduceEqDiff, Nat.reduceAdd, Nat.reduceMul, Nat.reduceSub, Nat.reduceBEq, Nat.reduceLeDiff, reduceCtorEq, Nat.reduceLT, ↓Br_true, ↓Br_false, bind, pure, sc44, sb44, hfe]
    repeat' (first | (with_reducible refine And.intro (by first | (unfold SOk; kernel_rfl) | (unfold SBOk; kernel_rfl) | (with_reducible assumption) | omega | assumption) ?_) | (with_reducible refine Br_intro (fun hc => ?_) (fun hc => ?_)) | ((first | (refine callR (by rfl) (by rfl) (by rfl) (l03NotNan_cv _) ?_; rintro _ _ ⟨rfl, rfl⟩) | (refine callM (by rfl) (by rfl) (by rfl) (l03NotNan_cv _) ?_; rintro _ _ ⟨rfl, rfl⟩) | (refine callMo (by rfl) (by rfl) (by rfl) (l03NotNan_cv _) ?_; rintro _ _ ⟨rfl, rfl⟩) | (refine callE (by rfl) (l03NotNan_cv _) (by rfl) ?_)); simp (config := { maxSteps := 1000000 }) (disch := omega) only [go_sem, Int.reduceToNat, ↓reduceIte, Nat.reduceLT, Nat.reduceEqDiff, Nat.reduceAdd, Nat.reduceMul, Nat.reduceSub, Nat.reduceBEq, Nat.reduceLeDiff, reduceCtorEq, Nat.reduceLT, ↓Br_true, ↓Br_false, bind, pure, sc44, sb44, hfe, hd]) | ((first | (refine callR (by rfl) (by rfl) (by rfl) (rl00In_cv _ _ _) ?_; rintro _ _ ⟨rfl, rfl⟩) | (refine callM (by rfl) (by rfl) (by rfl) (rl00In_cv _ _ _) ?_; rintro _ _ ⟨rfl, rfl⟩) | (refine callMo (by rfl) (by rfl) (by rfl) (rl00In_cv _ _ _) ?_; rintro _ _ ⟨rfl, rfl⟩) | (refine callE (by rfl) (rl00In_cv _ _ _) (by rfl) ?_)); simp (config := { maxSteps := 1000000 }) (disch := omega) only [go_sem, Int.reduceToNat, ↓reduceIte, Nat.reduceLT, Nat.reduceEqDiff, Nat.reduceAdd, Nat.reduceMul, Nat.reduceSub, Nat.reduceBEq, Nat.reduceLeDiff, reduceCtorEq, Nat.reduceLT, ↓Br_true, ↓Br_false, bind, pure, sc44, sb44, hfe, hd]) | ((first | (refine callR (by rfl) (by rfl) (by rfl) (l03Asked_cv r us n cap f _ H) ?_; rintro _ _ ⟨rfl, rfl⟩) | (refine callM (by rfl) (by rfl) (by rfl) (l03Asked_cv r us n cap f _ H) ?_; rintro _ _ ⟨rfl, rfl⟩) | (refine callMo (by rfl) (by rfl) (by rfl) (l03Asked_cv r us n cap f _ H) ?_; rintro _ _ ⟨rfl, rfl⟩) | (refine callE (by rfl) (l03Asked_cv r us n cap f _ H) (by rfl) ?_)); simp (config := { maxSteps := 1000000 }) (disch := omega) only [go_sem, Int.reduceToNat, ↓reduceIte, Nat.reduceLT, Nat.reduceEqDiff, Nat.reduceAdd, Nat.reduceMul, Nat.reduceSub, Nat.reduceBEq, Nat.reduceLeDiff, reduceCtorEq, Nat.reduceLT, ↓Br_true, ↓Br_false, bind, pure, sc44, sb44, hfe, hd]) | ((with_reducible show WidN _ _ _ _ _ _ _ _); (first | refine widL (by decide) (by with_reducible assumption) ?_ | refine widL (by decide) (FWok_nn (by with_reducible assumption)) ?_ | refine widN (by decide) (fun c hc => ?_)); simp (config := { maxSteps := 1000000 }) (disch := omega) only [go_sem, Int.reduceToNat, ↓reduceIte, Nat.reduceLT, Nat.reduceEqDiff, Nat.reduceAdd, Nat.reduceMul, Nat.reduceSub, Nat.reduceBEq, Nat.reduceLeDiff, reduceCtorEq, Nat.reduceLT, ↓Br_true, ↓Br_false, bind, pure, sc44, sb44, hfe, hd]))
    all_goals simp [hfe]
def plV (o : Option (List (Int × Int))) (B : List Blk) (v : SV) (h : List Blk) : Prop :=
  match o with
  | none => v = .tup [.f .nils, .f (.int .i64 6)] ∧ h = B
  | some out => if out = [] then v = .tup [.f .nils, .f (.int .i64 0)] ∧ h = B else ∃ cap' g, TilAt out g ∧ out.length ≤ cap' ∧ v = .tup [.slc 1 0 out.length cap', .f (.int .i64 0)] ∧ h = B ++ [.rows out.length cap' 2 g true]
theorem PlaceDesksG_cv (r : Rom) (us : Nat → Win) (least : Nat) (many : Int) (n cap : Nat) (f : Nat → List FV) (H : RomH r us n cap f) (ha : plC r us n least many = 0) :
    CV Try.prog 43 [romV r n cap, .f (.flt .f32 least), .f (.int .i64 many)] [.rows n cap 3 f false] (plV (plO r us n least many) [.rows n cap 3 f false]) := by
  have hcap := H.hcap
  obtain ⟨hz, h12, hw, hfe, hin⟩ := pl_asked ha
  have hd : decide (askC (vRoom r us n) (inn many 0 5) = 0) = true := by
    unfold plC at ha
    rw [hfe, Bool.true_and] at ha
    exact decide_eq_true ha
  have hle := tilesL_le hz
  have tin := fun k hk => tl_in hz (k := k) hk
  have hm := hin
  simp only [inn_true] at hm
  obtain ⟨m, rfl⟩ : ∃ m : Nat, many = m := ⟨many.toNat, by omega⟩
  have eO : plO r us n least m = plc (litT r us n least (tilesL r).length) m [] := by rw [plO, Int.toNat_natCast]
  have hlin := litT_in hz us n least
  have hll := litT_len r us n least
  rw [eO]
  refine cv_of_run 1000 sc43 sb43 51 [.tmp 6, .tmp 7] tabOk (by kernel_rfl) Try.func43 rfl (by kernel_rfl) Try.ntmps43 rfl (by simp) rfl (by simp [bdL, SV.bd]) ?_
  simp (config := { maxSteps := 1000000 }) (disch := omega) only [go_sem, Int.reduceToNat, ↓reduceIte, Nat.reduceLT, Nat.reduceEqDiff, Nat.reduceAdd, Nat.reduceMul, Nat.reduceSub, Nat.reduceBEq, Nat.reduceLeDiff, reduceCtorEq, Nat.reduceLT, ↓Br_true, ↓Br_false, bind, pure, sc43, sb43, hfe]
  repeat' (first | (with_reducible refine And.intro (by first | (unfold SOk; kernel_rfl) | (unfold SBOk; kernel_rfl) | (with_reducible assumption) | omega | assumption) ?_) | (with_reducible refine Br_intro (fun hc => ?_) (fun hc => ?_)) | ((first | (refine callR (by rfl) (by rfl) (by rfl) (rwithin_cv _ _ _) ?_; rintro _ _ ⟨rfl, rfl⟩) | (refine callM (by rfl) (by rfl) (by rfl) (rwithin_cv _ _ _) ?_; rintro _ _ ⟨rfl, rfl⟩) | (refine callMo (by rfl) (by rfl) (by rfl) (rwithin_cv _ _ _) ?_; rintro _ _ ⟨rfl, rfl⟩) | (refine callE (by rfl) (rwithin_cv _ _ _) (by rfl) ?_)); simp (config := { maxSteps := 1000000 }) (disch := omega) only [go_sem, Int.reduceToNat, ↓reduceIte, Nat.reduceLT, Nat.reduceEqDiff, Nat.reduceAdd, Nat.reduceMul, Nat.reduceSub, Nat.reduceBEq, Nat.reduceLeDiff, reduceCtorEq, Nat.reduceLT, ↓Br_true, ↓Br_false, bind, pure, sc43, sb43, hfe, hd]) | ((first | (refine callR (by rfl) (by rfl) (by rfl) (roomCode_cv r us n cap f _ H) ?_; rintro _ _ ⟨rfl, rfl⟩) | (refine callM (by rfl) (by rfl) (by rfl) (roomCode_cv r us n cap f _ H) ?_; rintro _ _ ⟨rfl, rfl⟩) | (refine callMo (by rfl) (by rfl) (by rfl) (roomCode_cv r us n cap f _ H) ?_; rintro _ _ ⟨rfl, rfl⟩) | (refine callE (by rfl) (roomCode_cv r us n cap f _ H) (by rfl) ?_)); simp (config := { maxSteps := 1000000 }) (disch := omega) only [go_sem, Int.reduceToNat, ↓reduceIte, Nat.reduceLT, Nat.reduceEqDiff, Nat.reduceAdd, Nat.reduceMul, Nat.reduceSub, Nat.reduceBEq, Nat.reduceLeDiff, reduceCtorEq, Nat.reduceLT, ↓Br_true, ↓Br_false, bind, pure, sc43, sb43, hfe, hd]) | ((with_reducible show WidN _ _ _ _ _ _ _ _); (first | refine widL (by decide) (by with_reducible assumption) ?_ | refine widL (by decide) (FWok_nn (by with_reducible assumption)) ?_ | refine widN (by decide) (fun c hc => ?_)); simp (config := { maxSteps := 1000000 }) (disch := omega) only [go_sem, Int.reduceToNat, ↓reduceIte, Nat.reduceLT, Nat.reduceEqDiff, Nat.reduceAdd, Nat.reduceMul, Nat.reduceSub, Nat.reduceBEq, Nat.reduceLeDiff, reduceCtorEq, Nat.reduceLT, ↓Br_true, ↓Br_false, bind, pure, sc43, sb43, hfe, hd]))
  have cc := tiles_cv r n cap f hz hcap; (first | refine callR (by rfl) (by rfl) (by rfl) cc ?_ | refine callM (by rfl) (by rfl) (by rfl) cc ?_ | refine callMo (by rfl) (by rfl) (by rfl) cc ?_ | refine callG (by rfl) (by rfl) (by rfl) cc ?_ | refine callW (by rfl) (by first | rfl | (simp [ofL, kpB, kpR, ofB, isOwnB, isDead, inL, hget]; done)) (by rfl) (by rfl) cc ?_); clear cc; rintro _ _ ⟨capt, gt, hgt, hcapt, rfl, rfl⟩
  simp (config := { maxSteps := 1000000 }) (disch := omega) only [go_sem, Int.reduceToNat, ↓reduceIte, Nat.reduceLT, Nat.reduceEqDiff, Nat.reduceAdd, Nat.reduceMul, Nat.reduceSub, Nat.reduceBEq, Nat.reduceLeDiff, reduceCtorEq, Nat.reduceLT, ↓Br_true, ↓Br_false, bind, pure, sc43, sb43]
  have eS := fun k => show litT r us n least (k + 1) = if fle least (litF r us (tlN (tilesL r) k) n) then litT r us n least k ++ [tlN (tilesL r) k] else litT r us n least k from rfl
  have hN0 : litT r us n least 0 = [] := rfl
  generalize tilesL r = T at *
  generalize hN : litT r us n least = N at *
  refine ⟨(Nat × Nat × (Nat → List FV)), fun s => s.1 ≤ T.length ∧ (N s.1).length ≤ s.2.1 ∧ TilAt (N s.1) s.2.2, fun s => T.length - s.1, fun s => [(1, .f (.flt .f32 least)), (2, .f (.int .i64 m)), (3, .ptr 1 0 0), (6, .f .nils), (7, .f (.int .i64 0)), (9, .slc 2 0 (N s.1).length s.2.1), (27, .slc 3 0 T.length capt), (28, .f (.int .i64 T.length)), (29, .f (.int .i64 s.1))], fun s => [.rows n cap 3 f false, .lit [.f (.int .i8 r.wi), .f (.int .i8 r.hi), .slc 0 0 n cap] true, .rows (N s.1).length s.2.1 2 s.2.2 true, .rows T.length capt 2 gt true], (0, 0, noRow), (by intro _; simp), ?_, (by (try refine Or.inl ?_); simp [Cov, covE, covH, cb_dead, cb_lit, cb_rows, cb_cells, cd_lit, cd_rows, cd_cells, cd_dead, covRow, look, SV.known, SV.bd, bdL, hN0, hcap, hcapt] <;> omega), ?_⟩
  · exact ⟨by omega, by rw [hN0]; exact Nat.le_refl _, by rw [hN0]; exact fun i hi => by simp at hi⟩
  · rintro ⟨k, cap1, f1⟩ ⟨hk, hc1, hI⟩
    simp only at hk hc1 hI
    by_cases hlt : k < T.length
    · have hd : decide ((k : Int) < T.length) = true := decide_eq_true (by omega)
      have e1 := hgt k hlt
      have hin1 := tin k hlt
      have hlk := hll k
      simp (config := { maxSteps := 1000000 }) (disch := omega) only [go_sem, Int.reduceToNat, ↓reduceIte, Nat.reduceLT, Nat.reduceEqDiff, Nat.reduceAdd, Nat.reduceMul, Nat.reduceSub, Nat.reduceBEq, Nat.reduceLeDiff, reduceCtorEq, Nat.reduceLT, ↓Br_true, ↓Br_false, bind, pure, sc43, sb43, hd, e1]
      repeat' (first | (with_reducible refine And.intro (by first | (unfold SOk; kernel_rfl) | (unfold SBOk; kernel_rfl) | (with_reducible assumption) | omega | assumption) ?_) | (with_reducible refine Br_intro (fun hc => ?_) (fun hc => ?_)) | ((have cc := light_cv r us (tlN T k) n cap f H.hf hcap H.hn hz hw hin1; (first | ((first | refine callR (by rfl) (by rfl) (by rfl) cc ?_ | refine callM (by rfl) (by rfl) (by rfl) cc ?_ | refine callMo (by rfl) (by rfl) (by rfl) cc ?_); clear cc; rintro _ _ ⟨rfl, rfl⟩) | (refine callE (by rfl) cc (by rfl) ?_; clear cc))); simp (config := { maxSteps := 1000000 }) (disch := omega) only [go_sem, Int.reduceToNat, ↓reduceIte, Nat.reduceLT, Nat.reduceEqDiff, Nat.reduceAdd, Nat.reduceMul, Nat.reduceSub, Nat.reduceBEq, Nat.reduceLeDiff, reduceCtorEq, Nat.reduceLT, ↓Br_true, ↓Br_false, bind, pure, sc43, sb43, hd, e1]) | ((with_reducible show WidN _ _ _ _ _ _ _ _); (first | refine widL (by decide) (by with_reducible assumption) ?_ | refine widL (by decide) (FWok_nn (by with_reducible assumption)) ?_ | refine widN (by decide) (fun c hc => ?_)); simp (config := { maxSteps := 1000000 }) (disch := omega) only [go_sem, Int.reduceToNat, ↓reduceIte, Nat.reduceLT, Nat.reduceEqDiff, Nat.reduceAdd, Nat.reduceMul, Nat.reduceSub, Nat.reduceBEq, Nat.reduceLeDiff, reduceCtorEq, Nat.reduceLT, ↓Br_true, ↓Br_false, bind, pure, sc43, sb43, hd, e1]))
      · have en := eS k
        rw [if_pos hc] at en
        refine Or.inr (Or.inl ⟨⟨rfl, Nat.le_refl _⟩, fun cap' hcap' => ?_⟩)
        simp (config := { maxSteps := 1000000 }) (disch := omega) only [go_sem, Int.reduceToNat, ↓reduceIte, Nat.reduceLT, Nat.reduceEqDiff, Nat.reduceAdd, Nat.reduceMul, Nat.reduceSub, Nat.reduceBEq, Nat.reduceLeDiff, reduceCtorEq, Nat.reduceLT, ↓Br_true, ↓Br_false, bind, pure, sc43, sb43]
        refine ⟨(k + 1, cap', catR f1 (N k).length (shR (nthR [ [.int .i8 (tlN T k).1, .int .i8 (tlN T k).2] ]) 0)), ⟨by omega, ?_, ?_⟩, by omega, ?_⟩
        · rw [en]; simpa using hcap'
        · rw [en]; exact hI.push _
        · have el : (N k ++ [tlN T k]).length = (N k).length + 1 := by simp
          simp only [en]
          refine Or.inr ⟨[0, 1, 6, 3], by rfl, ?_⟩; simp [Cov, covE, covH, cb_dead, cb_lit, cb_rows, cb_cells, cd_lit, cd_rows, cd_cells, cd_dead, covRow, look, SV.known, SV.bd, bdL, locE, locV, locH, hget, SV.lin, inL, SV.ren, idx, bk_ren_lit, bk_ren_rows, bk_ren_cells, renL, hcap', el, hcap, hcapt] <;> omega
      · have en := eS k
        rw [if_neg (by rw [hc]; simp)] at en
        exact ⟨(k + 1, cap1, f1), ⟨by omega, by rw [en]; exact hc1, by rw [en]; exact hI⟩, by omega, by (try refine Or.inl ?_); simp [Cov, covE, covH, cb_dead, cb_lit, cb_rows, cb_cells, cd_lit, cd_rows, cd_cells, cd_dead, covRow, look, SV.known, SV.bd, bdL, en, hcap, hcapt, hc1] <;> omega⟩
    · have hd : decide ((k : Int) < T.length) = false := decide_eq_false (by omega)
      obtain rfl : k = T.length := by omega
      have hlk := hll T.length
      have HL : Part (N T.length) 0 (N T.length).length cap1 (N T.length).length cap1 f1 := ⟨rfl, fun i hi => by rw [Nat.zero_add]; exact hI i hi, by omega, hc1, by omega, hc1, by omega, fun i hi => hlin _ (Nat.le_refl _) _ (tlN_mem hi)⟩
      simp (config := { maxSteps := 1000000 }) (disch := omega) only [go_sem, Int.reduceToNat, ↓reduceIte, Nat.reduceLT, Nat.reduceEqDiff, Nat.reduceAdd, Nat.reduceMul, Nat.reduceSub, Nat.reduceBEq, Nat.reduceLeDiff, reduceCtorEq, Nat.reduceLT, ↓Br_true, ↓Br_false, bind, pure, sc43, sb43, hd]
      rcases m with _ | m
      · rw [plc_zero]
        (first | (refine callR (by rfl) (by rfl) (by rfl) (placedN0_cv _ _ _ _ _ _) ?_; rintro _ _ ⟨rfl, rfl⟩) | (refine callM (by rfl) (by rfl) (by rfl) (placedN0_cv _ _ _ _ _ _) ?_; rintro _ _ ⟨rfl, rfl⟩) | (refine callMo (by rfl) (by rfl) (by rfl) (placedN0_cv _ _ _ _ _ _) ?_; rintro _ _ ⟨rfl, rfl⟩) | (refine callE (by rfl) (placedN0_cv _ _ _ _ _ _) (by rfl) ?_))
        simp (config := { maxSteps := 1000000 }) (disch := omega) only [go_sem, Int.reduceToNat, ↓reduceIte, Nat.reduceLT, Nat.reduceEqDiff, Nat.reduceAdd, Nat.reduceMul, Nat.reduceSub, Nat.reduceBEq, Nat.reduceLeDiff, reduceCtorEq, Nat.reduceLT, ↓Br_true, ↓Br_false, bind, pure, sc43, sb43]
        exact ⟨rfl, rfl⟩
      · have cv := placedN_cv m _ _ _ _ _ _ _ HL (by omega)
        cases hq : plc (N T.length) (m + 1) [] with
        | none =>
          rw [hq] at cv
          (have cc := cv; (first | ((first | refine callR (by rfl) (by rfl) (by rfl) cc ?_ | refine callM (by rfl) (by rfl) (by rfl) cc ?_ | refine callMo (by rfl) (by rfl) (by rfl) cc ?_); clear cc; rintro _ _ ⟨rfl, rfl⟩) | (refine callE (by rfl) cc (by rfl) ?_; clear cc)))
          simp (config := { maxSteps := 1000000 }) (disch := omega) only [go_sem, Int.reduceToNat, ↓reduceIte, Nat.reduceLT, Nat.reduceEqDiff, Nat.reduceAdd, Nat.reduceMul, Nat.reduceSub, Nat.reduceBEq, Nat.reduceLeDiff, reduceCtorEq, Nat.reduceLT, ↓Br_true, ↓Br_false, bind, pure, sc43, sb43]
          exact ⟨rfl, rfl⟩
        | some out =>
          rw [hq] at cv
          have hl := plc_len hq
          have hne : out ≠ [] := fun c => by rw [c] at hl; simp at hl
          have cc := cv; (first | refine callR (by rfl) (by rfl) (by rfl) cc ?_ | refine callM (by rfl) (by rfl) (by rfl) cc ?_ | refine callMo (by rfl) (by rfl) (by rfl) cc ?_ | refine callG (by rfl) (by rfl) (by rfl) cc ?_ | refine callW (by rfl) (by first | rfl | (simp [ofL, kpB, kpR, ofB, isOwnB, isDead, inL, hget]; done)) (by rfl) (by rfl) cc ?_); clear cc; rintro _ _ ⟨cap2, g2, h1, h2, rfl, rfl⟩
          simp (config := { maxSteps := 1000000 }) (disch := omega) only [go_sem, Int.reduceToNat, ↓reduceIte, Nat.reduceLT, Nat.reduceEqDiff, Nat.reduceAdd, Nat.reduceMul, Nat.reduceSub, Nat.reduceBEq, Nat.reduceLeDiff, reduceCtorEq, Nat.reduceLT, ↓Br_true, ↓Br_false, bind, pure, sc43, sb43]
          simp only [plV, if_neg hne]
          exact ⟨cap2, g2, h1, h2, rfl, rfl⟩
def spV (o : Option (List (Int × Int))) (B : List Blk) (v : SV) (h : List Blk) : Prop :=
  match o with
  | none => v = .tup [.slc 1 0 0 0, .f (.int .i64 6)] ∧ h = B ++ [.rows 0 0 2 noRow true]
  | some out => if out = [] then v = .tup [.slc 1 0 0 0, .f (.int .i64 0)] ∧ h = B ++ [.rows 0 0 2 noRow true] else ∃ cap' g, TilAt out g ∧ out.length ≤ cap' ∧ v = .tup [.slc 1 0 out.length cap', .f (.int .i64 0)] ∧ h = B ++ [.rows out.length cap' 2 g true]
theorem sPlaceDesksG_cv (r : Rom) (us : Nat → Win) (least : Nat) (many : Int) (n cap : Nat) (f : Nat → List FV) (H : RomH r us n cap f) (ha : plC r us n least many = 0) :
    CV Try.prog 44 [romV r n cap, .f (.flt .f32 least), .f (.int .i64 many)] [.rows n cap 3 f false] (spV (plO r us n least many) [.rows n cap 3 f false]) := by
  have hcap := H.hcap
  obtain ⟨hz, h12, hw, hfe, hin⟩ := pl_asked ha
  have hd : decide (askC (vRoom r us n) (inn many 0 5) = 0) = true := by
    unfold plC at ha
    rw [hfe, Bool.true_and] at ha
    exact decide_eq_true ha
  have hle := tilesL_le hz
  have tin := fun k hk => tl_in hz (k := k) hk
  have hm := hin
  simp only [inn_true] at hm
  obtain ⟨m, rfl⟩ : ∃ m : Nat, many = m := ⟨many.toNat, by omega⟩
  have eO : plO r us n least m = plc (litT r us n least (tilesL r).length) m [] := by rw [plO, Int.toNat_natCast]
  have hlin := litT_in hz us n least
  have hll := litT_len r us n least
  rw [eO]
  refine cv_of_run 1000 sc44 sb44 58 [.tmp 6, .tmp 7] tabOk (by kernel_rfl) Try.func44 rfl (by kernel_rfl) Try.ntmps44 rfl (by simp) rfl (by simp [bdL, SV.bd]) ?_
  simp (config := { maxSteps := 1000000 }) (disch := omega) only [go_sem, Int.reduceToNat, ↓reduceIte, Nat.reduceLT, Nat.reduceEqDiff, Nat.reduceAdd, Nat.reduceMul, Nat.reduceSub, Nat.reduceBEq, Nat.reduceLeDiff, reduceCtorEq, Nat.reduceLT, ↓Br_true, ↓Br_false, bind, pure, sc44, sb44, hfe]
  repeat' (first | (with_reducible refine And.intro (by first | (unfold SOk; kernel_rfl) | (unfold SBOk; kernel_rfl) | (with_reducible assumption) | omega | assumption) ?_) | (with_reducible refine Br_intro (fun hc => ?_) (fun hc => ?_)) | ((first | (refine callR (by rfl) (by rfl) (by rfl) (l03NotNan_cv _) ?_; rintro _ _ ⟨rfl, rfl⟩) | (refine callM (by rfl) (by rfl) (by rfl) (l03NotNan_cv _) ?_; rintro _ _ ⟨rfl, rfl⟩) | (refine callMo (by rfl) (by rfl) (by rfl) (l03NotNan_cv _) ?_; rintro _ _ ⟨rfl, rfl⟩) | (refine callE (by rfl) (l03NotNan_cv _) (by rfl) ?_)); simp (config := { maxSteps := 1000000 }) (disch := omega) only [go_sem, Int.reduceToNat, ↓reduceIte, Nat.reduceLT, Nat.reduceEqDiff, Nat.reduceAdd, Nat.reduceMul, Nat.reduceSub, Nat.reduceBEq, Nat.reduceLeDiff, reduceCtorEq, Nat.reduceLT, ↓Br_true, ↓Br_false, bind, pure, sc44, sb44, hfe, hd]) | ((first | (refine callR (by rfl) (by rfl) (by rfl) (rl00In_cv _ _ _) ?_; rintro _ _ ⟨rfl, rfl⟩) | (refine callM (by rfl) (by rfl) (by rfl) (rl00In_cv _ _ _) ?_; rintro _ _ ⟨rfl, rfl⟩) | (refine callMo (by rfl) (by rfl) (by rfl) (rl00In_cv _ _ _) ?_; rintro _ _ ⟨rfl, rfl⟩) | (refine callE (by rfl) (rl00In_cv _ _ _) (by rfl) ?_)); simp (config := { maxSteps := 1000000 }) (disch := omega) only [go_sem, Int.reduceToNat, ↓reduceIte, Nat.reduceLT, Nat.reduceEqDiff, Nat.reduceAdd, Nat.reduceMul, Nat.reduceSub, Nat.reduceBEq, Nat.reduceLeDiff, reduceCtorEq, Nat.reduceLT, ↓Br_true, ↓Br_false, bind, pure, sc44, sb44, hfe, hd]) | ((first | (refine callR (by rfl) (by rfl) (by rfl) (l03Asked_cv r us n cap f _ H) ?_; rintro _ _ ⟨rfl, rfl⟩) | (refine callM (by rfl) (by rfl) (by rfl) (l03Asked_cv r us n cap f _ H) ?_; rintro _ _ ⟨rfl, rfl⟩) | (refine callMo (by rfl) (by rfl) (by rfl) (l03Asked_cv r us n cap f _ H) ?_; rintro _ _ ⟨rfl, rfl⟩) | (refine callE (by rfl) (l03Asked_cv r us n cap f _ H) (by rfl) ?_)); simp (config := { maxSteps := 1000000 }) (disch := omega) only [go_sem, Int.reduceToNat, ↓reduceIte, Nat.reduceLT, Nat.reduceEqDiff, Nat.reduceAdd, Nat.reduceMul, Nat.reduceSub, Nat.reduceBEq, Nat.reduceLeDiff, reduceCtorEq, Nat.reduceLT, ↓Br_true, ↓Br_false, bind, pure, sc44, sb44, hfe, hd]) | ((with_reducible show WidN _ _ _ _ _ _ _ _); (first | refine widL (by decide) (by with_reducible assumption) ?_ | refine widL (by decide) (FWok_nn (by with_reducible assumption)) ?_ | refine widN (by decide) (fun c hc => ?_)); simp (config := { maxSteps := 1000000 }) (disch := omega) only [go_sem, Int.reduceToNat, ↓reduceIte, Nat.reduceLT, Nat.reduceEqDiff, Nat.reduceAdd, Nat.reduceMul, Nat.reduceSub, Nat.reduceBEq, Nat.reduceLeDiff, reduceCtorEq, Nat.reduceLT, ↓Br_true, ↓Br_false, bind, pure, sc44, sb44, hfe, hd]))
  have cc := l03Tiles_cv r n cap f hz hcap; (first | refine callR (by rfl) (by rfl) (by rfl) cc ?_ | refine callM (by rfl) (by rfl) (by rfl) cc ?_ | refine callMo (by rfl) (by rfl) (by rfl) cc ?_ | refine callG (by rfl) (by rfl) (by rfl) cc ?_ | refine callW (by rfl) (by first | rfl | (simp [ofL, kpB, kpR, ofB, isOwnB, isDead, inL, hget]; done)) (by rfl) (by rfl) cc ?_); clear cc; rintro _ _ ⟨capt, gt, hgt, hcapt, rfl, rfl⟩
  simp (config := { maxSteps := 1000000 }) (disch := omega) only [go_sem, Int.reduceToNat, ↓reduceIte, Nat.reduceLT, Nat.reduceEqDiff, Nat.reduceAdd, Nat.reduceMul, Nat.reduceSub, Nat.reduceBEq, Nat.reduceLeDiff, reduceCtorEq, Nat.reduceLT, ↓Br_true, ↓Br_false, bind, pure, sc44, sb44]
  have eS := fun k => show litT r us n least (k + 1) = if fle least (litF r us (tlN (tilesL r) k) n) then litT r us n least k ++ [tlN (tilesL r) k] else litT r us n least k from rfl
  have hN0 : litT r us n least 0 = [] := rfl
  generalize tilesL r = T at *
  generalize hN : litT r us n least = N at *
  refine ⟨(Nat × Nat × (Nat → List FV)), fun s => s.1 ≤ T.length ∧ (N s.1).length ≤ s.2.1 ∧ TilAt (N s.1) s.2.2, fun s => T.length - s.1, fun s => [(1, .f (.flt .f32 least)), (2, .f (.int .i64 m)), (3, .ptr 1 0 0), (6, .f .nils), (7, .f (.int .i64 0)), (9, .slc 2 0 (N s.1).length s.2.1), (10, .slc 3 0 T.length capt), (11, .f (.int .i64 s.1))], fun s => [.rows n cap 3 f false, .lit [.f (.int .i8 r.wi), .f (.int .i8 r.hi), .slc 0 0 n cap] true, .rows (N s.1).length s.2.1 2 s.2.2 true, .rows T.length capt 2 gt true], (0, 0, noRow), (by intro _; simp), ?_, (by (try refine Or.inl ?_); simp [Cov, covE, covH, cb_dead, cb_lit, cb_rows, cb_cells, cd_lit, cd_rows, cd_cells, cd_dead, covRow, look, SV.known, SV.bd, bdL, hN0, hcap, hcapt] <;> omega), ?_⟩
  · exact ⟨by omega, by rw [hN0]; exact Nat.le_refl _, by rw [hN0]; exact fun i hi => by simp at hi⟩
  · rintro ⟨k, cap1, f1⟩ ⟨hk, hc1, hI⟩
    simp only at hk hc1 hI
    by_cases hlt : k < T.length
    · have hd : decide ((k : Int) < T.length) = true := decide_eq_true (by omega)
      have e1 := hgt k hlt
      have hin1 := tin k hlt
      have hlk := hll k
      simp (config := { maxSteps := 1000000 }) (disch := omega) only [go_sem, Int.reduceToNat, ↓reduceIte, Nat.reduceLT, Nat.reduceEqDiff, Nat.reduceAdd, Nat.reduceMul, Nat.reduceSub, Nat.reduceBEq, Nat.reduceLeDiff, reduceCtorEq, Nat.reduceLT, ↓Br_true, ↓Br_false, bind, pure, sc44, sb44, hd, e1]
      repeat' (first | (with_reducible refine And.intro (by first | (unfold SOk; kernel_rfl) | (unfold SBOk; kernel_rfl) | (with_reducible assumption) | omega | assumption) ?_) | (with_reducible refine Br_intro (fun hc => ?_) (fun hc => ?_)) | ((have cc := l03Light_cv r us (tlN T k) n cap f H.hf hcap H.hn hz hw hin1; (first | ((first | refine callR (by rfl) (by rfl) (by rfl) cc ?_ | refine callM (by rfl) (by rfl) (by rfl) cc ?_ | refine callMo (by rfl) (by rfl) (by rfl) cc ?_); clear cc; rintro _ _ ⟨rfl, rfl⟩) | (refine callE (by rfl) cc (by rfl) ?_; clear cc))); simp (config := { maxSteps := 1000000 }) (disch := omega) only [go_sem, Int.reduceToNat, ↓reduceIte, Nat.reduceLT, Nat.reduceEqDiff, Nat.reduceAdd, Nat.reduceMul, Nat.reduceSub, Nat.reduceBEq, Nat.reduceLeDiff, reduceCtorEq, Nat.reduceLT, ↓Br_true, ↓Br_false, bind, pure, sc44, sb44, hd, e1]) | ((with_reducible show WidN _ _ _ _ _ _ _ _); (first | refine widL (by decide) (by with_reducible assumption) ?_ | refine widL (by decide) (FWok_nn (by with_reducible assumption)) ?_ | refine widN (by decide) (fun c hc => ?_)); simp (config := { maxSteps := 1000000 }) (disch := omega) only [go_sem, Int.reduceToNat, ↓reduceIte, Nat.reduceLT, Nat.reduceEqDiff, Nat.reduceAdd, Nat.reduceMul, Nat.reduceSub, Nat.reduceBEq, Nat.reduceLeDiff, reduceCtorEq, Nat.reduceLT, ↓Br_true, ↓Br_false, bind, pure, sc44, sb44, hd, e1]))
      · have en := eS k
        rw [if_pos hc] at en
        refine Or.inr (Or.inl ⟨⟨rfl, Nat.le_refl _⟩, fun cap' hcap' => ?_⟩)
        simp (config := { maxSteps := 1000000 }) (disch := omega) only [go_sem, Int.reduceToNat, ↓reduceIte, Nat.reduceLT, Nat.reduceEqDiff, Nat.reduceAdd, Nat.reduceMul, Nat.reduceSub, Nat.reduceBEq, Nat.reduceLeDiff, reduceCtorEq, Nat.reduceLT, ↓Br_true, ↓Br_false, bind, pure, sc44, sb44]
        refine ⟨(k + 1, cap', catR f1 (N k).length (shR (nthR [ [.int .i8 (tlN T k).1, .int .i8 (tlN T k).2] ]) 0)), ⟨by omega, ?_, ?_⟩, by omega, ?_⟩
        · rw [en]; simpa using hcap'
        · rw [en]; exact hI.push _
        · have el : (N k ++ [tlN T k]).length = (N k).length + 1 := by simp
          simp only [en]
          refine Or.inr ⟨[0, 1, 5, 3], by rfl, ?_⟩; simp [Cov, covE, covH, cb_dead, cb_lit, cb_rows, cb_cells, cd_lit, cd_rows, cd_cells, cd_dead, covRow, look, SV.known, SV.bd, bdL, locE, locV, locH, hget, SV.lin, inL, SV.ren, idx, bk_ren_lit, bk_ren_rows, bk_ren_cells, renL, hcap', el, hcap, hcapt] <;> omega
      · have en := eS k
        rw [if_neg (by rw [hc]; simp)] at en
        exact ⟨(k + 1, cap1, f1), ⟨by omega, by rw [en]; exact hc1, by rw [en]; exact hI⟩, by omega, by (try refine Or.inl ?_); simp [Cov, covE, covH, cb_dead, cb_lit, cb_rows, cb_cells, cd_lit, cd_rows, cd_cells, cd_dead, covRow, look, SV.known, SV.bd, bdL, en, hcap, hcapt, hc1] <;> omega⟩
    · have hd : decide ((k : Int) < T.length) = false := decide_eq_false (by omega)
      obtain rfl : k = T.length := by omega
      have hlk := hll T.length
      have HL : Part (N T.length) 0 (N T.length).length cap1 (N T.length).length cap1 f1 := ⟨rfl, fun i hi => by rw [Nat.zero_add]; exact hI i hi, by omega, hc1, by omega, hc1, by omega, fun i hi => hlin _ (Nat.le_refl _) _ (tlN_mem hi)⟩
      simp (config := { maxSteps := 1000000 }) (disch := omega) only [go_sem, Int.reduceToNat, ↓reduceIte, Nat.reduceLT, Nat.reduceEqDiff, Nat.reduceAdd, Nat.reduceMul, Nat.reduceSub, Nat.reduceBEq, Nat.reduceLeDiff, reduceCtorEq, Nat.reduceLT, ↓Br_true, ↓Br_false, bind, pure, sc44, sb44, hd]
      have hB : Bef [] 0 noRow := ⟨fun i hi => by simp at hi, Nat.le_refl _, fun i hi => by simp at hi⟩
      rcases m with _ | m
      · rw [plc_zero]
        (first | (refine callR (by rfl) (by rfl) (by rfl) (l03Put0_cv _ _ _ _ 0 _ _ (Nat.le_refl 0)) ?_; rintro _ _ ⟨rfl, rfl⟩) | (refine callM (by rfl) (by rfl) (by rfl) (l03Put0_cv _ _ _ _ 0 _ _ (Nat.le_refl 0)) ?_; rintro _ _ ⟨rfl, rfl⟩) | (refine callMo (by rfl) (by rfl) (by rfl) (l03Put0_cv _ _ _ _ 0 _ _ (Nat.le_refl 0)) ?_; rintro _ _ ⟨rfl, rfl⟩) | (refine callE (by rfl) (l03Put0_cv _ _ _ _ 0 _ _ (Nat.le_refl 0)) (by rfl) ?_))
        simp (config := { maxSteps := 1000000 }) (disch := omega) only [go_sem, Int.reduceToNat, ↓reduceIte, Nat.reduceLT, Nat.reduceEqDiff, Nat.reduceAdd, Nat.reduceMul, Nat.reduceSub, Nat.reduceBEq, Nat.reduceLeDiff, reduceCtorEq, Nat.reduceLT, ↓Br_true, ↓Br_false, bind, pure, sc44, sb44]
        exact ⟨rfl, rfl⟩
      · have cv := l03Put_cv m (N T.length) [] 0 _ _ _ _ _ HL hB (by simp; omega) (Nat.zero_le _)
        rw [List.drop_zero] at cv
        cases hq : plc (N T.length) (m + 1) [] with
        | none =>
          rw [hq] at cv
          (have cc := cv; (first | ((first | refine callR (by rfl) (by rfl) (by rfl) cc ?_ | refine callM (by rfl) (by rfl) (by rfl) cc ?_ | refine callMo (by rfl) (by rfl) (by rfl) cc ?_); clear cc; rintro _ _ ⟨rfl, rfl⟩) | (refine callE (by rfl) cc (by rfl) ?_; clear cc)))
          simp (config := { maxSteps := 1000000 }) (disch := omega) only [go_sem, Int.reduceToNat, ↓reduceIte, Nat.reduceLT, Nat.reduceEqDiff, Nat.reduceAdd, Nat.reduceMul, Nat.reduceSub, Nat.reduceBEq, Nat.reduceLeDiff, reduceCtorEq, Nat.reduceLT, ↓Br_true, ↓Br_false, bind, pure, sc44, sb44]
          exact ⟨rfl, rfl⟩
        | some out =>
          rw [hq] at cv
          have hl := plc_len hq
          have hne : out ≠ [] := fun c => by rw [c] at hl; simp at hl
          have cc := cv; (first | refine callR (by rfl) (by rfl) (by rfl) cc ?_ | refine callM (by rfl) (by rfl) (by rfl) cc ?_ | refine callMo (by rfl) (by rfl) (by rfl) cc ?_ | refine callG (by rfl) (by rfl) (by rfl) cc ?_ | refine callW (by rfl) (by first | rfl | (simp [ofL, kpB, kpR, ofB, isOwnB, isDead, inL, hget]; done)) (by rfl) (by rfl) cc ?_); clear cc; rintro _ _ ⟨cap2, g2, h1, h2, rfl, rfl⟩
          simp (config := { maxSteps := 1000000 }) (disch := omega) only [go_sem, Int.reduceToNat, ↓reduceIte, Nat.reduceLT, Nat.reduceEqDiff, Nat.reduceAdd, Nat.reduceMul, Nat.reduceSub, Nat.reduceBEq, Nat.reduceLeDiff, reduceCtorEq, Nat.reduceLT, ↓Br_true, ↓Br_false, bind, pure, sc44, sb44]
          simp only [spV, if_neg hne]
          exact ⟨cap2, g2, h1, h2, rfl, rfl⟩
theorem getD_ne {o : Option (List (Int × Int))} (h : o.getD [] ≠ []) : ∃ out, o = some out ∧ out ≠ [] := by
  cases o with
  | none => exact absurd rfl h
  | some out => exact ⟨out, rfl, h⟩
theorem PlaceDesks_cv (r : Rom) (us : Nat → Win) (least : Nat) (many : Int) (n cap : Nat) (f : Nat → List FV) (H : RomH r us n cap f) (hg : plT r us n least many ≠ []) :
    CV Try.prog 43 [romV r n cap, .f (.flt .f32 least), .f (.int .i64 many)] [.rows n cap 3 f false] (fun v h => ∃ cap' g, TilAt (plT r us n least many) g ∧ (plT r us n least many).length ≤ cap' ∧ v = .tup [.slc 1 0 (plT r us n least many).length cap', .f (.int .i64 (plK r us n least many))] ∧ h = [.rows n cap 3 f false, .rows (plT r us n least many).length cap' 2 g true]) := by
  unfold plT plK at *
  by_cases ha : plC r us n least many = 0
  · simp only [ha, if_pos] at hg ⊢
    obtain ⟨out, ho, hne⟩ := getD_ne hg
    have cv := PlaceDesksG_cv r us least many n cap f H ha
    rw [ho] at cv ⊢
    refine cv.mono fun v h hv => ?_
    simpa [plV, hne] using hv
  · exact absurd (if_neg ha) hg
theorem PlaceDesksBad_cv (r : Rom) (us : Nat → Win) (least : Nat) (many : Int) (n cap : Nat) (f : Nat → List FV) (H : RomH r us n cap f) (hg : plT r us n least many = []) :
    CV Try.prog 43 [romV r n cap, .f (.flt .f32 least), .f (.int .i64 many)] [.rows n cap 3 f false] (fun v h => v = .tup [.f .nils, .f (.int .i64 (plK r us n least many))] ∧ h = [.rows n cap 3 f false]) := by
  unfold plT plK at *
  by_cases ha : plC r us n least many = 0
  · simp only [ha, if_pos] at hg ⊢
    have cv := PlaceDesksG_cv r us least many n cap f H ha
    refine cv.mono fun v h hv => ?_
    cases ho : plO r us n least many with
    | none => rw [ho] at hv; simpa [plV] using hv
    | some out =>
      rw [ho] at hv hg
      have : out = [] := hg
      simpa [plV, this] using hv
  · rw [if_neg ha]
    exact PlaceDesksE_cv r us least many n cap f H ha
theorem sPlaceDesks_cv (r : Rom) (us : Nat → Win) (least : Nat) (many : Int) (n cap : Nat) (f : Nat → List FV) (H : RomH r us n cap f) (hg : plT r us n least many ≠ []) :
    CV Try.prog 44 [romV r n cap, .f (.flt .f32 least), .f (.int .i64 many)] [.rows n cap 3 f false] (fun v h => ∃ cap' g, TilAt (plT r us n least many) g ∧ (plT r us n least many).length ≤ cap' ∧ v = .tup [.slc 1 0 (plT r us n least many).length cap', .f (.int .i64 (plK r us n least many))] ∧ h = [.rows n cap 3 f false, .rows (plT r us n least many).length cap' 2 g true]) := by
  unfold plT plK at *
  by_cases ha : plC r us n least many = 0
  · simp only [ha, if_pos] at hg ⊢
    obtain ⟨out, ho, hne⟩ := getD_ne hg
    have cv := sPlaceDesksG_cv r us least many n cap f H ha
    rw [ho] at cv ⊢
    refine cv.mono fun v h hv => ?_
    simpa [spV, hne] using hv
  · exact absurd (if_neg ha) hg
theorem sPlaceDesksBad_cv (r : Rom) (us : Nat → Win) (least : Nat) (many : Int) (n cap : Nat) (f : Nat → List FV) (H : RomH r us n cap f) (hg : plT r us n least many = []) :
    CV Try.prog 44 [romV r n cap, .f (.flt .f32 least), .f (.int .i64 many)] [.rows n cap 3 f false] (fun v h => v = .tup [.slc 1 0 0 0, .f (.int .i64 (plK r us n least many))] ∧ h = [.rows n cap 3 f false, .rows 0 0 2 noRow true]) := by
  unfold plT plK at *
  by_cases ha : plC r us n least many = 0
  · simp only [ha, if_pos] at hg ⊢
    have cv := sPlaceDesksG_cv r us least many n cap f H ha
    refine cv.mono fun v h hv => ?_
    cases ho : plO r us n least many with
    | none => rw [ho] at hv; simpa [spV] using hv
    | some out =>
      rw [ho] at hv hg
      have : out = [] := hg
      simpa [spV, this] using hv
  · rw [if_neg ha]
    exact sPlaceDesksE_cv r us least many n cap f H ha
theorem plT_le (r : Rom) (us : Nat → Win) (n least : Nat) (many : Int) : (plT r us n least many).length ≤ 5 := by
  unfold plT
  split
  · rename_i ha
    obtain ⟨_, _, _, _, hi⟩ := pl_asked ha
    simp only [inn_true] at hi
    cases ho : plO r us n least many with
    | none => simp
    | some out =>
      have := plc_len ho
      simp only [List.length_nil] at this
      simp only [Option.getD_some]
      omega
  · simp
end Go.Proofs.Ytdncopphjamilaa.Vx
