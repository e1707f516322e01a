/- Rooms, in the abstract: rooms whose windows are changed; the mirrored room. -/
import Derived.Test.YtjhddlkfkicpaaaGreatDoorRy
namespace Go.Proofs.YtjhddlkfkicpaaaGreatDoor.Vx
open Go Go.RowKit Fl
set_option maxRecDepth 100000
set_option maxHeartbeats 2000000
set_option linter.unusedSimpArgs false
set_option linter.unusedVariables false

/-- What has been appended: nil at first. -/
def chW (l k cap : Nat) : SV := match k with
  | 0 => .f .nils
  | k + 1 => .slc l 0 (k + 1) cap
def chB (k cap : Nat) (g : Nat → List FV) : List Blk := match k with
  | 0 => []
  | k + 1 => [.rows (k + 1) cap 3 g true]
theorem chW_z (l cap : Nat) : chW l 0 cap = .f .nils := rfl
theorem chW_s (l k cap : Nat) : chW l (k + 1) cap = .slc l 0 (k + 1) cap := rfl
theorem chB_z (cap : Nat) (g : Nat → List FV) : chB 0 cap g = [] := rfl
theorem chB_s (k cap : Nat) (g : Nat → List FV) : chB (k + 1) cap g = [.rows (k + 1) cap 3 g true] := rfl
theorem push_rows {us : Nat → Win} {g : Nat → List FV} {k : Nat} (h : ∀ i, i < k → g i = (us i).fv) {u : Win} (hu : us k = u) : ∀ i, i < k + 1 → catR g k (shR (nthR [u.fv]) 0) i = (us i).fv := fun i hi => by
  unfold catR
  by_cases c : i < k
  · rw [if_pos c, h i c]
  · obtain rfl : i = k := by omega
    rw [if_neg c, hu]
    simp [shR, nthR]
theorem one_row {us : Nat → Win} {u : Win} (hu : us 0 = u) : ∀ i, i < 0 + 1 → shR (nthR [u.fv]) 0 i = (us i).fv := fun i hi => by
  obtain rfl : i = 0 := by omega
  rw [hu]
  simp [shR, nthR]
theorem own_step {us vs : Nat → Win} {g : Nat → List FV} {k n : Nat} (hg1 : ∀ i, i < k → g i = (vs i).fv) (hg2 : ∀ i, k ≤ i → i < n → g i = (us i).fv) {row : List FV} (hr : row = (vs k).fv) :
    (∀ i, i < k + 1 → updW g k row i = (vs i).fv) ∧ ∀ i, k + 1 ≤ i → i < n → updW g k row i = (us i).fv := by
  refine ⟨fun i hi => ?_, fun i h1 h2 => ?_⟩
  · simp only [updW]
    by_cases c : i = k
    · subst c; rw [if_pos rfl]; exact hr
    · rw [if_neg c]; exact hg1 i (by omega)
  · simp only [updW]
    rw [if_neg (by omega)]; exact hg2 i (by omega) h2
def mirW (r : Rom) (u : Win) : Win := if u.w = 1 then ⟨3, u.a, u.l⟩ else if u.w = 3 then ⟨1, u.a, u.l⟩ else ⟨u.w, r.wi - 1 - u.a, u.l⟩
theorem mirror1_cv (r : Rom) (u : Win) (i : Int) (n cap : Nat) (f : Nat → List FV) (hr : r.sz) (hu : u.ok r = true) :
    CV Tryz.prog 57 [.f (.int .i64 i), winV u, .ptr 0 0 0] [romB r n cap false, .rows n cap 3 f false] (fun v h => v = winV (mirW r u) ∧ h = [romB r n cap false, .rows n cap 3 f false]) := by
  obtain ⟨⟨_, _⟩, ⟨_, _⟩, _⟩ := win_ok hr hu
  obtain ⟨⟨_, _⟩, _, _⟩ := hr
  refine cv_of_run 1000 sc57 sb57 22 [.cell 5 62] tabOk (by kernel_rfl) Tryz.func57 rfl (by kernel_rfl) Tryz.ntmps57 rfl (by simp) rfl (by simp [bdL, SV.bd]) ?_
  simp (config := { maxSteps := 1000000 }) (disch := omega) only [go_sem, Int.reduceToNat, ↓reduceIte, Nat.reduceLT, Nat.reduceEqDiff, Nat.reduceAdd, Nat.reduceMul, Nat.reduceSub, Nat.reduceBEq, Nat.reduceLeDiff, reduceCtorEq, Nat.reduceLT, ↓Br_true, ↓Br_false, bind, pure, sc57, sb57]
  repeat' (first | (with_reducible refine And.intro (by first | (unfold SOk; kernel_rfl) | (unfold SBOk; kernel_rfl) | (with_reducible assumption) | omega | assumption) ?_) | (with_reducible refine Br_intro (fun hc => ?_) (fun hc => ?_)) | ((with_reducible show WidN _ _ _ _ _ _ _ _); (first | refine widL (by decide) (by with_reducible assumption) ?_ | refine widL (by decide) (FWok_nn (by with_reducible assumption)) ?_ | refine widN (by decide) (fun c hc => ?_)); simp (config := { maxSteps := 1000000 }) (disch := omega) only [go_sem, Int.reduceToNat, ↓reduceIte, Nat.reduceLT, Nat.reduceEqDiff, Nat.reduceAdd, Nat.reduceMul, Nat.reduceSub, Nat.reduceBEq, Nat.reduceLeDiff, reduceCtorEq, Nat.reduceLT, ↓Br_true, ↓Br_false, bind, pure, sc57, sb57]))
  all_goals simp only [decide_eq_true_eq, decide_eq_false_iff_not] at *
  all_goals simp [mirW, *]
theorem mirChanged_cv (r : Rom) (us : Nat → Win) (n cap : Nat) (f : Nat → List FV) (H : RomH r us n cap f) (hz : r.sz) (h12 : n ≤ 12) (hw : allW r us n = true) :
    CV Tryz.prog 56 [.ptr 0 0 0, .fn 57 [] [.ptr 0 0 0]] [romB r n cap false, .rows n cap 3 f false] (fun v h => ∃ cap' g, (∀ i, i < n → g i = (mirW r (us i)).fv) ∧ n ≤ cap' ∧ v = .agg [.f (.int .i8 r.wi), .f (.int .i8 r.hi), chW 2 n cap'] ∧ h = romB r n cap false :: .rows n cap 3 f false :: chB n cap' g) := by
  obtain ⟨hf, hcap, hn, _, _, hs⟩ := H
  refine cv_of_run 1000 sc56 sb56 38 [.cell 4 27] tabOk (by kernel_rfl) Tryz.func56 rfl (by kernel_rfl) Tryz.ntmps56 rfl (by simp) rfl (by simp [bdL, SV.bd]) ?_
  simp (config := { maxSteps := 1000000 }) (disch := omega) only [go_sem, Int.reduceToNat, ↓reduceIte, Nat.reduceLT, Nat.reduceEqDiff, Nat.reduceAdd, Nat.reduceMul, Nat.reduceSub, Nat.reduceBEq, Nat.reduceLeDiff, reduceCtorEq, Nat.reduceLT, ↓Br_true, ↓Br_false, bind, pure, sc56, sb56]
  repeat (with_reducible refine And.intro (by first | omega | assumption | (unfold SOk; kernel_rfl) | (unfold SBOk; kernel_rfl)) ?_)
  refine ⟨(Nat × Nat × (Nat → List FV)), fun s => s.1 ≤ n ∧ s.1 ≤ s.2.1 ∧ (∀ i, i < s.1 → s.2.2 i = (mirW r (us i)).fv), fun s => n - s.1, fun s => [(1, .fn 57 [] [.ptr 0 0 0]), (4, .ptr 2 0 0), (5, .ptr 3 0 0), (20, .slc 1 0 n cap), (21, .f (.int .i64 n)), (22, .f (.int .i64 s.1))], fun s => romB r n cap false :: .rows n cap 3 f false :: .lit [.f (.int .i8 0), .f (.int .i8 0), .f .nils] true :: .lit [.f (.int .i8 r.wi), .f (.int .i8 r.hi), chW 4 s.1 s.2.1] true :: chB s.1 s.2.1 s.2.2, (0, 0, nthR []), (by intro _; simp), ?_, (by (try refine Or.inl ?_); simp [Cov, covE, covH, cb_dead, cb_lit, cb_rows, cb_cells, cd_lit, cd_rows, cd_cells, cd_dead, covRow, look, SV.known, SV.bd, bdL, chW_z, chB_z, hcap] <;> omega), ?_⟩
  · exact ⟨by omega, by omega, fun i hi => by omega⟩
  · rintro ⟨k, cap1, g⟩ ⟨hk, hc1, hg⟩
    simp only at hk hc1 hg
    by_cases hlt : k < n
    · have hd : decide ((k : Int) < n) = true := decide_eq_true (by omega)
      have e1 := hf k hlt
      simp only [Win.fv] at e1
      have hu := allW_at hw hlt
      have cm := mirror1_cv r (us k) k n cap f hz hu
      obtain ⟨u, hu'⟩ : ∃ u, u = mirW r (us k) := ⟨_, rfl⟩
      rw [← hu'] at cm
      rcases k with _ | k
      · simp (config := { maxSteps := 1000000 }) (disch := omega) only [go_sem, Int.reduceToNat, ↓reduceIte, Nat.reduceLT, Nat.reduceEqDiff, Nat.reduceAdd, Nat.reduceMul, Nat.reduceSub, Nat.reduceBEq, Nat.reduceLeDiff, reduceCtorEq, Nat.reduceLT, ↓Br_true, ↓Br_false, bind, pure, sc56, sb56, hd, e1, chW_z, chB_z]
        repeat (with_reducible refine And.intro (by first | omega | assumption | (unfold SOk; kernel_rfl) | (unfold SBOk; kernel_rfl)) ?_)
        (have cc := cm; (first | ((first | refine callR (by rfl) (by rfl) (by rfl) cc ?_ | refine callM (by rfl) (by rfl) (by rfl) cc ?_ | refine callMo (by rfl) (by rfl) (by rfl) cc ?_); clear cc; rintro _ _ ⟨rfl, rfl⟩) | (refine callE (by rfl) cc (by rfl) ?_; clear cc)))
        simp (config := { maxSteps := 1000000 }) (disch := omega) only [go_sem, Int.reduceToNat, ↓reduceIte, Nat.reduceLT, Nat.reduceEqDiff, Nat.reduceAdd, Nat.reduceMul, Nat.reduceSub, Nat.reduceBEq, Nat.reduceLeDiff, reduceCtorEq, Nat.reduceLT, ↓Br_true, ↓Br_false, bind, pure, sc56, sb56]
        intro cap' hcap'
        simp (config := { maxSteps := 1000000 }) (disch := omega) only [go_sem, Int.reduceToNat, ↓reduceIte, Nat.reduceLT, Nat.reduceEqDiff, Nat.reduceAdd, Nat.reduceMul, Nat.reduceSub, Nat.reduceBEq, Nat.reduceLeDiff, reduceCtorEq, Nat.reduceLT, ↓Br_true, ↓Br_false, bind, pure, sc56, sb56]
        exact ⟨(0 + 1, cap', shR (nthR [u.fv]) 0), ⟨by omega, hcap', one_row (us := fun i => mirW r (us i)) hu'.symm⟩, by omega, by refine Or.inr ⟨[0, 1, 2, 3, 6], by rfl, ?_⟩; simp [Cov, covE, covH, cb_dead, cb_lit, cb_rows, cb_cells, cd_lit, cd_rows, cd_cells, cd_dead, covRow, look, SV.known, SV.bd, bdL, locE, locV, locH, hget, SV.lin, inL, SV.ren, idx, bk_ren_lit, bk_ren_rows, bk_ren_cells, renL, chW_s, chB_s, Win.fv, linL, hcap, hcap'] <;> omega⟩
      · simp (config := { maxSteps := 1000000 }) (disch := omega) only [go_sem, Int.reduceToNat, ↓reduceIte, Nat.reduceLT, Nat.reduceEqDiff, Nat.reduceAdd, Nat.reduceMul, Nat.reduceSub, Nat.reduceBEq, Nat.reduceLeDiff, reduceCtorEq, Nat.reduceLT, ↓Br_true, ↓Br_false, bind, pure, sc56, sb56, hd, e1, chW_s, chB_s]
        repeat (with_reducible refine And.intro (by first | omega | assumption | (unfold SOk; kernel_rfl) | (unfold SBOk; kernel_rfl)) ?_)
        (have cc := cm; (first | ((first | refine callR (by rfl) (by rfl) (by rfl) cc ?_ | refine callM (by rfl) (by rfl) (by rfl) cc ?_ | refine callMo (by rfl) (by rfl) (by rfl) cc ?_); clear cc; rintro _ _ ⟨rfl, rfl⟩) | (refine callE (by rfl) cc (by rfl) ?_; clear cc)))
        simp (config := { maxSteps := 1000000 }) (disch := omega) only [go_sem, Int.reduceToNat, ↓reduceIte, Nat.reduceLT, Nat.reduceEqDiff, Nat.reduceAdd, Nat.reduceMul, Nat.reduceSub, Nat.reduceBEq, Nat.reduceLeDiff, reduceCtorEq, Nat.reduceLT, ↓Br_true, ↓Br_false, bind, pure, sc56, sb56]
        refine ⟨⟨Nat.le_refl _, by omega⟩, Or.inr (Or.inl ⟨⟨rfl, Nat.le_refl _⟩, fun cap' hcap' => ?_⟩)⟩
        simp (config := { maxSteps := 1000000 }) (disch := omega) only [go_sem, Int.reduceToNat, ↓reduceIte, Nat.reduceLT, Nat.reduceEqDiff, Nat.reduceAdd, Nat.reduceMul, Nat.reduceSub, Nat.reduceBEq, Nat.reduceLeDiff, reduceCtorEq, Nat.reduceLT, ↓Br_true, ↓Br_false, bind, pure, sc56, sb56]
        exact ⟨(k + 1 + 1, cap', catR g (k + 1) (shR (nthR [u.fv]) 0)), ⟨by omega, hcap', push_rows (us := fun i => mirW r (us i)) hg hu'.symm⟩, by omega, by refine Or.inr ⟨[0, 1, 2, 3, 7], by rfl, ?_⟩; simp [Cov, covE, covH, cb_dead, cb_lit, cb_rows, cb_cells, cd_lit, cd_rows, cd_cells, cd_dead, covRow, look, SV.known, SV.bd, bdL, locE, locV, locH, hget, SV.lin, inL, SV.ren, idx, bk_ren_lit, bk_ren_rows, bk_ren_cells, renL, chW_s, chB_s, Win.fv, linL, hcap, hcap'] <;> omega⟩
    · have hd : decide ((k : Int) < n) = false := decide_eq_false (by omega)
      obtain rfl : k = n := by omega
      rcases k with _ | k
      · simp (config := { maxSteps := 1000000 }) (disch := omega) only [go_sem, Int.reduceToNat, ↓reduceIte, Nat.reduceLT, Nat.reduceEqDiff, Nat.reduceAdd, Nat.reduceMul, Nat.reduceSub, Nat.reduceBEq, Nat.reduceLeDiff, reduceCtorEq, Nat.reduceLT, ↓Br_true, ↓Br_false, bind, pure, sc56, sb56, hd, chW_z, chB_z]
        exact ⟨0, g, hg, Nat.le_refl 0⟩
      · simp (config := { maxSteps := 1000000 }) (disch := omega) only [go_sem, Int.reduceToNat, ↓reduceIte, Nat.reduceLT, Nat.reduceEqDiff, Nat.reduceAdd, Nat.reduceMul, Nat.reduceSub, Nat.reduceBEq, Nat.reduceLeDiff, reduceCtorEq, Nat.reduceLT, ↓Br_true, ↓Br_false, bind, pure, sc56, sb56, hd, chW_s, chB_s]
        exact ⟨cap1, g, hg, hc1, rfl, rfl⟩
theorem l03Own_cv (r : Rom) (us : Nat → Win) (n cap : Nat) (f : Nat → List FV) (H : RomH r us n cap f) (h12 : n ≤ 12) :
    CV Tryz.prog 58 [.ptr 0 0 0] [romB r n cap false, .rows n cap 3 f false] (fun v h => ∃ cap' g, (∀ i, i < n → g i = (us i).fv) ∧ n ≤ cap' ∧ v = .agg [.f (.int .i8 r.wi), .f (.int .i8 r.hi), .slc 2 0 n cap'] ∧ h = [romB r n cap false, .rows n cap 3 f false, .rows n cap' 3 g true]) := by
  obtain ⟨hf, hcap, hn, _, _, hs⟩ := H
  rcases n with _ | n
  · refine cv_of_run 1000 sc58 sb58 18 [.cell 2 27] tabOk (by kernel_rfl) Tryz.func58 rfl (by kernel_rfl) Tryz.ntmps58 rfl (by simp) rfl (by simp [bdL, SV.bd]) ?_
    simp (config := { maxSteps := 1000000 }) (disch := omega) only [go_sem, Int.reduceToNat, ↓reduceIte, Nat.reduceLT, Nat.reduceEqDiff, Nat.reduceAdd, Nat.reduceMul, Nat.reduceSub, Nat.reduceBEq, Nat.reduceLeDiff, reduceCtorEq, Nat.reduceLT, ↓Br_true, ↓Br_false, bind, pure, sc58, sb58]
    repeat (with_reducible refine And.intro (by first | omega | assumption | (unfold SOk; kernel_rfl) | (unfold SBOk; kernel_rfl)) ?_)
    exact Or.inr fun cap' h => ⟨cap', _, fun i hi => by omega, h, rfl, rfl⟩
  · refine cv_of_run 1000 sc58 sb58 18 [.cell 2 27] tabOk (by kernel_rfl) Tryz.func58 rfl (by kernel_rfl) Tryz.ntmps58 rfl (by simp) rfl (by simp [bdL, SV.bd]) ?_
    simp (config := { maxSteps := 1000000 }) (disch := omega) only [go_sem, Int.reduceToNat, ↓reduceIte, Nat.reduceLT, Nat.reduceEqDiff, Nat.reduceAdd, Nat.reduceMul, Nat.reduceSub, Nat.reduceBEq, Nat.reduceLeDiff, reduceCtorEq, Nat.reduceLT, ↓Br_true, ↓Br_false, bind, pure, sc58, sb58]
    repeat (with_reducible refine And.intro (by first | omega | assumption | (unfold SOk; kernel_rfl) | (unfold SBOk; kernel_rfl)) ?_)
    exact Or.inl ⟨by omega, Or.inl ⟨by omega, fun cap' h => ⟨cap', catR noRow 0 (shR f 0), fun i hi => by simpa [catR, shR] using hf i hi, h, rfl, rfl⟩⟩⟩
theorem MirrorRoom_cv (r : Rom) (us : Nat → Win) (n cap : Nat) (f : Nat → List FV) (H : RomH r us n cap f) (ha : askC (vRoom r us n) true = 0) :
    CV Tryz.prog 24 [romV r n cap] [.rows n cap 3 f false] (fun v h => ∃ cap' g, (∀ i, i < n → g i = (mirW r (us i)).fv) ∧ n ≤ cap' ∧ v = .tup [.agg [.f (.int .i8 r.wi), .f (.int .i8 r.hi), chW 1 n cap'], .f (.int .i64 0)] ∧ h = .rows n cap 3 f false :: chB n cap' g) := by
  have hcap := H.hcap
  have cr := roomCode_cv r us n cap f true H
  obtain ⟨hz, h12, hw, _⟩ := room_asked ha
  rw [ha] at cr
  have cm := mirChanged_cv r us n cap f H hz h12 hw
  rcases n with _ | n
  · simp only [chW_z, chB_z] at cm ⊢
    refine cv_of_run 1000 sc24 sb24 13 [.cell 2 27, .tmp 3] tabOk (by kernel_rfl) Tryz.func24 rfl (by kernel_rfl) Tryz.ntmps24 rfl (by simp) rfl (by simp [bdL, SV.bd]) ?_
    simp (config := { maxSteps := 1000000 }) (disch := omega) only [go_sem, Int.reduceToNat, ↓reduceIte, Nat.reduceLT, Nat.reduceEqDiff, Nat.reduceAdd, Nat.reduceMul, Nat.reduceSub, Nat.reduceBEq, Nat.reduceLeDiff, reduceCtorEq, Nat.reduceLT, ↓Br_true, ↓Br_false, bind, pure, sc24, sb24]
    repeat' (first | (with_reducible refine And.intro (by first | (unfold SOk; kernel_rfl) | (unfold SBOk; kernel_rfl) | (with_reducible assumption) | omega | assumption) ?_) | (with_reducible refine Br_intro (fun hc => ?_) (fun hc => ?_)) | ((have cc := cr; (first | ((first | refine callR (by rfl) (by rfl) (by rfl) cc ?_ | refine callM (by rfl) (by rfl) (by rfl) cc ?_ | refine callMo (by rfl) (by rfl) (by rfl) cc ?_); clear cc; rintro _ _ ⟨rfl, rfl⟩) | (refine callE (by rfl) cc (by rfl) ?_; clear cc))); simp (config := { maxSteps := 1000000 }) (disch := omega) only [go_sem, Int.reduceToNat, ↓reduceIte, Nat.reduceLT, Nat.reduceEqDiff, Nat.reduceAdd, Nat.reduceMul, Nat.reduceSub, Nat.reduceBEq, Nat.reduceLeDiff, reduceCtorEq, Nat.reduceLT, ↓Br_true, ↓Br_false, bind, pure, sc24, sb24]) | ((with_reducible show WidN _ _ _ _ _ _ _ _); (first | refine widL (by decide) (by with_reducible assumption) ?_ | refine widL (by decide) (FWok_nn (by with_reducible assumption)) ?_ | refine widN (by decide) (fun c hc => ?_)); simp (config := { maxSteps := 1000000 }) (disch := omega) only [go_sem, Int.reduceToNat, ↓reduceIte, Nat.reduceLT, Nat.reduceEqDiff, Nat.reduceAdd, Nat.reduceMul, Nat.reduceSub, Nat.reduceBEq, Nat.reduceLeDiff, reduceCtorEq, Nat.reduceLT, ↓Br_true, ↓Br_false, bind, pure, sc24, sb24]))
    have cc := cm; (first | refine callR (by rfl) (by rfl) (by rfl) cc ?_ | refine callM (by rfl) (by rfl) (by rfl) cc ?_ | refine callMo (by rfl) (by rfl) (by rfl) cc ?_ | refine callG (by rfl) (by rfl) (by rfl) cc ?_ | refine callW (by rfl) (by first | rfl | (simp [ofL, kpB, kpR, ofB, isOwnB, isDead, inL, hget]; done)) (by rfl) (by rfl) cc ?_); clear cc; rintro _ _ ⟨cap', g, hg, hc', rfl, rfl⟩
    simp (config := { maxSteps := 1000000 }) (disch := omega) only [go_sem, Int.reduceToNat, ↓reduceIte, Nat.reduceLT, Nat.reduceEqDiff, Nat.reduceAdd, Nat.reduceMul, Nat.reduceSub, Nat.reduceBEq, Nat.reduceLeDiff, reduceCtorEq, Nat.reduceLT, ↓Br_true, ↓Br_false, bind, pure, sc24, sb24]
    exact ⟨cap', g, hg, hc'⟩
  · simp only [chW_s, chB_s] at cm ⊢
    refine cv_of_run 1000 sc24 sb24 13 [.cell 2 27, .tmp 3] tabOk (by kernel_rfl) Tryz.func24 rfl (by kernel_rfl) Tryz.ntmps24 rfl (by simp) rfl (by simp [bdL, SV.bd]) ?_
    simp (config := { maxSteps := 1000000 }) (disch := omega) only [go_sem, Int.reduceToNat, ↓reduceIte, Nat.reduceLT, Nat.reduceEqDiff, Nat.reduceAdd, Nat.reduceMul, Nat.reduceSub, Nat.reduceBEq, Nat.reduceLeDiff, reduceCtorEq, Nat.reduceLT, ↓Br_true, ↓Br_false, bind, pure, sc24, sb24]
    repeat' (first | (with_reducible refine And.intro (by first | (unfold SOk; kernel_rfl) | (unfold SBOk; kernel_rfl) | (with_reducible assumption) | omega | assumption) ?_) | (with_reducible refine Br_intro (fun hc => ?_) (fun hc => ?_)) | ((have cc := cr; (first | ((first | refine callR (by rfl) (by rfl) (by rfl) cc ?_ | refine callM (by rfl) (by rfl) (by rfl) cc ?_ | refine callMo (by rfl) (by rfl) (by rfl) cc ?_); clear cc; rintro _ _ ⟨rfl, rfl⟩) | (refine callE (by rfl) cc (by rfl) ?_; clear cc))); simp (config := { maxSteps := 1000000 }) (disch := omega) only [go_sem, Int.reduceToNat, ↓reduceIte, Nat.reduceLT, Nat.reduceEqDiff, Nat.reduceAdd, Nat.reduceMul, Nat.reduceSub, Nat.reduceBEq, Nat.reduceLeDiff, reduceCtorEq, Nat.reduceLT, ↓Br_true, ↓Br_false, bind, pure, sc24, sb24]) | ((with_reducible show WidN _ _ _ _ _ _ _ _); (first | refine widL (by decide) (by with_reducible assumption) ?_ | refine widL (by decide) (FWok_nn (by with_reducible assumption)) ?_ | refine widN (by decide) (fun c hc => ?_)); simp (config := { maxSteps := 1000000 }) (disch := omega) only [go_sem, Int.reduceToNat, ↓reduceIte, Nat.reduceLT, Nat.reduceEqDiff, Nat.reduceAdd, Nat.reduceMul, Nat.reduceSub, Nat.reduceBEq, Nat.reduceLeDiff, reduceCtorEq, Nat.reduceLT, ↓Br_true, ↓Br_false, bind, pure, sc24, sb24]))
    have cc := cm; (first | refine callR (by rfl) (by rfl) (by rfl) cc ?_ | refine callM (by rfl) (by rfl) (by rfl) cc ?_ | refine callMo (by rfl) (by rfl) (by rfl) cc ?_ | refine callG (by rfl) (by rfl) (by rfl) cc ?_ | refine callW (by rfl) (by first | rfl | (simp [ofL, kpB, kpR, ofB, isOwnB, isDead, inL, hget]; done)) (by rfl) (by rfl) cc ?_); clear cc; rintro _ _ ⟨cap', g, hg, hc', rfl, rfl⟩
    simp (config := { maxSteps := 1000000 }) (disch := omega) only [go_sem, Int.reduceToNat, ↓reduceIte, Nat.reduceLT, Nat.reduceEqDiff, Nat.reduceAdd, Nat.reduceMul, Nat.reduceSub, Nat.reduceBEq, Nat.reduceLeDiff, reduceCtorEq, Nat.reduceLT, ↓Br_true, ↓Br_false, bind, pure, sc24, sb24]
    exact ⟨cap', g, hg, hc', rfl, rfl⟩
theorem MirrorRoomBad_cv (r : Rom) (us : Nat → Win) (n cap : Nat) (f : Nat → List FV) (H : RomH r us n cap f) (ha : askC (vRoom r us n) true ≠ 0) :
    CV Tryz.prog 24 [romV r n cap] [.rows n cap 3 f false] (fun v h => v = .tup [.agg [.f (.int .i8 0), .f (.int .i8 0), .f .nils], .f (.int .i64 (askC (vRoom r us n) true))] ∧ h = [.rows n cap 3 f false]) := by
  have hcap := H.hcap
  refine cv_of_run 1000 sc24 sb24 13 [.cell 2 27, .tmp 3] tabOk (by kernel_rfl) Tryz.func24 rfl (by kernel_rfl) Tryz.ntmps24 rfl (by simp) rfl (by simp [bdL, SV.bd]) ?_
  simp (config := { maxSteps := 1000000 }) (disch := omega) only [go_sem, Int.reduceToNat, ↓reduceIte, Nat.reduceLT, Nat.reduceEqDiff, Nat.reduceAdd, Nat.reduceMul, Nat.reduceSub, Nat.reduceBEq, Nat.reduceLeDiff, reduceCtorEq, Nat.reduceLT, ↓Br_true, ↓Br_false, bind, pure, sc24, sb24]
  repeat' (first | (with_reducible refine And.intro (by first | (unfold SOk; kernel_rfl) | (unfold SBOk; kernel_rfl) | (with_reducible assumption) | omega | assumption) ?_) | (with_reducible refine Br_intro (fun hc => ?_) (fun hc => ?_)) | ((have cc := roomCode_cv r us n cap f true H; (first | ((first | refine callR (by rfl) (by rfl) (by rfl) cc ?_ | refine callM (by rfl) (by rfl) (by rfl) cc ?_ | refine callMo (by rfl) (by rfl) (by rfl) cc ?_); clear cc; rintro _ _ ⟨rfl, rfl⟩) | (refine callE (by rfl) cc (by rfl) ?_; clear cc))); simp (config := { maxSteps := 1000000 }) (disch := omega) only [go_sem, Int.reduceToNat, ↓reduceIte, Nat.reduceLT, Nat.reduceEqDiff, Nat.reduceAdd, Nat.reduceMul, Nat.reduceSub, Nat.reduceBEq, Nat.reduceLeDiff, reduceCtorEq, Nat.reduceLT, ↓Br_true, ↓Br_false, bind, pure, sc24, sb24]) | ((with_reducible show WidN _ _ _ _ _ _ _ _); (first | refine widL (by decide) (by with_reducible assumption) ?_ | refine widL (by decide) (FWok_nn (by with_reducible assumption)) ?_ | refine widN (by decide) (fun c hc => ?_)); simp (config := { maxSteps := 1000000 }) (disch := omega) only [go_sem, Int.reduceToNat, ↓reduceIte, Nat.reduceLT, Nat.reduceEqDiff, Nat.reduceAdd, Nat.reduceMul, Nat.reduceSub, Nat.reduceBEq, Nat.reduceLeDiff, reduceCtorEq, Nat.reduceLT, ↓Br_true, ↓Br_false, bind, pure, sc24, sb24]))
  all_goals simp_all
theorem sMirrorRoom_cv (r : Rom) (us : Nat → Win) (n cap : Nat) (f : Nat → List FV) (H : RomH r us n cap f) (ha : askC (vRoom r us n) true = 0) :
    CV Tryz.prog 25 [romV r n cap] [.rows n cap 3 f false] (fun v h => ∃ cap' g, (∀ i, i < n → g i = (mirW r (us i)).fv) ∧ n ≤ cap' ∧ v = .tup [.agg [.f (.int .i8 r.wi), .f (.int .i8 r.hi), .slc 1 0 n cap'], .f (.int .i64 0)] ∧ h = [.rows n cap 3 f false, .rows n cap' 3 g true]) := by
  have hcap := H.hcap
  obtain ⟨hz, h12, hw, _⟩ := room_asked ha
  have cr := l03Ok_cv r us n cap f H
  rw [(askC_zero ha).1] at cr
  refine cv_of_run 1000 sc25 sb25 48 [.cell 2 27, .tmp 3] tabOk (by kernel_rfl) Tryz.func25 rfl (by kernel_rfl) Tryz.ntmps25 rfl (by simp) rfl (by simp [bdL, SV.bd]) ?_
  simp (config := { maxSteps := 1000000 }) (disch := omega) only [go_sem, Int.reduceToNat, ↓reduceIte, Nat.reduceLT, Nat.reduceEqDiff, Nat.reduceAdd, Nat.reduceMul, Nat.reduceSub, Nat.reduceBEq, Nat.reduceLeDiff, reduceCtorEq, Nat.reduceLT, ↓Br_true, ↓Br_false, bind, pure, sc25, sb25]
  repeat' (first | (with_reducible refine And.intro (by first | (unfold SOk; kernel_rfl) | (unfold SBOk; kernel_rfl) | (with_reducible assumption) | omega | assumption) ?_) | (with_reducible refine Br_intro (fun hc => ?_) (fun hc => ?_)) | ((have cc := cr; (first | ((first | refine callR (by rfl) (by rfl) (by rfl) cc ?_ | refine callM (by rfl) (by rfl) (by rfl) cc ?_ | refine callMo (by rfl) (by rfl) (by rfl) cc ?_); clear cc; rintro _ _ ⟨rfl, rfl⟩) | (refine callE (by rfl) cc (by rfl) ?_; clear cc))); simp (config := { maxSteps := 1000000 }) (disch := omega) only [go_sem, Int.reduceToNat, ↓reduceIte, Nat.reduceLT, Nat.reduceEqDiff, Nat.reduceAdd, Nat.reduceMul, Nat.reduceSub, Nat.reduceBEq, Nat.reduceLeDiff, reduceCtorEq, Nat.reduceLT, ↓Br_true, ↓Br_false, bind, pure, sc25, sb25]) | ((with_reducible show WidN _ _ _ _ _ _ _ _); (first | refine widL (by decide) (by with_reducible assumption) ?_ | refine widL (by decide) (FWok_nn (by with_reducible assumption)) ?_ | refine widN (by decide) (fun c hc => ?_)); simp (config := { maxSteps := 1000000 }) (disch := omega) only [go_sem, Int.reduceToNat, ↓reduceIte, Nat.reduceLT, Nat.reduceEqDiff, Nat.reduceAdd, Nat.reduceMul, Nat.reduceSub, Nat.reduceBEq, Nat.reduceLeDiff, reduceCtorEq, Nat.reduceLT, ↓Br_true, ↓Br_false, bind, pure, sc25, sb25]))
  have cc := l03Own_cv r us n cap f H h12; (first | refine callR (by rfl) (by rfl) (by rfl) cc ?_ | refine callM (by rfl) (by rfl) (by rfl) cc ?_ | refine callMo (by rfl) (by rfl) (by rfl) cc ?_ | refine callG (by rfl) (by rfl) (by rfl) cc ?_ | refine callW (by rfl) (by first | rfl | (simp [ofL, kpB, kpR, ofB, isOwnB, isDead, inL, hget]; done)) (by rfl) (by rfl) cc ?_); clear cc; rintro _ _ ⟨cap', g, hg, hc', rfl, rfl⟩
  simp (config := { maxSteps := 1000000 }) (disch := omega) only [go_sem, Int.reduceToNat, ↓reduceIte, Nat.reduceLT, Nat.reduceEqDiff, Nat.reduceAdd, Nat.reduceMul, Nat.reduceSub, Nat.reduceBEq, Nat.reduceLeDiff, reduceCtorEq, Nat.reduceLT, ↓Br_true, ↓Br_false, bind, pure, sc25, sb25]
  refine ⟨(Nat × (Nat → List FV)), fun s => s.1 ≤ n ∧ (∀ i, i < s.1 → s.2 i = (mirW r (us i)).fv) ∧ (∀ i, s.1 ≤ i → i < n → s.2 i = (us i).fv), fun s => n - s.1, fun s => [(1, .ptr 1 0 0), (2, .ptr 2 0 0), (3, .f (.int .i64 0)), (4, .ptr 4 0 0), (5, .f (.int .i64 s.1))], fun s => [.rows n cap 3 f false, .lit [.f (.int .i8 r.wi), .f (.int .i8 r.hi), .slc 0 0 n cap] true, .lit [.f (.int .i8 0), .f (.int .i8 0), .f .nils] true, .rows n cap' 3 s.2 true, .lit [.f (.int .i8 r.wi), .f (.int .i8 r.hi), .slc 3 0 n cap'] true], (0, g), (by intro _; simp), ?_, (by (try refine Or.inl ?_); simp [Cov, covE, covH, cb_dead, cb_lit, cb_rows, cb_cells, cd_lit, cd_rows, cd_cells, cd_dead, covRow, look, SV.known, SV.bd, bdL, hcap, hc'] <;> omega), ?_⟩
  · exact ⟨by omega, fun i hi => by omega, fun i _ hi => hg i hi⟩
  · rintro ⟨k, g⟩ ⟨hk, hg1, hg2⟩
    simp only at hk hg1 hg2
    by_cases hlt : k < n
    · have hd : decide ((k : Int) < n) = true := decide_eq_true (by omega)
      have e1 := hg2 k (Nat.le_refl k) hlt
      simp only [Win.fv] at e1
      have hu := allW_at hw hlt
      obtain ⟨⟨_, _⟩, ⟨_, _⟩, _⟩ := win_ok hz hu
      have hz' := hz
      obtain ⟨⟨_, _⟩, _, _⟩ := hz'
      simp (config := { maxSteps := 1000000 }) (disch := omega) only [go_sem, Int.reduceToNat, ↓reduceIte, Nat.reduceLT, Nat.reduceEqDiff, Nat.reduceAdd, Nat.reduceMul, Nat.reduceSub, Nat.reduceBEq, Nat.reduceLeDiff, reduceCtorEq, Nat.reduceLT, ↓Br_true, ↓Br_false, bind, pure, sc25, sb25, hd, e1]
      repeat' (first | (with_reducible refine And.intro (by first | (unfold SOk; kernel_rfl) | (unfold SBOk; kernel_rfl) | (with_reducible assumption) | omega | assumption) ?_) | (with_reducible refine Br_intro (fun hc => ?_) (fun hc => ?_)) | ((with_reducible show WidN _ _ _ _ _ _ _ _); (first | refine widL (by decide) (by with_reducible assumption) ?_ | refine widL (by decide) (FWok_nn (by with_reducible assumption)) ?_ | refine widN (by decide) (fun c hc => ?_)); simp (config := { maxSteps := 1000000 }) (disch := omega) only [go_sem, Int.reduceToNat, ↓reduceIte, Nat.reduceLT, Nat.reduceEqDiff, Nat.reduceAdd, Nat.reduceMul, Nat.reduceSub, Nat.reduceBEq, Nat.reduceLeDiff, reduceCtorEq, Nat.reduceLT, ↓Br_true, ↓Br_false, bind, pure, sc25, sb25, hd, e1]))
      all_goals simp only [decide_eq_true_eq, decide_eq_false_iff_not] at *
      · have o := own_step (vs := fun i => mirW r (us i)) hg1 hg2 (row := [.int .i8 (4 - (us k).w), .int .i8 (us k).a, .flt .f32 (us k).l]) (by simp [mirW, Win.fv, hc])
        exact ⟨(k + 1, updW g k _), ⟨by omega, o.1, o.2⟩, by omega, by (try refine Or.inl ?_); simp [Cov, covE, covH, cb_dead, cb_lit, cb_rows, cb_cells, cd_lit, cd_rows, cd_cells, cd_dead, covRow, look, SV.known, SV.bd, bdL, hcap, hc'] <;> omega⟩
      · have o := own_step (vs := fun i => mirW r (us i)) hg1 hg2 (row := [.int .i8 (4 - (us k).w), .int .i8 (us k).a, .flt .f32 (us k).l]) (by simp [mirW, Win.fv, hc])
        exact ⟨(k + 1, updW g k _), ⟨by omega, o.1, o.2⟩, by omega, by (try refine Or.inl ?_); simp [Cov, covE, covH, cb_dead, cb_lit, cb_rows, cb_cells, cd_lit, cd_rows, cd_cells, cd_dead, covRow, look, SV.known, SV.bd, bdL, hcap, hc'] <;> omega⟩
      · rename_i hc0
        have o := own_step (vs := fun i => mirW r (us i)) hg1 hg2 (row := [.int .i8 (us k).w, .int .i8 (r.wi - 1 - (us k).a), .flt .f32 (us k).l]) (by simp [mirW, Win.fv, hc, hc0])
        exact ⟨(k + 1, updW g k _), ⟨by omega, o.1, o.2⟩, by omega, by (try refine Or.inl ?_); simp [Cov, covE, covH, cb_dead, cb_lit, cb_rows, cb_cells, cd_lit, cd_rows, cd_cells, cd_dead, covRow, look, SV.known, SV.bd, bdL, hcap, hc'] <;> omega⟩
    · have hd : decide ((k : Int) < n) = false := decide_eq_false (by omega)
      obtain rfl : k = n := by omega
      simp (config := { maxSteps := 1000000 }) (disch := omega) only [go_sem, Int.reduceToNat, ↓reduceIte, Nat.reduceLT, Nat.reduceEqDiff, Nat.reduceAdd, Nat.reduceMul, Nat.reduceSub, Nat.reduceBEq, Nat.reduceLeDiff, reduceCtorEq, Nat.reduceLT, ↓Br_true, ↓Br_false, bind, pure, sc25, sb25, hd]
      exact ⟨cap', g, hg1, hc', rfl, rfl⟩
theorem sMirrorRoomBad_cv (r : Rom) (us : Nat → Win) (n cap : Nat) (f : Nat → List FV) (H : RomH r us n cap f) (ha : askC (vRoom r us n) true ≠ 0) :
    CV Tryz.prog 25 [romV r n cap] [.rows n cap 3 f false] (fun v h => v = .tup [.agg [.f (.int .i8 0), .f (.int .i8 0), .f .nils], .f (.int .i64 (askC (vRoom r us n) true))] ∧ h = [.rows n cap 3 f false]) := by
  have hcap := H.hcap
  have hv : vRoom r us n = false := by cases h : vRoom r us n <;> simp_all [askC]
  have cr := l03Ok_cv r us n cap f H
  rw [hv] at cr ⊢
  refine cv_of_run 1000 sc25 sb25 48 [.cell 2 27, .tmp 3] tabOk (by kernel_rfl) Tryz.func25 rfl (by kernel_rfl) Tryz.ntmps25 rfl (by simp) rfl (by simp [bdL, SV.bd]) ?_
  simp (config := { maxSteps := 1000000 }) (disch := omega) only [go_sem, Int.reduceToNat, ↓reduceIte, Nat.reduceLT, Nat.reduceEqDiff, Nat.reduceAdd, Nat.reduceMul, Nat.reduceSub, Nat.reduceBEq, Nat.reduceLeDiff, reduceCtorEq, Nat.reduceLT, ↓Br_true, ↓Br_false, bind, pure, sc25, sb25]
  repeat' (first | (with_reducible refine And.intro (by first | (unfold SOk; kernel_rfl) | (unfold SBOk; kernel_rfl) | (with_reducible assumption) | omega | assumption) ?_) | (with_reducible refine Br_intro (fun hc => ?_) (fun hc => ?_)) | ((have cc := cr; (first | ((first | refine callR (by rfl) (by rfl) (by rfl) cc ?_ | refine callM (by rfl) (by rfl) (by rfl) cc ?_ | refine callMo (by rfl) (by rfl) (by rfl) cc ?_); clear cc; rintro _ _ ⟨rfl, rfl⟩) | (refine callE (by rfl) cc (by rfl) ?_; clear cc))); simp (config := { maxSteps := 1000000 }) (disch := omega) only [go_sem, Int.reduceToNat, ↓reduceIte, Nat.reduceLT, Nat.reduceEqDiff, Nat.reduceAdd, Nat.reduceMul, Nat.reduceSub, Nat.reduceBEq, Nat.reduceLeDiff, reduceCtorEq, Nat.reduceLT, ↓Br_true, ↓Br_false, bind, pure, sc25, sb25]) | ((with_reducible show WidN _ _ _ _ _ _ _ _); (first | refine widL (by decide) (by with_reducible assumption) ?_ | refine widL (by decide) (FWok_nn (by with_reducible assumption)) ?_ | refine widN (by decide) (fun c hc => ?_)); simp (config := { maxSteps := 1000000 }) (disch := omega) only [go_sem, Int.reduceToNat, ↓reduceIte, Nat.reduceLT, Nat.reduceEqDiff, Nat.reduceAdd, Nat.reduceMul, Nat.reduceSub, Nat.reduceBEq, Nat.reduceLeDiff, reduceCtorEq, Nat.reduceLT, ↓Br_true, ↓Br_false, bind, pure, sc25, sb25]))
  all_goals simp_all [askC]
end Go.Proofs.YtjhddlkfkicpaaaGreatDoor.Vx
