/- Rooms, in the abstract: a room that is lit by a sun. -/
import Derived.Test.YtgepaaakleomeacRc
import Derived.Test.YtgepaaakleomeacGs
namespace Go.Proofs.Ytgepaaakleomeac.Vx
set_option linter.unusedSimpArgs false
set_option linter.unusedVariables false
open Go Go.RowKit Fl
set_option maxRecDepth 100000
set_option maxHeartbeats 2000000
set_option linter.unusedSimpArgs false
set_option linter.unusedVariables false

abbrev rmB4 (r : Rom) (n cap : Nat) : Blk := .lit [.f (.int .i8 r.wi), .f (.int .i8 r.hi), .slc 4 0 n cap] false
abbrev iB (x : Int) : Blk := .lit [.f (.int .i64 x)] false
theorem fmn_one {q : Nat} (hn : nn q) (hl : q < 4294967296) : fmn q 1065353216 = if flt 1065353216 q then 1065353216 else q := by
  unfold fmn
  cases d : flt 1065353216 q
  · cases e : flt q 1065353216
    · have h1 := flt_not (by decide) hn d
      have h2 := flt_not hn (by decide) e
      have : q = 1065353216 := word_of_key hl (by decide) (by omega) (by rw [Int.le_antisymm h1 h2]; decide)
      subst this; decide
    · simp
  · have h1 := flt_key d
    have : flt q 1065353216 = false := by
      rw [flt_iff hn (by decide)]; simp only [decide_eq_false_iff_not]; omega
    simp [this]
theorem fallF_ok (x : Nat → Int) (t : Nat) (a : Int) : nn (fallF x t a) ∧ fallF x t a < 4294967296 := by
  have hm := mul_unit (cosF_ok (x t)) (cosF_ok (x (24 + t) - a))
  unfold fallF
  split
  · exact ⟨(at0_P hm.2).1, by unfold at0; split; decide; exact fmul_lt⟩
  · exact ⟨by decide, by decide⟩
theorem own_stepR {us vs : Nat → Win} {g : Nat → List FV} {k n : Nat} {L : Nat} (hg1 : ∀ i, i < k → g i = (vs i).fv) (hg2 : ∀ i, k ≤ i → i < n → g i = (us i).fv) (hk : k < n) (hr : vs k = ⟨(us k).w, (us k).a, L⟩) :
    (∀ i, i < k + 1 → updR g k 2 (.flt .f32 L) i = (vs i).fv) ∧ ∀ i, k + 1 ≤ i → i < n → updR g k 2 (.flt .f32 L) i = (us i).fv := by
  refine ⟨fun i hi => ?_, fun i h1 h2 => ?_⟩
  · simp only [updR]
    by_cases c : i = k
    · subst c; rw [if_pos rfl, hr, hg2 i (Nat.le_refl i) hk]; simp [Win.fv, rset]
    · rw [if_neg c]; exact hg1 i (by omega)
  · simp only [updR]
    rw [if_neg (by omega)]; exact hg2 i (by omega) h2
def litL (x : Nat → Int) (hour north w : Int) : Nat := if flt 1065353216 (fallF x hour.toNat (ang (north + 64 * w))) then 1065353216 else fallF x hour.toNat (ang (north + 64 * w))
def litW (x : Nat → Int) (hour north : Int) (u : Win) : Win := ⟨u.w, u.a, litL x hour north u.w⟩
theorem bValidSun_cv (x : Nat → Int) (hs : Small x) : CV Try.prog 28 [sunV x] [] (fun v hh => v = .f (.bool (vSun x)) ∧ hh = []) :=
  CV.old trivial (enters_of Try.func28 (by kernel_rfl) (by kernel_rfl)) fun w β _ => ValidSun_c x w hs
theorem brange_of {w : World} {β : Nat → Loc} {h : List Blk} {x : Nat → Int} {l : Nat} (H : Holds w β h) (hl : hget h l = sunB x) : w.rangeAt (β l).b (β l).lo (ints 48 x) := fun j v hv => by
  have hj : j < 48 := by
    have := (List.getElem?_eq_some_iff.1 hv).1
    simpa [ints_length] using this
  rw [ints_get x hj] at hv
  cases hv
  have := (H.ok l).cell 0 j (.f (.int .i16 (x j))) (by rw [hl]; simp [Blk.cell, hj]) rfl
  simpa [den, FV.val] using this.2
theorem bl01Ok_cv (x : Nat → Int) (hs : Small x) : CV Try.prog 20 [.ptr 0 0 0] [sunB x] (fun v hh => v = .f (.bool (vSun x)) ∧ hh = [sunB x]) :=
  CV.old0 trivial (enters_of Try.func20 (by kernel_rfl) (by kernel_rfl)) fun w β H => by
    have := l01Ok_c x (β 0).b (β 0).lo w hs (brange_of H rfl)
    simpa [denL, den, FV.val] using this
theorem btoSun_cv (x : Nat → Int) : CV Try.prog 8 [sunV x] [] (fun v hh => v = sunV x ∧ hh = []) :=
  CV.old trivial (enters_of Try.func8 (by kernel_rfl) (by kernel_rfl)) fun w β _ => toSun_c x w
theorem bisHour_cv (n : Int) : CV Try.prog 30 [.f (.int .i64 n)] [] (fun v hh => v = .f (.bool (inn n 0 23)) ∧ hh = []) :=
  CV.old0 trivial (enters_of Try.func30 (by kernel_rfl) (by kernel_rfl)) fun w β _ => isHour_c n w
theorem bisFacing_cv (n : Int) : CV Try.prog 31 [.f (.int .i64 n)] [] (fun v hh => v = .f (.bool (inn n 0 255)) ∧ hh = []) :=
  CV.old0 trivial (enters_of Try.func31 (by kernel_rfl) (by kernel_rfl)) fun w β _ => isFacing_c n w
theorem bl01Hour_cv (n : Int) : CV Try.prog 21 [.f (.int .i64 n)] [] (fun v hh => v = .f (.bool (inn n 0 23)) ∧ hh = []) :=
  CV.old0 trivial (enters_of Try.func21 (by kernel_rfl) (by kernel_rfl)) fun w β _ => l01Hour_c n w
theorem bl01Faced_cv (n : Int) : CV Try.prog 22 [.f (.int .i64 n)] [] (fun v hh => v = .f (.bool (inn n 0 255)) ∧ hh = []) :=
  CV.old0 trivial (enters_of Try.func22 (by kernel_rfl) (by kernel_rfl)) fun w β _ => l01Faced_c n w
theorem brest_cv (a : Int) (h1 : -1000000 ≤ a) (h2 : a ≤ 1000000) : CV Try.prog 35 [.f (.int .i64 a), .f (.int .i64 256)] [] (fun v hh => v = .f (.int .i64 (ang a)) ∧ hh = []) :=
  CV.old0 trivial (enters_of Try.func35 (by kernel_rfl) (by kernel_rfl)) fun w β _ => rest_c a w h1 h2
theorem bl01Angle_cv (a : Int) (h1 : -1000000 ≤ a) (h2 : a ≤ 1000000) : CV Try.prog 25 [.f (.int .i64 a)] [] (fun v hh => v = .f (.int .i64 (ang a)) ∧ hh = []) :=
  CV.old0 trivial (enters_of Try.func25 (by kernel_rfl) (by kernel_rfl)) fun w β _ => l01Angle_c a w h1 h2
theorem lb_asked {r : Rom} {us : Nat → Win} {n : Nat} {x : Nat → Int} {b : Bool} (h : askC (vRoom r us n && vSun x) b = 0) : r.sz ∧ n ≤ 12 ∧ allW r us n = true ∧ b = true := by
  obtain ⟨h1, h2⟩ := askC_zero h
  simp only [Bool.and_eq_true] at h1
  obtain ⟨a, b, c⟩ := vRoom_at h1.1
  exact ⟨a, b, c, h2⟩
theorem litBy1_cv (x : Nat → Int) (u : Win) (i hour north : Int) (hx : Small x) (h1 : 0 ≤ hour ∧ hour ≤ 23) (h2 : 0 ≤ north ∧ north ≤ 255) (hu : 0 ≤ u.w ∧ u.w ≤ 3) :
    CV Try.prog 33 [.f (.int .i64 i), winV u, .ptr 0 0 0, .ptr 1 0 0, .ptr 2 0 0] [sunB x, iB hour, iB north] (fun v h => v = winV (litW x hour north u) ∧ h = [sunB x, iB hour, iB north]) := by
  obtain ⟨t, rfl⟩ : ∃ t : Nat, hour = t := ⟨hour.toNat, by omega⟩
  have ha : ang (north + 64 * u.w) < 256 := ang_lt _
  have cf := fall_cv x t (ang (north + 64 * u.w)) hx (by omega) (by omega) (by omega)
  have ok := fallF_ok x t (ang (north + 64 * u.w))
  have e : winV (litW x t north u) = .agg [.f (.int .i8 u.w), .f (.int .i8 u.a), .f (.flt .f32 (fmn (fallF x t (ang (north + 64 * u.w))) 1065353216))] := by
    rw [fmn_one ok.1 ok.2]; simp [winV, litW, litL]
  rw [e]
  refine cv_of_run 1000 sc33 sb33 20 [.cell 7 61] tabOk (by kernel_rfl) Try.func33 rfl (by kernel_rfl) Try.ntmps33 rfl (by simp) rfl (by simp [bdL, SV.bd]) ?_
  simp (config := { maxSteps := 1000000 }) (disch := omega) only [go_sem, Int.reduceToNat, ↓reduceIte, Nat.reduceLT, Nat.reduceEqDiff, Nat.reduceAdd, Nat.reduceMul, Nat.reduceSub, Nat.reduceBEq, Nat.reduceLeDiff, reduceCtorEq, Nat.reduceLT, ↓Br_true, ↓Br_false, bind, pure, sc33, sb33]
  repeat' (first | (with_reducible refine And.intro (by first | (unfold SOk; kernel_rfl) | (unfold SBOk; kernel_rfl) | (with_reducible assumption) | omega | assumption) ?_) | (with_reducible refine Br_intro (fun hc => ?_) (fun hc => ?_)) | ((first | (refine callR (by rfl) (by rfl) (by rfl) (brest_cv _ (by omega) (by omega)) ?_; rintro _ _ ⟨rfl, rfl⟩) | (refine callM (by rfl) (by rfl) (by rfl) (brest_cv _ (by omega) (by omega)) ?_; rintro _ _ ⟨rfl, rfl⟩) | (refine callE (by rfl) (brest_cv _ (by omega) (by omega)) (by rfl) ?_)); simp (config := { maxSteps := 1000000 }) (disch := omega) only [go_sem, Int.reduceToNat, ↓reduceIte, Nat.reduceLT, Nat.reduceEqDiff, Nat.reduceAdd, Nat.reduceMul, Nat.reduceSub, Nat.reduceBEq, Nat.reduceLeDiff, reduceCtorEq, Nat.reduceLT, ↓Br_true, ↓Br_false, bind, pure, sc33, sb33]) | ((have cc := cf; (first | ((first | refine callR (by rfl) (by rfl) (by rfl) cc ?_ | refine callM (by rfl) (by rfl) (by rfl) cc ?_); clear cc; rintro _ _ ⟨rfl, rfl⟩) | (refine callE (by rfl) cc (by rfl) ?_; clear cc))); simp (config := { maxSteps := 1000000 }) (disch := omega) only [go_sem, Int.reduceToNat, ↓reduceIte, Nat.reduceLT, Nat.reduceEqDiff, Nat.reduceAdd, Nat.reduceMul, Nat.reduceSub, Nat.reduceBEq, Nat.reduceLeDiff, reduceCtorEq, Nat.reduceLT, ↓Br_true, ↓Br_false, bind, pure, sc33, sb33]) | ((with_reducible show WidN _ _ _ _ _ _ _ _); (first | refine widL (by decide) (by with_reducible assumption) ?_ | refine widL (by decide) (FWok_nn (by with_reducible assumption)) ?_ | refine widN (by decide) (fun c hc => ?_)); simp (config := { maxSteps := 1000000 }) (disch := omega) only [go_sem, Int.reduceToNat, ↓reduceIte, Nat.reduceLT, Nat.reduceEqDiff, Nat.reduceAdd, Nat.reduceMul, Nat.reduceSub, Nat.reduceBEq, Nat.reduceLeDiff, reduceCtorEq, Nat.reduceLT, ↓Br_true, ↓Br_false, bind, pure, sc33, sb33]))
  exact ⟨ok.1, by decide⟩
theorem litChanged_cv (r : Rom) (us : Nat → Win) (x : Nat → Int) (hour north : Int) (n cap : Nat) (f : Nat → List FV) (H : RomH r us n cap f) (hz : r.sz) (h12 : n ≤ 12) (hw : allW r us n = true) (hx : Small x) (h1 : 0 ≤ hour ∧ hour ≤ 23) (h2 : 0 ≤ north ∧ north ≤ 255) :
    CV Try.prog 32 [.ptr 0 0 0, .fn 33 [] [.ptr 1 0 0, .ptr 2 0 0, .ptr 3 0 0]] [rmB4 r n cap, sunB x, iB hour, iB north, .rows n cap 3 f false] (fun v h => ∃ cap' g, (∀ i, i < n → g i = ((fun i : Nat => litW x hour north (us i)) i).fv) ∧ n ≤ cap' ∧ v = .agg [.f (.int .i8 r.wi), .f (.int .i8 r.hi), chW 5 n cap'] ∧ h = rmB4 r n cap :: sunB x :: iB hour :: iB north :: .rows n cap 3 f false :: chB n cap' g) := by
  obtain ⟨hf, hcap, hn, _, _, hs⟩ := H
  obtain ⟨vs, hvs⟩ : ∃ vs : Nat → Win, vs = (fun i : Nat => litW x hour north (us i)) := ⟨_, rfl⟩
  rw [← hvs]
  refine cv_of_run 1000 sc32 sb32 38 [.cell 4 33] tabOk (by kernel_rfl) Try.func32 rfl (by kernel_rfl) Try.ntmps32 rfl (by simp) rfl (by simp [bdL, SV.bd]) ?_
  simp (config := { maxSteps := 1000000 }) (disch := omega) only [go_sem, Int.reduceToNat, ↓reduceIte, Nat.reduceLT, Nat.reduceEqDiff, Nat.reduceAdd, Nat.reduceMul, Nat.reduceSub, Nat.reduceBEq, Nat.reduceLeDiff, reduceCtorEq, Nat.reduceLT, ↓Br_true, ↓Br_false, bind, pure, sc32, sb32]
  repeat (with_reducible refine And.intro (by first | omega | assumption | (unfold SOk; kernel_rfl) | (unfold SBOk; kernel_rfl)) ?_)
  refine ⟨(Nat × Nat × (Nat → List FV)), fun s => s.1 ≤ n ∧ s.1 ≤ s.2.1 ∧ (∀ i, i < s.1 → s.2.2 i = (vs i).fv), fun s => n - s.1, fun s => [(1, .fn 33 [] [.ptr 1 0 0, .ptr 2 0 0, .ptr 3 0 0]), (4, .ptr 5 0 0), (5, .ptr 6 0 0), (20, .slc 4 0 n cap), (21, .f (.int .i64 n)), (22, .f (.int .i64 s.1))], fun s => rmB4 r n cap :: sunB x :: iB hour :: iB north :: .rows n cap 3 f false :: .lit [.f (.int .i8 0), .f (.int .i8 0), .f .nils] true :: .lit [.f (.int .i8 r.wi), .f (.int .i8 r.hi), chW 7 s.1 s.2.1] true :: chB s.1 s.2.1 s.2.2, (0, 0, nthR []), (by intro _; simp), ?_, (by (try refine Or.inl ?_); simp [Cov, covE, covH, cb_dead, cb_lit, cb_rows, cb_cells, cd_lit, cd_rows, cd_cells, cd_dead, covRow, look, SV.known, SV.bd, bdL, chW_z, chB_z, linL, hcap] <;> omega), ?_⟩
  · exact ⟨by omega, by omega, fun i hi => by omega⟩
  · rintro ⟨k, cap1, g⟩ ⟨hk, hc1, hg⟩
    simp only at hk hc1 hg
    by_cases hlt : k < n
    · have hd : decide ((k : Int) < n) = true := decide_eq_true (by omega)
      have e1 := hf k hlt
      simp only [Win.fv] at e1
      have hu := allW_at hw hlt
      have cm := litBy1_cv x (us k) k hour north hx h1 h2 (win_ok hz hu).1
      obtain ⟨u, hu'⟩ : ∃ u, u = vs k := ⟨_, rfl⟩
      rw [show (litW x hour north (us k)) = u from by rw [hu', hvs]] at cm
      rcases k with _ | k
      · simp (config := { maxSteps := 1000000 }) (disch := omega) only [go_sem, Int.reduceToNat, ↓reduceIte, Nat.reduceLT, Nat.reduceEqDiff, Nat.reduceAdd, Nat.reduceMul, Nat.reduceSub, Nat.reduceBEq, Nat.reduceLeDiff, reduceCtorEq, Nat.reduceLT, ↓Br_true, ↓Br_false, bind, pure, sc32, sb32, hd, e1, chW_z, chB_z]
        repeat (with_reducible refine And.intro (by first | omega | assumption | (unfold SOk; kernel_rfl) | (unfold SBOk; kernel_rfl)) ?_)
        (have cc := cm; (first | ((first | refine callR (by rfl) (by rfl) (by rfl) cc ?_ | refine callM (by rfl) (by rfl) (by rfl) cc ?_); clear cc; rintro _ _ ⟨rfl, rfl⟩) | (refine callE (by rfl) cc (by rfl) ?_; clear cc)))
        simp (config := { maxSteps := 1000000 }) (disch := omega) only [go_sem, Int.reduceToNat, ↓reduceIte, Nat.reduceLT, Nat.reduceEqDiff, Nat.reduceAdd, Nat.reduceMul, Nat.reduceSub, Nat.reduceBEq, Nat.reduceLeDiff, reduceCtorEq, Nat.reduceLT, ↓Br_true, ↓Br_false, bind, pure, sc32, sb32]
        intro cap' hcap'
        simp (config := { maxSteps := 1000000 }) (disch := omega) only [go_sem, Int.reduceToNat, ↓reduceIte, Nat.reduceLT, Nat.reduceEqDiff, Nat.reduceAdd, Nat.reduceMul, Nat.reduceSub, Nat.reduceBEq, Nat.reduceLeDiff, reduceCtorEq, Nat.reduceLT, ↓Br_true, ↓Br_false, bind, pure, sc32, sb32]
        exact ⟨(0 + 1, cap', shR (nthR [u.fv]) 0), ⟨by omega, hcap', one_row hu'.symm⟩, by omega, by refine Or.inr ⟨[0, 1, 2, 3, 4, 5, 6, 9], by rfl, ?_⟩; simp [Cov, covE, covH, cb_dead, cb_lit, cb_rows, cb_cells, cd_lit, cd_rows, cd_cells, cd_dead, covRow, look, SV.known, SV.bd, bdL, locE, locV, locH, hget, SV.lin, inL, SV.ren, idx, bk_ren_lit, bk_ren_rows, bk_ren_cells, renL, chW_s, chB_s, Win.fv, linL, hcap, hcap'] <;> omega⟩
      · simp (config := { maxSteps := 1000000 }) (disch := omega) only [go_sem, Int.reduceToNat, ↓reduceIte, Nat.reduceLT, Nat.reduceEqDiff, Nat.reduceAdd, Nat.reduceMul, Nat.reduceSub, Nat.reduceBEq, Nat.reduceLeDiff, reduceCtorEq, Nat.reduceLT, ↓Br_true, ↓Br_false, bind, pure, sc32, sb32, hd, e1, chW_s, chB_s]
        repeat (with_reducible refine And.intro (by first | omega | assumption | (unfold SOk; kernel_rfl) | (unfold SBOk; kernel_rfl)) ?_)
        (have cc := cm; (first | ((first | refine callR (by rfl) (by rfl) (by rfl) cc ?_ | refine callM (by rfl) (by rfl) (by rfl) cc ?_); clear cc; rintro _ _ ⟨rfl, rfl⟩) | (refine callE (by rfl) cc (by rfl) ?_; clear cc)))
        simp (config := { maxSteps := 1000000 }) (disch := omega) only [go_sem, Int.reduceToNat, ↓reduceIte, Nat.reduceLT, Nat.reduceEqDiff, Nat.reduceAdd, Nat.reduceMul, Nat.reduceSub, Nat.reduceBEq, Nat.reduceLeDiff, reduceCtorEq, Nat.reduceLT, ↓Br_true, ↓Br_false, bind, pure, sc32, sb32]
        refine ⟨⟨Nat.le_refl _, by omega⟩, Or.inr (Or.inl ⟨⟨rfl, Nat.le_refl _⟩, fun cap' hcap' => ?_⟩)⟩
        simp (config := { maxSteps := 1000000 }) (disch := omega) only [go_sem, Int.reduceToNat, ↓reduceIte, Nat.reduceLT, Nat.reduceEqDiff, Nat.reduceAdd, Nat.reduceMul, Nat.reduceSub, Nat.reduceBEq, Nat.reduceLeDiff, reduceCtorEq, Nat.reduceLT, ↓Br_true, ↓Br_false, bind, pure, sc32, sb32]
        exact ⟨(k + 1 + 1, cap', catR g (k + 1) (shR (nthR [u.fv]) 0)), ⟨by omega, hcap', push_rows hg hu'.symm⟩, by omega, by refine Or.inr ⟨[0, 1, 2, 3, 4, 5, 6, 10], by rfl, ?_⟩; simp [Cov, covE, covH, cb_dead, cb_lit, cb_rows, cb_cells, cd_lit, cd_rows, cd_cells, cd_dead, covRow, look, SV.known, SV.bd, bdL, locE, locV, locH, hget, SV.lin, inL, SV.ren, idx, bk_ren_lit, bk_ren_rows, bk_ren_cells, renL, chW_s, chB_s, Win.fv, linL, hcap, hcap'] <;> omega⟩
    · have hd : decide ((k : Int) < n) = false := decide_eq_false (by omega)
      obtain rfl : k = n := by omega
      rcases k with _ | k
      · simp (config := { maxSteps := 1000000 }) (disch := omega) only [go_sem, Int.reduceToNat, ↓reduceIte, Nat.reduceLT, Nat.reduceEqDiff, Nat.reduceAdd, Nat.reduceMul, Nat.reduceSub, Nat.reduceBEq, Nat.reduceLeDiff, reduceCtorEq, Nat.reduceLT, ↓Br_true, ↓Br_false, bind, pure, sc32, sb32, hd, chW_z, chB_z]
        exact ⟨0, g, hg, Nat.le_refl 0⟩
      · simp (config := { maxSteps := 1000000 }) (disch := omega) only [go_sem, Int.reduceToNat, ↓reduceIte, Nat.reduceLT, Nat.reduceEqDiff, Nat.reduceAdd, Nat.reduceMul, Nat.reduceSub, Nat.reduceBEq, Nat.reduceLeDiff, reduceCtorEq, Nat.reduceLT, ↓Br_true, ↓Br_false, bind, pure, sc32, sb32, hd, chW_s, chB_s]
        exact ⟨cap1, g, hg, hc1, rfl, rfl⟩
theorem chW_pos {n : Nat} (h : 0 < n) (l cap : Nat) : chW l n cap = .slc l 0 n cap := by cases n; omega; rfl
theorem chB_pos {n : Nat} (h : 0 < n) (cap : Nat) (g : Nat → List FV) : chB n cap g = [.rows n cap 3 g true] := by cases n; omega; rfl
theorem lb_parts {r : Rom} {us : Nat → Win} {n : Nat} {x : Nat → Int} {hour north : Int} (h : askC (vRoom r us n && vSun x) (inn hour 0 23 && inn north 0 255) = 0) : vRoom r us n = true ∧ vSun x = true ∧ inn hour 0 23 = true ∧ inn north 0 255 = true := by
  obtain ⟨h1, h2⟩ := askC_zero h
  simp only [Bool.and_eq_true] at h1 h2
  exact ⟨h1.1, h1.2, h2.1, h2.2⟩
theorem LitBy_cv (r : Rom) (us : Nat → Win) (x : Nat → Int) (hour north : Int) (n cap : Nat) (f : Nat → List FV) (H : RomH r us n cap f) (hx : Small x) (ha : askC (vRoom r us n && vSun x) (inn hour 0 23 && inn north 0 255) = 0) :
    CV Try.prog 9 [romV r n cap, sunV x, .f (.int .i64 hour), .f (.int .i64 north)] [.rows n cap 3 f false] (fun v h => ∃ cap' g, (∀ i, i < n → g i = (litW x hour north (us i)).fv) ∧ n ≤ cap' ∧ v = .tup [.agg [.f (.int .i8 r.wi), .f (.int .i8 r.hi), chW 1 n cap'], .f (.int .i64 0)] ∧ h = .rows n cap 3 f false :: chB n cap' g) := by
  have hcap := H.hcap
  have hn := H.hn
  obtain ⟨hz, h12, hw, hb⟩ := lb_asked ha
  obtain ⟨p1, p2, p3, p4⟩ := lb_parts ha
  have cr := roomCode_cv r us n cap f true H
  rw [p1, show askC true true = 0 from rfl] at cr
  have cs := bValidSun_cv x hx
  rw [p2] at cs
  have cm := litChanged_cv r us x hour north n cap f H hz h12 hw hx (inn_true.1 p3) (inn_true.1 p4)
  rcases n with _ | n
  · simp only [chW_z, chB_z] at cm ⊢
    refine cv_of_run 1000 sc9 sb9 29 [.cell 8 33, .tmp 9] tabOk (by kernel_rfl) Try.func9 rfl (by kernel_rfl) Try.ntmps9 rfl (by simp) rfl (by simp [bdL, SV.bd]) ?_
    simp (config := { maxSteps := 1000000 }) (disch := omega) only [go_sem, Int.reduceToNat, ↓reduceIte, Nat.reduceLT, Nat.reduceEqDiff, Nat.reduceAdd, Nat.reduceMul, Nat.reduceSub, Nat.reduceBEq, Nat.reduceLeDiff, reduceCtorEq, Nat.reduceLT, ↓Br_true, ↓Br_false, bind, pure, sc9, sb9]
    repeat' (first | (with_reducible refine And.intro (by first | (unfold SOk; kernel_rfl) | (unfold SBOk; kernel_rfl) | (with_reducible assumption) | omega | assumption) ?_) | (with_reducible refine Br_intro (fun hc => ?_) (fun hc => ?_)) | ((have cc := cs; (first | ((first | refine callR (by rfl) (by rfl) (by rfl) cc ?_ | refine callM (by rfl) (by rfl) (by rfl) cc ?_); clear cc; rintro _ _ ⟨rfl, rfl⟩) | (refine callE (by rfl) cc (by rfl) ?_; clear cc))); simp (config := { maxSteps := 1000000 }) (disch := omega) only [go_sem, Int.reduceToNat, ↓reduceIte, Nat.reduceLT, Nat.reduceEqDiff, Nat.reduceAdd, Nat.reduceMul, Nat.reduceSub, Nat.reduceBEq, Nat.reduceLeDiff, reduceCtorEq, Nat.reduceLT, ↓Br_true, ↓Br_false, bind, pure, sc9, sb9, p3, p4]) | ((first | (refine callR (by rfl) (by rfl) (by rfl) (bisHour_cv _) ?_; rintro _ _ ⟨rfl, rfl⟩) | (refine callM (by rfl) (by rfl) (by rfl) (bisHour_cv _) ?_; rintro _ _ ⟨rfl, rfl⟩) | (refine callE (by rfl) (bisHour_cv _) (by rfl) ?_)); simp (config := { maxSteps := 1000000 }) (disch := omega) only [go_sem, Int.reduceToNat, ↓reduceIte, Nat.reduceLT, Nat.reduceEqDiff, Nat.reduceAdd, Nat.reduceMul, Nat.reduceSub, Nat.reduceBEq, Nat.reduceLeDiff, reduceCtorEq, Nat.reduceLT, ↓Br_true, ↓Br_false, bind, pure, sc9, sb9, p3, p4]) | ((first | (refine callR (by rfl) (by rfl) (by rfl) (bisFacing_cv _) ?_; rintro _ _ ⟨rfl, rfl⟩) | (refine callM (by rfl) (by rfl) (by rfl) (bisFacing_cv _) ?_; rintro _ _ ⟨rfl, rfl⟩) | (refine callE (by rfl) (bisFacing_cv _) (by rfl) ?_)); simp (config := { maxSteps := 1000000 }) (disch := omega) only [go_sem, Int.reduceToNat, ↓reduceIte, Nat.reduceLT, Nat.reduceEqDiff, Nat.reduceAdd, Nat.reduceMul, Nat.reduceSub, Nat.reduceBEq, Nat.reduceLeDiff, reduceCtorEq, Nat.reduceLT, ↓Br_true, ↓Br_false, bind, pure, sc9, sb9, p3, p4]) | ((have cc := cr; (first | ((first | refine callR (by rfl) (by rfl) (by rfl) cc ?_ | refine callM (by rfl) (by rfl) (by rfl) cc ?_); clear cc; rintro _ _ ⟨rfl, rfl⟩) | (refine callE (by rfl) cc (by rfl) ?_; clear cc))); simp (config := { maxSteps := 1000000 }) (disch := omega) only [go_sem, Int.reduceToNat, ↓reduceIte, Nat.reduceLT, Nat.reduceEqDiff, Nat.reduceAdd, Nat.reduceMul, Nat.reduceSub, Nat.reduceBEq, Nat.reduceLeDiff, reduceCtorEq, Nat.reduceLT, ↓Br_true, ↓Br_false, bind, pure, sc9, sb9, p3, p4]) | ((with_reducible show WidN _ _ _ _ _ _ _ _); (first | refine widL (by decide) (by with_reducible assumption) ?_ | refine widL (by decide) (FWok_nn (by with_reducible assumption)) ?_ | refine widN (by decide) (fun c hc => ?_)); simp (config := { maxSteps := 1000000 }) (disch := omega) only [go_sem, Int.reduceToNat, ↓reduceIte, Nat.reduceLT, Nat.reduceEqDiff, Nat.reduceAdd, Nat.reduceMul, Nat.reduceSub, Nat.reduceBEq, Nat.reduceLeDiff, reduceCtorEq, Nat.reduceLT, ↓Br_true, ↓Br_false, bind, pure, sc9, sb9, p3, p4]))
    have cc := cm; (first | refine callR (by rfl) (by rfl) (by rfl) cc ?_ | refine callM (by rfl) (by rfl) (by rfl) cc ?_ | refine callG (by rfl) (by rfl) (by rfl) cc ?_); clear cc; rintro _ _ ⟨cap', g, hg, hc', rfl, rfl⟩
    simp (config := { maxSteps := 1000000 }) (disch := omega) only [go_sem, Int.reduceToNat, ↓reduceIte, Nat.reduceLT, Nat.reduceEqDiff, Nat.reduceAdd, Nat.reduceMul, Nat.reduceSub, Nat.reduceBEq, Nat.reduceLeDiff, reduceCtorEq, Nat.reduceLT, ↓Br_true, ↓Br_false, bind, pure, sc9, sb9]
    exact ⟨cap', g, hg, hc'⟩
  · simp only [chW_s, chB_s] at cm ⊢
    refine cv_of_run 1000 sc9 sb9 29 [.cell 8 33, .tmp 9] tabOk (by kernel_rfl) Try.func9 rfl (by kernel_rfl) Try.ntmps9 rfl (by simp) rfl (by simp [bdL, SV.bd]) ?_
    simp (config := { maxSteps := 1000000 }) (disch := omega) only [go_sem, Int.reduceToNat, ↓reduceIte, Nat.reduceLT, Nat.reduceEqDiff, Nat.reduceAdd, Nat.reduceMul, Nat.reduceSub, Nat.reduceBEq, Nat.reduceLeDiff, reduceCtorEq, Nat.reduceLT, ↓Br_true, ↓Br_false, bind, pure, sc9, sb9]
    repeat' (first | (with_reducible refine And.intro (by first | (unfold SOk; kernel_rfl) | (unfold SBOk; kernel_rfl) | (with_reducible assumption) | omega | assumption) ?_) | (with_reducible refine Br_intro (fun hc => ?_) (fun hc => ?_)) | ((have cc := cs; (first | ((first | refine callR (by rfl) (by rfl) (by rfl) cc ?_ | refine callM (by rfl) (by rfl) (by rfl) cc ?_); clear cc; rintro _ _ ⟨rfl, rfl⟩) | (refine callE (by rfl) cc (by rfl) ?_; clear cc))); simp (config := { maxSteps := 1000000 }) (disch := omega) only [go_sem, Int.reduceToNat, ↓reduceIte, Nat.reduceLT, Nat.reduceEqDiff, Nat.reduceAdd, Nat.reduceMul, Nat.reduceSub, Nat.reduceBEq, Nat.reduceLeDiff, reduceCtorEq, Nat.reduceLT, ↓Br_true, ↓Br_false, bind, pure, sc9, sb9, p3, p4]) | ((first | (refine callR (by rfl) (by rfl) (by rfl) (bisHour_cv _) ?_; rintro _ _ ⟨rfl, rfl⟩) | (refine callM (by rfl) (by rfl) (by rfl) (bisHour_cv _) ?_; rintro _ _ ⟨rfl, rfl⟩) | (refine callE (by rfl) (bisHour_cv _) (by rfl) ?_)); simp (config := { maxSteps := 1000000 }) (disch := omega) only [go_sem, Int.reduceToNat, ↓reduceIte, Nat.reduceLT, Nat.reduceEqDiff, Nat.reduceAdd, Nat.reduceMul, Nat.reduceSub, Nat.reduceBEq, Nat.reduceLeDiff, reduceCtorEq, Nat.reduceLT, ↓Br_true, ↓Br_false, bind, pure, sc9, sb9, p3, p4]) | ((first | (refine callR (by rfl) (by rfl) (by rfl) (bisFacing_cv _) ?_; rintro _ _ ⟨rfl, rfl⟩) | (refine callM (by rfl) (by rfl) (by rfl) (bisFacing_cv _) ?_; rintro _ _ ⟨rfl, rfl⟩) | (refine callE (by rfl) (bisFacing_cv _) (by rfl) ?_)); simp (config := { maxSteps := 1000000 }) (disch := omega) only [go_sem, Int.reduceToNat, ↓reduceIte, Nat.reduceLT, Nat.reduceEqDiff, Nat.reduceAdd, Nat.reduceMul, Nat.reduceSub, Nat.reduceBEq, Nat.reduceLeDiff, reduceCtorEq, Nat.reduceLT, ↓Br_true, ↓Br_false, bind, pure, sc9, sb9, p3, p4]) | ((have cc := cr; (first | ((first | refine callR (by rfl) (by rfl) (by rfl) cc ?_ | refine callM (by rfl) (by rfl) (by rfl) cc ?_); clear cc; rintro _ _ ⟨rfl, rfl⟩) | (refine callE (by rfl) cc (by rfl) ?_; clear cc))); simp (config := { maxSteps := 1000000 }) (disch := omega) only [go_sem, Int.reduceToNat, ↓reduceIte, Nat.reduceLT, Nat.reduceEqDiff, Nat.reduceAdd, Nat.reduceMul, Nat.reduceSub, Nat.reduceBEq, Nat.reduceLeDiff, reduceCtorEq, Nat.reduceLT, ↓Br_true, ↓Br_false, bind, pure, sc9, sb9, p3, p4]) | ((with_reducible show WidN _ _ _ _ _ _ _ _); (first | refine widL (by decide) (by with_reducible assumption) ?_ | refine widL (by decide) (FWok_nn (by with_reducible assumption)) ?_ | refine widN (by decide) (fun c hc => ?_)); simp (config := { maxSteps := 1000000 }) (disch := omega) only [go_sem, Int.reduceToNat, ↓reduceIte, Nat.reduceLT, Nat.reduceEqDiff, Nat.reduceAdd, Nat.reduceMul, Nat.reduceSub, Nat.reduceBEq, Nat.reduceLeDiff, reduceCtorEq, Nat.reduceLT, ↓Br_true, ↓Br_false, bind, pure, sc9, sb9, p3, p4]))
    have cc := cm; (first | refine callR (by rfl) (by rfl) (by rfl) cc ?_ | refine callM (by rfl) (by rfl) (by rfl) cc ?_ | refine callG (by rfl) (by rfl) (by rfl) cc ?_); clear cc; rintro _ _ ⟨cap', g, hg, hc', rfl, rfl⟩
    simp (config := { maxSteps := 1000000 }) (disch := omega) only [go_sem, Int.reduceToNat, ↓reduceIte, Nat.reduceLT, Nat.reduceEqDiff, Nat.reduceAdd, Nat.reduceMul, Nat.reduceSub, Nat.reduceBEq, Nat.reduceLeDiff, reduceCtorEq, Nat.reduceLT, ↓Br_true, ↓Br_false, bind, pure, sc9, sb9]
    exact ⟨cap', g, hg, hc', rfl, rfl⟩
theorem LitByBad_cv (r : Rom) (us : Nat → Win) (x : Nat → Int) (hour north : Int) (n cap : Nat) (f : Nat → List FV) (H : RomH r us n cap f) (hx : Small x) (ha : askC (vRoom r us n && vSun x) (inn hour 0 23 && inn north 0 255) ≠ 0) :
    CV Try.prog 9 [romV r n cap, sunV x, .f (.int .i64 hour), .f (.int .i64 north)] [.rows n cap 3 f false] (fun v h => v = .tup [.agg [.f (.int .i8 0), .f (.int .i8 0), .f .nils], .f (.int .i64 (askC (vRoom r us n && vSun x) (inn hour 0 23 && inn north 0 255)))] ∧ h = [.rows n cap 3 f false]) := by
  have hcap := H.hcap
  refine cv_of_run 1000 sc9 sb9 29 [.cell 8 33, .tmp 9] tabOk (by kernel_rfl) Try.func9 rfl (by kernel_rfl) Try.ntmps9 rfl (by simp) rfl (by simp [bdL, SV.bd]) ?_
  simp (config := { maxSteps := 1000000 }) (disch := omega) only [go_sem, Int.reduceToNat, ↓reduceIte, Nat.reduceLT, Nat.reduceEqDiff, Nat.reduceAdd, Nat.reduceMul, Nat.reduceSub, Nat.reduceBEq, Nat.reduceLeDiff, reduceCtorEq, Nat.reduceLT, ↓Br_true, ↓Br_false, bind, pure, sc9, sb9]
  repeat' (first | (with_reducible refine And.intro (by first | (unfold SOk; kernel_rfl) | (unfold SBOk; kernel_rfl) | (with_reducible assumption) | omega | assumption) ?_) | (with_reducible refine Br_intro (fun hc => ?_) (fun hc => ?_)) | ((have cc := bValidSun_cv x hx; (first | ((first | refine callR (by rfl) (by rfl) (by rfl) cc ?_ | refine callM (by rfl) (by rfl) (by rfl) cc ?_); clear cc; rintro _ _ ⟨rfl, rfl⟩) | (refine callE (by rfl) cc (by rfl) ?_; clear cc))); simp (config := { maxSteps := 1000000 }) (disch := omega) only [go_sem, Int.reduceToNat, ↓reduceIte, Nat.reduceLT, Nat.reduceEqDiff, Nat.reduceAdd, Nat.reduceMul, Nat.reduceSub, Nat.reduceBEq, Nat.reduceLeDiff, reduceCtorEq, Nat.reduceLT, ↓Br_true, ↓Br_false, bind, pure, sc9, sb9]) | ((first | (refine callR (by rfl) (by rfl) (by rfl) (bisHour_cv _) ?_; rintro _ _ ⟨rfl, rfl⟩) | (refine callM (by rfl) (by rfl) (by rfl) (bisHour_cv _) ?_; rintro _ _ ⟨rfl, rfl⟩) | (refine callE (by rfl) (bisHour_cv _) (by rfl) ?_)); simp (config := { maxSteps := 1000000 }) (disch := omega) only [go_sem, Int.reduceToNat, ↓reduceIte, Nat.reduceLT, Nat.reduceEqDiff, Nat.reduceAdd, Nat.reduceMul, Nat.reduceSub, Nat.reduceBEq, Nat.reduceLeDiff, reduceCtorEq, Nat.reduceLT, ↓Br_true, ↓Br_false, bind, pure, sc9, sb9]) | ((first | (refine callR (by rfl) (by rfl) (by rfl) (bisFacing_cv _) ?_; rintro _ _ ⟨rfl, rfl⟩) | (refine callM (by rfl) (by rfl) (by rfl) (bisFacing_cv _) ?_; rintro _ _ ⟨rfl, rfl⟩) | (refine callE (by rfl) (bisFacing_cv _) (by rfl) ?_)); simp (config := { maxSteps := 1000000 }) (disch := omega) only [go_sem, Int.reduceToNat, ↓reduceIte, Nat.reduceLT, Nat.reduceEqDiff, Nat.reduceAdd, Nat.reduceMul, Nat.reduceSub, Nat.reduceBEq, Nat.reduceLeDiff, reduceCtorEq, Nat.reduceLT, ↓Br_true, ↓Br_false, bind, pure, sc9, sb9]) | ((first | (refine callR (by rfl) (by rfl) (by rfl) (roomCode_cv r us n cap f _ H) ?_; rintro _ _ ⟨rfl, rfl⟩) | (refine callM (by rfl) (by rfl) (by rfl) (roomCode_cv r us n cap f _ H) ?_; rintro _ _ ⟨rfl, rfl⟩) | (refine callE (by rfl) (roomCode_cv r us n cap f _ H) (by rfl) ?_)); simp (config := { maxSteps := 1000000 }) (disch := omega) only [go_sem, Int.reduceToNat, ↓reduceIte, Nat.reduceLT, Nat.reduceEqDiff, Nat.reduceAdd, Nat.reduceMul, Nat.reduceSub, Nat.reduceBEq, Nat.reduceLeDiff, reduceCtorEq, Nat.reduceLT, ↓Br_true, ↓Br_false, bind, pure, sc9, sb9]) | ((with_reducible show WidN _ _ _ _ _ _ _ _); (first | refine widL (by decide) (by with_reducible assumption) ?_ | refine widL (by decide) (FWok_nn (by with_reducible assumption)) ?_ | refine widN (by decide) (fun c hc => ?_)); simp (config := { maxSteps := 1000000 }) (disch := omega) only [go_sem, Int.reduceToNat, ↓reduceIte, Nat.reduceLT, Nat.reduceEqDiff, Nat.reduceAdd, Nat.reduceMul, Nat.reduceSub, Nat.reduceBEq, Nat.reduceLeDiff, reduceCtorEq, Nat.reduceLT, ↓Br_true, ↓Br_false, bind, pure, sc9, sb9]))
  all_goals (clear H; simp_all [askC])
theorem sLitBy_cv (r : Rom) (us : Nat → Win) (x : Nat → Int) (hour north : Int) (n cap : Nat) (f : Nat → List FV) (H : RomH r us n cap f) (hx : Small x) (ha : askC (vRoom r us n && vSun x) (inn hour 0 23 && inn north 0 255) = 0) :
    CV Try.prog 6 [romV r n cap, sunV x, .f (.int .i64 hour), .f (.int .i64 north)] [.rows n cap 3 f false] (fun v h => ∃ cap' g, (∀ i, i < n → g i = (litW x hour north (us i)).fv) ∧ n ≤ cap' ∧ v = .tup [.agg [.f (.int .i8 r.wi), .f (.int .i8 r.hi), .slc 1 0 n cap'], .f (.int .i64 0)] ∧ h = [.rows n cap 3 f false, .rows n cap' 3 g true]) := by
  have hcap := H.hcap
  obtain ⟨hz, h12, hw, hb⟩ := lb_asked ha
  obtain ⟨p1, p2, p3, p4⟩ := lb_parts ha
  have cr := l03Ok_cv r us n cap f H
  rw [p1] at cr
  have cs := bl01Ok_cv x hx
  rw [p2] at cs
  have i3 := inn_true.1 p3
  have i4 := inn_true.1 p4
  obtain ⟨t, rfl⟩ : ∃ t : Nat, hour = t := ⟨hour.toNat, by omega⟩
  refine cv_of_run 1000 sc6 sb6 59 [.cell 8 33, .tmp 9] tabOk (by kernel_rfl) Try.func6 rfl (by kernel_rfl) Try.ntmps6 rfl (by simp) rfl (by simp [bdL, SV.bd]) ?_
  simp (config := { maxSteps := 1000000 }) (disch := omega) only [go_sem, Int.reduceToNat, ↓reduceIte, Nat.reduceLT, Nat.reduceEqDiff, Nat.reduceAdd, Nat.reduceMul, Nat.reduceSub, Nat.reduceBEq, Nat.reduceLeDiff, reduceCtorEq, Nat.reduceLT, ↓Br_true, ↓Br_false, bind, pure, sc6, sb6]
  repeat' (first | (with_reducible refine And.intro (by first | (unfold SOk; kernel_rfl) | (unfold SBOk; kernel_rfl) | (with_reducible assumption) | omega | assumption) ?_) | (with_reducible refine Br_intro (fun hc => ?_) (fun hc => ?_)) | ((have cc := cr; (first | ((first | refine callR (by rfl) (by rfl) (by rfl) cc ?_ | refine callM (by rfl) (by rfl) (by rfl) cc ?_); clear cc; rintro _ _ ⟨rfl, rfl⟩) | (refine callE (by rfl) cc (by rfl) ?_; clear cc))); simp (config := { maxSteps := 1000000 }) (disch := omega) only [go_sem, Int.reduceToNat, ↓reduceIte, Nat.reduceLT, Nat.reduceEqDiff, Nat.reduceAdd, Nat.reduceMul, Nat.reduceSub, Nat.reduceBEq, Nat.reduceLeDiff, reduceCtorEq, Nat.reduceLT, ↓Br_true, ↓Br_false, bind, pure, sc6, sb6, p3, p4]) | ((have cc := cs; (first | ((first | refine callR (by rfl) (by rfl) (by rfl) cc ?_ | refine callM (by rfl) (by rfl) (by rfl) cc ?_); clear cc; rintro _ _ ⟨rfl, rfl⟩) | (refine callE (by rfl) cc (by rfl) ?_; clear cc))); simp (config := { maxSteps := 1000000 }) (disch := omega) only [go_sem, Int.reduceToNat, ↓reduceIte, Nat.reduceLT, Nat.reduceEqDiff, Nat.reduceAdd, Nat.reduceMul, Nat.reduceSub, Nat.reduceBEq, Nat.reduceLeDiff, reduceCtorEq, Nat.reduceLT, ↓Br_true, ↓Br_false, bind, pure, sc6, sb6, p3, p4]) | ((first | (refine callR (by rfl) (by rfl) (by rfl) (bl01Hour_cv _) ?_; rintro _ _ ⟨rfl, rfl⟩) | (refine callM (by rfl) (by rfl) (by rfl) (bl01Hour_cv _) ?_; rintro _ _ ⟨rfl, rfl⟩) | (refine callE (by rfl) (bl01Hour_cv _) (by rfl) ?_)); simp (config := { maxSteps := 1000000 }) (disch := omega) only [go_sem, Int.reduceToNat, ↓reduceIte, Nat.reduceLT, Nat.reduceEqDiff, Nat.reduceAdd, Nat.reduceMul, Nat.reduceSub, Nat.reduceBEq, Nat.reduceLeDiff, reduceCtorEq, Nat.reduceLT, ↓Br_true, ↓Br_false, bind, pure, sc6, sb6, p3, p4]) | ((first | (refine callR (by rfl) (by rfl) (by rfl) (bl01Faced_cv _) ?_; rintro _ _ ⟨rfl, rfl⟩) | (refine callM (by rfl) (by rfl) (by rfl) (bl01Faced_cv _) ?_; rintro _ _ ⟨rfl, rfl⟩) | (refine callE (by rfl) (bl01Faced_cv _) (by rfl) ?_)); simp (config := { maxSteps := 1000000 }) (disch := omega) only [go_sem, Int.reduceToNat, ↓reduceIte, Nat.reduceLT, Nat.reduceEqDiff, Nat.reduceAdd, Nat.reduceMul, Nat.reduceSub, Nat.reduceBEq, Nat.reduceLeDiff, reduceCtorEq, Nat.reduceLT, ↓Br_true, ↓Br_false, bind, pure, sc6, sb6, p3, p4]) | ((with_reducible show WidN _ _ _ _ _ _ _ _); (first | refine widL (by decide) (by with_reducible assumption) ?_ | refine widL (by decide) (FWok_nn (by with_reducible assumption)) ?_ | refine widN (by decide) (fun c hc => ?_)); simp (config := { maxSteps := 1000000 }) (disch := omega) only [go_sem, Int.reduceToNat, ↓reduceIte, Nat.reduceLT, Nat.reduceEqDiff, Nat.reduceAdd, Nat.reduceMul, Nat.reduceSub, Nat.reduceBEq, Nat.reduceLeDiff, reduceCtorEq, Nat.reduceLT, ↓Br_true, ↓Br_false, bind, pure, sc6, sb6, p3, p4]))
  have cc := l03Own_cv r us n cap f H h12; (first | refine callR (by rfl) (by rfl) (by rfl) cc ?_ | refine callM (by rfl) (by rfl) (by rfl) cc ?_ | refine callG (by rfl) (by rfl) (by rfl) cc ?_); clear cc; rintro _ _ ⟨cap', g, hg, hc', rfl, rfl⟩
  simp (config := { maxSteps := 1000000 }) (disch := omega) only [go_sem, Int.reduceToNat, ↓reduceIte, Nat.reduceLT, Nat.reduceEqDiff, Nat.reduceAdd, Nat.reduceMul, Nat.reduceSub, Nat.reduceBEq, Nat.reduceLeDiff, reduceCtorEq, Nat.reduceLT, ↓Br_true, ↓Br_false, bind, pure, sc6, sb6]
  refine ⟨(Nat × (Nat → List FV)), fun s => s.1 ≤ n ∧ (∀ i, i < s.1 → s.2 i = (litW x (t : Int) north (us i)).fv) ∧ (∀ i, s.1 ≤ i → i < n → s.2 i = (us i).fv), fun s => n - s.1, fun s => [(2, .f (.int .i64 t)), (3, .f (.int .i64 north)), (5, .ptr 2 0 0), (8, .ptr 3 0 0), (9, .f (.int .i64 0)), (10, .ptr 5 0 0), (11, .f (.int .i64 s.1))], fun s => [.rows n cap 3 f false, .lit [.f (.int .i8 r.wi), .f (.int .i8 r.hi), .slc 0 0 n cap] true, .cells 48 (fun j => .int .i16 (x j)) true, .lit [.f (.int .i8 0), .f (.int .i8 0), .f .nils] true, .rows n cap' 3 s.2 true, .lit [.f (.int .i8 r.wi), .f (.int .i8 r.hi), .slc 4 0 n cap'] true], (0, g), (by intro _; simp), ?_, (by (try refine Or.inl ?_); simp [Cov, covE, covH, cb_dead, cb_lit, cb_rows, cb_cells, cd_lit, cd_rows, cd_cells, cd_dead, covRow, look, SV.known, SV.bd, bdL, hcap, hc'] <;> omega), ?_⟩
  · exact ⟨by omega, fun i hi => by omega, fun i _ hi => hg i hi⟩
  · rintro ⟨k, g⟩ ⟨hk, hg1, hg2⟩
    simp only at hk hg1 hg2
    by_cases hlt : k < n
    · have hd : decide ((k : Int) < n) = true := decide_eq_true (by omega)
      have e1 := hg2 k (Nat.le_refl k) hlt
      simp only [Win.fv] at e1
      have hu := allW_at hw hlt
      obtain ⟨⟨w1, w2⟩, _⟩ := win_ok hz hu
      have hal : ang (north + 64 * (us k).w) < 256 := ang_lt _
      have cf := l01Fall_cv x t (ang (north + 64 * (us k).w)) hx (by omega) (by omega) (by omega)
      simp (config := { maxSteps := 1000000 }) (disch := omega) only [go_sem, Int.reduceToNat, ↓reduceIte, Nat.reduceLT, Nat.reduceEqDiff, Nat.reduceAdd, Nat.reduceMul, Nat.reduceSub, Nat.reduceBEq, Nat.reduceLeDiff, reduceCtorEq, Nat.reduceLT, ↓Br_true, ↓Br_false, bind, pure, sc6, sb6, hd, e1]
      repeat' (first | (with_reducible refine And.intro (by first | (unfold SOk; kernel_rfl) | (unfold SBOk; kernel_rfl) | (with_reducible assumption) | omega | assumption) ?_) | (with_reducible refine Br_intro (fun hc => ?_) (fun hc => ?_)) | ((first | (refine callR (by rfl) (by rfl) (by rfl) (bl01Angle_cv _ (by omega) (by omega)) ?_; rintro _ _ ⟨rfl, rfl⟩) | (refine callM (by rfl) (by rfl) (by rfl) (bl01Angle_cv _ (by omega) (by omega)) ?_; rintro _ _ ⟨rfl, rfl⟩) | (refine callE (by rfl) (bl01Angle_cv _ (by omega) (by omega)) (by rfl) ?_)); simp (config := { maxSteps := 1000000 }) (disch := omega) only [go_sem, Int.reduceToNat, ↓reduceIte, Nat.reduceLT, Nat.reduceEqDiff, Nat.reduceAdd, Nat.reduceMul, Nat.reduceSub, Nat.reduceBEq, Nat.reduceLeDiff, reduceCtorEq, Nat.reduceLT, ↓Br_true, ↓Br_false, bind, pure, sc6, sb6, hd, e1]) | ((have cc := cf; (first | ((first | refine callR (by rfl) (by rfl) (by rfl) cc ?_ | refine callM (by rfl) (by rfl) (by rfl) cc ?_); clear cc; rintro _ _ ⟨rfl, rfl⟩) | (refine callE (by rfl) cc (by rfl) ?_; clear cc))); simp (config := { maxSteps := 1000000 }) (disch := omega) only [go_sem, Int.reduceToNat, ↓reduceIte, Nat.reduceLT, Nat.reduceEqDiff, Nat.reduceAdd, Nat.reduceMul, Nat.reduceSub, Nat.reduceBEq, Nat.reduceLeDiff, reduceCtorEq, Nat.reduceLT, ↓Br_true, ↓Br_false, bind, pure, sc6, sb6, hd, e1]) | ((with_reducible show WidN _ _ _ _ _ _ _ _); (first | refine widL (by decide) (by with_reducible assumption) ?_ | refine widL (by decide) (FWok_nn (by with_reducible assumption)) ?_ | refine widN (by decide) (fun c hc => ?_)); simp (config := { maxSteps := 1000000 }) (disch := omega) only [go_sem, Int.reduceToNat, ↓reduceIte, Nat.reduceLT, Nat.reduceEqDiff, Nat.reduceAdd, Nat.reduceMul, Nat.reduceSub, Nat.reduceBEq, Nat.reduceLeDiff, reduceCtorEq, Nat.reduceLT, ↓Br_true, ↓Br_false, bind, pure, sc6, sb6, hd, e1]))
      · have o := own_stepR (L := 1065353216) (vs := fun i => litW x (t : Int) north (us i)) hg1 hg2 hlt (by simp [litW, litL, hc])
        exact ⟨(k + 1, updR g k 2 (.flt .f32 1065353216)), ⟨by omega, o.1, o.2⟩, by omega, by (try refine Or.inl ?_); simp [Cov, covE, covH, cb_dead, cb_lit, cb_rows, cb_cells, cd_lit, cd_rows, cd_cells, cd_dead, covRow, look, SV.known, SV.bd, bdL, hcap, hc'] <;> omega⟩
      · have o := own_stepR (L := fallF x t (ang (north + 64 * (us k).w))) (vs := fun i => litW x (t : Int) north (us i)) hg1 hg2 hlt (by simp [litW, litL, hc])
        exact ⟨(k + 1, updR g k 2 (.flt .f32 (fallF x t (ang (north + 64 * (us k).w))))), ⟨by omega, o.1, o.2⟩, by omega, by (try refine Or.inl ?_); simp [Cov, covE, covH, cb_dead, cb_lit, cb_rows, cb_cells, cd_lit, cd_rows, cd_cells, cd_dead, covRow, look, SV.known, SV.bd, bdL, hcap, hc'] <;> omega⟩
    · have hd : decide ((k : Int) < n) = false := decide_eq_false (by omega)
      obtain rfl : k = n := by omega
      simp (config := { maxSteps := 1000000 }) (disch := omega) only [go_sem, Int.reduceToNat, ↓reduceIte, Nat.reduceLT, Nat.reduceEqDiff, Nat.reduceAdd, Nat.reduceMul, Nat.reduceSub, Nat.reduceBEq, Nat.reduceLeDiff, reduceCtorEq, Nat.reduceLT, ↓Br_true, ↓Br_false, bind, pure, sc6, sb6, hd]
      exact ⟨cap', g, hg1, hc', rfl, rfl⟩
theorem sLitByBad_cv (r : Rom) (us : Nat → Win) (x : Nat → Int) (hour north : Int) (n cap : Nat) (f : Nat → List FV) (H : RomH r us n cap f) (hx : Small x) (ha : askC (vRoom r us n && vSun x) (inn hour 0 23 && inn north 0 255) ≠ 0) :
    CV Try.prog 6 [romV r n cap, sunV x, .f (.int .i64 hour), .f (.int .i64 north)] [.rows n cap 3 f false] (fun v h => v = .tup [.agg [.f (.int .i8 0), .f (.int .i8 0), .f .nils], .f (.int .i64 (askC (vRoom r us n && vSun x) (inn hour 0 23 && inn north 0 255)))] ∧ h = [.rows n cap 3 f false]) := by
  have hcap := H.hcap
  refine cv_of_run 1000 sc6 sb6 59 [.cell 8 33, .tmp 9] tabOk (by kernel_rfl) Try.func6 rfl (by kernel_rfl) Try.ntmps6 rfl (by simp) rfl (by simp [bdL, SV.bd]) ?_
  simp (config := { maxSteps := 1000000 }) (disch := omega) only [go_sem, Int.reduceToNat, ↓reduceIte, Nat.reduceLT, Nat.reduceEqDiff, Nat.reduceAdd, Nat.reduceMul, Nat.reduceSub, Nat.reduceBEq, Nat.reduceLeDiff, reduceCtorEq, Nat.reduceLT, ↓Br_true, ↓Br_false, bind, pure, sc6, sb6]
  repeat' (first | (with_reducible refine And.intro (by first | (unfold SOk; kernel_rfl) | (unfold SBOk; kernel_rfl) | (with_reducible assumption) | omega | assumption) ?_) | (with_reducible refine Br_intro (fun hc => ?_) (fun hc => ?_)) | ((have cc := l03Ok_cv r us n cap f H; (first | ((first | refine callR (by rfl) (by rfl) (by rfl) cc ?_ | refine callM (by rfl) (by rfl) (by rfl) cc ?_); clear cc; rintro _ _ ⟨rfl, rfl⟩) | (refine callE (by rfl) cc (by rfl) ?_; clear cc))); simp (config := { maxSteps := 1000000 }) (disch := omega) only [go_sem, Int.reduceToNat, ↓reduceIte, Nat.reduceLT, Nat.reduceEqDiff, Nat.reduceAdd, Nat.reduceMul, Nat.reduceSub, Nat.reduceBEq, Nat.reduceLeDiff, reduceCtorEq, Nat.reduceLT, ↓Br_true, ↓Br_false, bind, pure, sc6, sb6]) | ((have cc := bl01Ok_cv x hx; (first | ((first | refine callR (by rfl) (by rfl) (by rfl) cc ?_ | refine callM (by rfl) (by rfl) (by rfl) cc ?_); clear cc; rintro _ _ ⟨rfl, rfl⟩) | (refine callE (by rfl) cc (by rfl) ?_; clear cc))); simp (config := { maxSteps := 1000000 }) (disch := omega) only [go_sem, Int.reduceToNat, ↓reduceIte, Nat.reduceLT, Nat.reduceEqDiff, Nat.reduceAdd, Nat.reduceMul, Nat.reduceSub, Nat.reduceBEq, Nat.reduceLeDiff, reduceCtorEq, Nat.reduceLT, ↓Br_true, ↓Br_false, bind, pure, sc6, sb6]) | ((first | (refine callR (by rfl) (by rfl) (by rfl) (bl01Hour_cv _) ?_; rintro _ _ ⟨rfl, rfl⟩) | (refine callM (by rfl) (by rfl) (by rfl) (bl01Hour_cv _) ?_; rintro _ _ ⟨rfl, rfl⟩) | (refine callE (by rfl) (bl01Hour_cv _) (by rfl) ?_)); simp (config := { maxSteps := 1000000 }) (disch := omega) only [go_sem, Int.reduceToNat, ↓reduceIte, Nat.reduceLT, Nat.reduceEqDiff, Nat.reduceAdd, Nat.reduceMul, Nat.reduceSub, Nat.reduceBEq, Nat.reduceLeDiff, reduceCtorEq, Nat.reduceLT, ↓Br_true, ↓Br_false, bind, pure, sc6, sb6]) | ((first | (refine callR (by rfl) (by rfl) (by rfl) (bl01Faced_cv _) ?_; rintro _ _ ⟨rfl, rfl⟩) | (refine callM (by rfl) (by rfl) (by rfl) (bl01Faced_cv _) ?_; rintro _ _ ⟨rfl, rfl⟩) | (refine callE (by rfl) (bl01Faced_cv _) (by rfl) ?_)); simp (config := { maxSteps := 1000000 }) (disch := omega) only [go_sem, Int.reduceToNat, ↓reduceIte, Nat.reduceLT, Nat.reduceEqDiff, Nat.reduceAdd, Nat.reduceMul, Nat.reduceSub, Nat.reduceBEq, Nat.reduceLeDiff, reduceCtorEq, Nat.reduceLT, ↓Br_true, ↓Br_false, bind, pure, sc6, sb6]) | ((with_reducible show WidN _ _ _ _ _ _ _ _); (first | refine widL (by decide) (by with_reducible assumption) ?_ | refine widL (by decide) (FWok_nn (by with_reducible assumption)) ?_ | refine widN (by decide) (fun c hc => ?_)); simp (config := { maxSteps := 1000000 }) (disch := omega) only [go_sem, Int.reduceToNat, ↓reduceIte, Nat.reduceLT, Nat.reduceEqDiff, Nat.reduceAdd, Nat.reduceMul, Nat.reduceSub, Nat.reduceBEq, Nat.reduceLeDiff, reduceCtorEq, Nat.reduceLT, ↓Br_true, ↓Br_false, bind, pure, sc6, sb6]))
  all_goals (clear H; simp_all [askC])
end Go.Proofs.Ytgepaaakleomeac.Vx
