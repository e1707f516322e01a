/- Rooms, in the abstract: the desks with too much glare. -/
import Derived.Test.YtdncopphjamilaaRg
namespace Go.Proofs.Ytdncopphjamilaa.Vx
open Go Go.RowKit Fl
set_option maxRecDepth 100000
set_option maxHeartbeats 2000000
set_option linter.unusedSimpArgs false
set_option linter.unusedVariables false

theorem askC_no (V : Bool) : askC V false ≠ 0 := by cases V <;> decide
def dskC (V b : Bool) (m : Nat) : Int := if askC V b = 0 ∧ 8 < m then 3 else askC V b
theorem dskC_zero {V b : Bool} {m : Nat} (h : dskC V b m = 0) : askC V b = 0 ∧ m ≤ 8 := by
  unfold dskC at h
  split at h
  · omega
  · exact ⟨h, by omega⟩
structure DskH (ds : Nat → Dsk) (m cap : Nat) (g : Nat → List FV) : Prop where
  hg : ∀ i, i < m → g i = (ds i).fv
  hcap : m ≤ cap
  hm : m ≤ 1048576
  hs : ∀ i, i < m → (ds i).sm
theorem l03Desks_cv (r : Rom) (us : Nat → Win) (ds : Nat → Dsk) (n cap m cap' : Nat) (f g : Nat → List FV) (b : Bool) (H : RomH r us n cap f) (D : DskH ds m cap' g) :
    CV Try.prog 88 [.ptr 0 0 0, .slc 1 0 m cap', .f (.bool b)] [rmB2 r n cap, .rows m cap' 3 g false, .rows n cap 3 f false] (fun v h => v = .f (.int .i64 (dskC (vRoom r us n) (allD r ds m && b) m)) ∧ h = [rmB2 r n cap, .rows m cap' 3 g false, .rows n cap 3 f false]) := by
  have hcap := H.hcap
  obtain ⟨hg, hcap', hm, hs⟩ := D
  refine cv_of_run 1000 sc88 sb88 35 [.tmp 6] tabOk (by kernel_rfl) Try.func88 rfl (by kernel_rfl) Try.ntmps88 rfl (by simp) rfl (by simp [bdL, SV.bd]) ?_
  simp (config := { maxSteps := 1000000 }) (disch := omega) only [go_sem, Int.reduceToNat, ↓reduceIte, Nat.reduceLT, Nat.reduceEqDiff, Nat.reduceAdd, Nat.reduceMul, Nat.reduceSub, Nat.reduceBEq, Nat.reduceLeDiff, reduceCtorEq, Nat.reduceLT, ↓Br_true, ↓Br_false, bind, pure, sc88, sb88]
  refine ⟨Nat, fun k => k ≤ m, fun k => m - k, fun k => [(0, .ptr 0 0 0), (1, .slc 1 0 m cap'), (2, .f (.bool (allD r ds k && b))), (6, .f (.int .i64 0)), (7, .f (.int .i64 k))], fun _ => [rmB2 r n cap, .rows m cap' 3 g false, .rows n cap 3 f false], 0, (by intro _; simp), ?_, (by (try refine Or.inl ?_); simp [Cov, covE, covH, cb_dead, cb_lit, cb_rows, cb_cells, cd_lit, cd_rows, cd_cells, cd_dead, covRow, look, SV.known, SV.bd, bdL, allD, hcap, hcap'] <;> omega), ?_⟩
  · omega
  · intro k hk
    by_cases hlt : k < m
    · have hd : decide ((k : Int) < m) = true := decide_eq_true (by omega)
      have e1 := hg k hlt
      simp only [Dsk.fv] at e1
      have e : (allD r ds (k + 1) && b) = (allD r ds k && b && dskB r (ds k)) := by
        rw [allD_succ]; cases allD r ds k <;> cases b <;> cases dskB r (ds k) <;> rfl
      simp (config := { maxSteps := 1000000 }) (disch := omega) only [go_sem, Int.reduceToNat, ↓reduceIte, Nat.reduceLT, Nat.reduceEqDiff, Nat.reduceAdd, Nat.reduceMul, Nat.reduceSub, Nat.reduceBEq, Nat.reduceLeDiff, reduceCtorEq, Nat.reduceLT, ↓Br_true, ↓Br_false, bind, pure, sc88, sb88, hd, e1]
      repeat' (first | (with_reducible refine And.intro (by first | (unfold SOk; kernel_rfl) | (unfold SBOk; kernel_rfl) | (with_reducible assumption) | omega | assumption) ?_) | (with_reducible refine Br_intro (fun hc => ?_) (fun hc => ?_)) | ((have cc := l03Desk_cv r (ds k) n cap f hcap (hs k hlt) ⟨H.hw, H.hh⟩; (first | ((first | refine callR (by rfl) (by rfl) (by rfl) cc ?_ | refine callM (by rfl) (by rfl) (by rfl) cc ?_ | refine callMo (by rfl) (by rfl) (by rfl) cc ?_); clear cc; rintro _ _ ⟨rfl, rfl⟩) | (refine callE (by rfl) cc (by rfl) ?_; clear cc))); simp (config := { maxSteps := 1000000 }) (disch := omega) only [go_sem, Int.reduceToNat, ↓reduceIte, Nat.reduceLT, Nat.reduceEqDiff, Nat.reduceAdd, Nat.reduceMul, Nat.reduceSub, Nat.reduceBEq, Nat.reduceLeDiff, reduceCtorEq, Nat.reduceLT, ↓Br_true, ↓Br_false, bind, pure, sc88, sb88, hd, e1]) | ((with_reducible show WidN _ _ _ _ _ _ _ _); (first | refine widL (by decide) (by with_reducible assumption) ?_ | refine widL (by decide) (FWok_nn (by with_reducible assumption)) ?_ | refine widN (by decide) (fun c hc => ?_)); simp (config := { maxSteps := 1000000 }) (disch := omega) only [go_sem, Int.reduceToNat, ↓reduceIte, Nat.reduceLT, Nat.reduceEqDiff, Nat.reduceAdd, Nat.reduceMul, Nat.reduceSub, Nat.reduceBEq, Nat.reduceLeDiff, reduceCtorEq, Nat.reduceLT, ↓Br_true, ↓Br_false, bind, pure, sc88, sb88, hd, e1]))
      · exact ⟨k + 1, by omega, by omega, by (try refine Or.inl ?_); simp [Cov, covE, covH, cb_dead, cb_lit, cb_rows, cb_cells, cd_lit, cd_rows, cd_cells, cd_dead, covRow, look, SV.known, SV.bd, bdL, e, hc, hcap, hcap'] <;> omega⟩
      · exact ⟨k + 1, by omega, by omega, by (try refine Or.inl ?_); simp [Cov, covE, covH, cb_dead, cb_lit, cb_rows, cb_cells, cd_lit, cd_rows, cd_cells, cd_dead, covRow, look, SV.known, SV.bd, bdL, e, hc, hcap, hcap'] <;> omega⟩
    · have hd : decide ((k : Int) < m) = false := decide_eq_false (by omega)
      simp (config := { maxSteps := 1000000 }) (disch := omega) only [go_sem, Int.reduceToNat, ↓reduceIte, Nat.reduceLT, Nat.reduceEqDiff, Nat.reduceAdd, Nat.reduceMul, Nat.reduceSub, Nat.reduceBEq, Nat.reduceLeDiff, reduceCtorEq, Nat.reduceLT, ↓Br_true, ↓Br_false, bind, pure, sc88, sb88, hd]
      obtain rfl : k = m := by omega
      repeat' (first | (with_reducible refine And.intro (by first | (unfold SOk; kernel_rfl) | (unfold SBOk; kernel_rfl) | (with_reducible assumption) | omega | assumption) ?_) | (with_reducible refine Br_intro (fun hc => ?_) (fun hc => ?_)) | ((first | (refine callR (by rfl) (by rfl) (by rfl) (l03Asked_cv r us n cap f _ H) ?_; rintro _ _ ⟨rfl, rfl⟩) | (refine callM (by rfl) (by rfl) (by rfl) (l03Asked_cv r us n cap f _ H) ?_; rintro _ _ ⟨rfl, rfl⟩) | (refine callMo (by rfl) (by rfl) (by rfl) (l03Asked_cv r us n cap f _ H) ?_; rintro _ _ ⟨rfl, rfl⟩) | (refine callE (by rfl) (l03Asked_cv r us n cap f _ H) (by rfl) ?_)); simp (config := { maxSteps := 1000000 }) (disch := omega) only [go_sem, Int.reduceToNat, ↓reduceIte, Nat.reduceLT, Nat.reduceEqDiff, Nat.reduceAdd, Nat.reduceMul, Nat.reduceSub, Nat.reduceBEq, Nat.reduceLeDiff, reduceCtorEq, Nat.reduceLT, ↓Br_true, ↓Br_false, bind, pure, sc88, sb88]) | ((with_reducible show WidN _ _ _ _ _ _ _ _); (first | refine widL (by decide) (by with_reducible assumption) ?_ | refine widL (by decide) (FWok_nn (by with_reducible assumption)) ?_ | refine widN (by decide) (fun c hc => ?_)); simp (config := { maxSteps := 1000000 }) (disch := omega) only [go_sem, Int.reduceToNat, ↓reduceIte, Nat.reduceLT, Nat.reduceEqDiff, Nat.reduceAdd, Nat.reduceMul, Nat.reduceSub, Nat.reduceBEq, Nat.reduceLeDiff, reduceCtorEq, Nat.reduceLT, ↓Br_true, ↓Br_false, bind, pure, sc88, sb88]))
      all_goals first | (simp_all [dskC]; done) | (simp_all [dskC]; omega)
def gbI (r : Rom) (us : Nat → Win) (n : Nat) (ds : Nat → Dsk) (bound : Nat) : Nat → Int
  | 0 => 0
  | k + 1 => if flt bound (glaF r us (ds k) n) then bitI .or .u16 (gbI r us n ds bound k) (shlI .u16 1 k) else gbI r us n ds bound k
abbrev gbC (r : Rom) (us : Nat → Win) (n : Nat) (ds : Nat → Dsk) (m bound : Nat) : Int := dskC (vRoom r us n) (allD r ds m && feq bound bound) m
abbrev gbV (r : Rom) (us : Nat → Win) (n : Nat) (ds : Nat → Dsk) (m bound : Nat) : SV :=
  .tup [.f (.int .u16 (if gbC r us n ds m bound = 0 then gbI r us n ds bound m else 0)), .f (.int .i64 (gbC r us n ds m bound))]
theorem GlareBits_cv (r : Rom) (us : Nat → Win) (ds : Nat → Dsk) (bound n cap m cap' : Nat) (f g : Nat → List FV) (H : RomH r us n cap f) (D : DskH ds m cap' g) :
    CV Try.prog 28 [romV r n cap, .slc 1 0 m cap', .f (.flt .f32 bound)] [.rows n cap 3 f false, .rows m cap' 3 g false] (fun v h => v = gbV r us n ds m bound ∧ h = [.rows n cap 3 f false, .rows m cap' 3 g false]) := by
  have hcap := H.hcap
  obtain ⟨hg, hcap', hm, hs⟩ := D
  refine cv_of_run 1000 sc28 sb28 44 [.tmp 6, .tmp 7] tabOk (by kernel_rfl) Try.func28 rfl (by kernel_rfl) Try.ntmps28 rfl (by simp) rfl (by simp [bdL, SV.bd]) ?_
  simp (config := { maxSteps := 1000000 }) (disch := omega) only [go_sem, Int.reduceToNat, ↓reduceIte, Nat.reduceLT, Nat.reduceEqDiff, Nat.reduceAdd, Nat.reduceMul, Nat.reduceSub, Nat.reduceBEq, Nat.reduceLeDiff, reduceCtorEq, Nat.reduceLT, ↓Br_true, ↓Br_false, bind, pure, sc28, sb28]
  repeat' (first | (with_reducible refine And.intro (by first | (unfold SOk; kernel_rfl) | (unfold SBOk; kernel_rfl) | (with_reducible assumption) | omega | assumption) ?_) | (with_reducible refine Br_intro (fun hc => ?_) (fun hc => ?_)) | ((have cc := areDesks_cv r ds n cap m cap' f g hcap hg hcap' hm hs; (first | ((first | refine callR (by rfl) (by rfl) (by rfl) cc ?_ | refine callM (by rfl) (by rfl) (by rfl) cc ?_ | refine callMo (by rfl) (by rfl) (by rfl) cc ?_); clear cc; rintro _ _ ⟨rfl, rfl⟩) | (refine callE (by rfl) cc (by rfl) ?_; clear cc))); simp (config := { maxSteps := 1000000 }) (disch := omega) only [go_sem, Int.reduceToNat, ↓reduceIte, Nat.reduceLT, Nat.reduceEqDiff, Nat.reduceAdd, Nat.reduceMul, Nat.reduceSub, Nat.reduceBEq, Nat.reduceLeDiff, reduceCtorEq, Nat.reduceLT, ↓Br_true, ↓Br_false, bind, pure, sc28, sb28]) | ((first | (refine callR (by rfl) (by rfl) (by rfl) (roomCode_cv r us n cap f _ H) ?_; rintro _ _ ⟨rfl, rfl⟩) | (refine callM (by rfl) (by rfl) (by rfl) (roomCode_cv r us n cap f _ H) ?_; rintro _ _ ⟨rfl, rfl⟩) | (refine callMo (by rfl) (by rfl) (by rfl) (roomCode_cv r us n cap f _ H) ?_; rintro _ _ ⟨rfl, rfl⟩) | (refine callE (by rfl) (roomCode_cv r us n cap f _ H) (by rfl) ?_)); simp (config := { maxSteps := 1000000 }) (disch := omega) only [go_sem, Int.reduceToNat, ↓reduceIte, Nat.reduceLT, Nat.reduceEqDiff, Nat.reduceAdd, Nat.reduceMul, Nat.reduceSub, Nat.reduceBEq, Nat.reduceLeDiff, reduceCtorEq, Nat.reduceLT, ↓Br_true, ↓Br_false, bind, pure, sc28, sb28]) | ((with_reducible show WidN _ _ _ _ _ _ _ _); (first | refine widL (by decide) (by with_reducible assumption) ?_ | refine widL (by decide) (FWok_nn (by with_reducible assumption)) ?_ | refine widN (by decide) (fun c hc => ?_)); simp (config := { maxSteps := 1000000 }) (disch := omega) only [go_sem, Int.reduceToNat, ↓reduceIte, Nat.reduceLT, Nat.reduceEqDiff, Nat.reduceAdd, Nat.reduceMul, Nat.reduceSub, Nat.reduceBEq, Nat.reduceLeDiff, reduceCtorEq, Nat.reduceLT, ↓Br_true, ↓Br_false, bind, pure, sc28, sb28]))
  · simp only [Bool.not_eq_true', decide_eq_false_iff_not] at hc
    simp [gbV, gbC, dskC, *]
  · rename_i hA hB
    simp only [Bool.not_eq_false', decide_eq_true_eq] at hB hc
    have h8 : 8 < m := by omega
    simp [gbV, gbC, dskC, *]
  · rename_i hA hB
    simp only [Bool.not_eq_false', decide_eq_true_eq, decide_eq_false_iff_not] at hB hc
    have h8 : ¬ 8 < m := by omega
    obtain ⟨hz, h12, hw, hb⟩ := room_asked hB
    have eC : gbC r us n ds m bound = 0 := by unfold gbC dskC; rw [hA, Bool.true_and, if_neg (fun h => h8 h.2)]; exact hB
    have eV : gbV r us n ds m bound = .tup [.f (.int .u16 (gbI r us n ds bound m)), .f (.int .i64 0)] := by simp [gbV, eC]
    rw [eV]
    refine ⟨Nat, fun k => k ≤ m, fun k => m - k, fun k => [(2, .f (.flt .f32 bound)), (3, .ptr 2 0 0), (6, .f (.int .u16 0)), (7, .f (.int .i64 0)), (9, .f (.int .u16 (gbI r us n ds bound k))), (27, .slc 1 0 m cap'), (28, .f (.int .i64 m)), (29, .f (.int .i64 k))], fun _ => [.rows n cap 3 f false, .rows m cap' 3 g false, .lit [.f (.int .i8 r.wi), .f (.int .i8 r.hi), .slc 0 0 n cap] true], 0, (by intro _; simp), ?_, (by (try refine Or.inl ?_); simp [Cov, covE, covH, cb_dead, cb_lit, cb_rows, cb_cells, cd_lit, cd_rows, cd_cells, cd_dead, covRow, look, SV.known, SV.bd, bdL, gbI, hcap, hcap'] <;> omega), ?_⟩
    · omega
    · intro k hk
      by_cases hlt : k < m
      · have hd : decide ((k : Int) < m) = true := decide_eq_true (by omega)
        have e1 := hg k hlt
        simp only [Dsk.fv] at e1
        have hI := desk_in hz (allD_at hA hlt)
        simp (config := { maxSteps := 1000000 }) (disch := omega) only [go_sem, Int.reduceToNat, ↓reduceIte, Nat.reduceLT, Nat.reduceEqDiff, Nat.reduceAdd, Nat.reduceMul, Nat.reduceSub, Nat.reduceBEq, Nat.reduceLeDiff, reduceCtorEq, Nat.reduceLT, ↓Br_true, ↓Br_false, bind, pure, sc28, sb28, hd, e1]
        repeat' (first | (with_reducible refine And.intro (by first | (unfold SOk; kernel_rfl) | (unfold SBOk; kernel_rfl) | (with_reducible assumption) | omega | assumption) ?_) | (with_reducible refine Br_intro (fun hc => ?_) (fun hc => ?_)) | ((have cc := glare_cv r us (ds k) n cap f H.hf hcap H.hn hz hw hI; (first | ((first | refine callR (by rfl) (by rfl) (by rfl) cc ?_ | refine callM (by rfl) (by rfl) (by rfl) cc ?_ | refine callMo (by rfl) (by rfl) (by rfl) cc ?_); clear cc; rintro _ _ ⟨rfl, rfl⟩) | (refine callE (by rfl) cc (by rfl) ?_; clear cc))); simp (config := { maxSteps := 1000000 }) (disch := omega) only [go_sem, Int.reduceToNat, ↓reduceIte, Nat.reduceLT, Nat.reduceEqDiff, Nat.reduceAdd, Nat.reduceMul, Nat.reduceSub, Nat.reduceBEq, Nat.reduceLeDiff, reduceCtorEq, Nat.reduceLT, ↓Br_true, ↓Br_false, bind, pure, sc28, sb28, hd, e1]) | ((with_reducible show WidN _ _ _ _ _ _ _ _); (first | refine widL (by decide) (by with_reducible assumption) ?_ | refine widL (by decide) (FWok_nn (by with_reducible assumption)) ?_ | refine widN (by decide) (fun c hc => ?_)); simp (config := { maxSteps := 1000000 }) (disch := omega) only [go_sem, Int.reduceToNat, ↓reduceIte, Nat.reduceLT, Nat.reduceEqDiff, Nat.reduceAdd, Nat.reduceMul, Nat.reduceSub, Nat.reduceBEq, Nat.reduceLeDiff, reduceCtorEq, Nat.reduceLT, ↓Br_true, ↓Br_false, bind, pure, sc28, sb28, hd, e1]))
        · exact ⟨k + 1, by omega, by omega, by (try refine Or.inl ?_); simp [Cov, covE, covH, cb_dead, cb_lit, cb_rows, cb_cells, cd_lit, cd_rows, cd_cells, cd_dead, covRow, look, SV.known, SV.bd, bdL, gbI, hc, hcap, hcap'] <;> omega⟩
        · exact ⟨k + 1, by omega, by omega, by (try refine Or.inl ?_); simp [Cov, covE, covH, cb_dead, cb_lit, cb_rows, cb_cells, cd_lit, cd_rows, cd_cells, cd_dead, covRow, look, SV.known, SV.bd, bdL, gbI, hc, hcap, hcap'] <;> omega⟩
      · have hd : decide ((k : Int) < m) = false := decide_eq_false (by omega)
        simp (config := { maxSteps := 1000000 }) (disch := omega) only [go_sem, Int.reduceToNat, ↓reduceIte, Nat.reduceLT, Nat.reduceEqDiff, Nat.reduceAdd, Nat.reduceMul, Nat.reduceSub, Nat.reduceBEq, Nat.reduceLeDiff, reduceCtorEq, Nat.reduceLT, ↓Br_true, ↓Br_false, bind, pure, sc28, sb28, hd]
        obtain rfl : k = m := by omega
        rfl
  · simp [gbV, gbC, dskC, askC_no, *]
  all_goals exact absurd (by simpa using (by assumption : (!decide (askC (vRoom r us n) false = 0)) = false)) (askC_no _)
theorem rNotNan_cv (a : Nat) : CV Try.prog 89 [.f (.flt .f32 a)] [] (fun v h => v = .f (.bool (feq a a)) ∧ h = []) := by
  refine cv_of_run 1000 sc89 sb89 6 [.tmp 2] tabOk (by kernel_rfl) Try.func89 rfl (by kernel_rfl) Try.ntmps89 rfl (by simp) rfl (by simp [bdL, SV.bd]) ?_
  simp (config := { maxSteps := 1000000 }) (disch := omega) only [go_sem, Int.reduceToNat, ↓reduceIte, Nat.reduceLT, Nat.reduceEqDiff, Nat.reduceAdd, Nat.reduceMul, Nat.reduceSub, Nat.reduceBEq, Nat.reduceLeDiff, reduceCtorEq, Nat.reduceLT, ↓Br_true, ↓Br_false, bind, pure, sc89, sb89]
theorem sGlareBits_cv (r : Rom) (us : Nat → Win) (ds : Nat → Dsk) (bound n cap m cap' : Nat) (f g : Nat → List FV) (H : RomH r us n cap f) (D : DskH ds m cap' g) :
    CV Try.prog 29 [romV r n cap, .slc 1 0 m cap', .f (.flt .f32 bound)] [.rows n cap 3 f false, .rows m cap' 3 g false] (fun v h => v = gbV r us n ds m bound ∧ h = [.rows n cap 3 f false, .rows m cap' 3 g false]) := by
  have hcap := H.hcap
  have hD := D
  obtain ⟨hg, hcap', hm, hs⟩ := D
  refine cv_of_run 1000 sc29 sb29 37 [.tmp 6, .tmp 7] tabOk (by kernel_rfl) Try.func29 rfl (by kernel_rfl) Try.ntmps29 rfl (by simp) rfl (by simp [bdL, SV.bd]) ?_
  simp (config := { maxSteps := 1000000 }) (disch := omega) only [go_sem, Int.reduceToNat, ↓reduceIte, Nat.reduceLT, Nat.reduceEqDiff, Nat.reduceAdd, Nat.reduceMul, Nat.reduceSub, Nat.reduceBEq, Nat.reduceLeDiff, reduceCtorEq, Nat.reduceLT, ↓Br_true, ↓Br_false, bind, pure, sc29, sb29]
  repeat' (first | (with_reducible refine And.intro (by first | (unfold SOk; kernel_rfl) | (unfold SBOk; kernel_rfl) | (with_reducible assumption) | omega | assumption) ?_) | (with_reducible refine Br_intro (fun hc => ?_) (fun hc => ?_)) | ((first | (refine callR (by rfl) (by rfl) (by rfl) (rNotNan_cv _) ?_; rintro _ _ ⟨rfl, rfl⟩) | (refine callM (by rfl) (by rfl) (by rfl) (rNotNan_cv _) ?_; rintro _ _ ⟨rfl, rfl⟩) | (refine callMo (by rfl) (by rfl) (by rfl) (rNotNan_cv _) ?_; rintro _ _ ⟨rfl, rfl⟩) | (refine callE (by rfl) (rNotNan_cv _) (by rfl) ?_)); simp (config := { maxSteps := 1000000 }) (disch := omega) only [go_sem, Int.reduceToNat, ↓reduceIte, Nat.reduceLT, Nat.reduceEqDiff, Nat.reduceAdd, Nat.reduceMul, Nat.reduceSub, Nat.reduceBEq, Nat.reduceLeDiff, reduceCtorEq, Nat.reduceLT, ↓Br_true, ↓Br_false, bind, pure, sc29, sb29]) | ((first | (refine callR (by rfl) (by rfl) (by rfl) (l03Desks_cv r us ds n cap m cap' f g _ H hD) ?_; rintro _ _ ⟨rfl, rfl⟩) | (refine callM (by rfl) (by rfl) (by rfl) (l03Desks_cv r us ds n cap m cap' f g _ H hD) ?_; rintro _ _ ⟨rfl, rfl⟩) | (refine callMo (by rfl) (by rfl) (by rfl) (l03Desks_cv r us ds n cap m cap' f g _ H hD) ?_; rintro _ _ ⟨rfl, rfl⟩) | (refine callE (by rfl) (l03Desks_cv r us ds n cap m cap' f g _ H hD) (by rfl) ?_)); simp (config := { maxSteps := 1000000 }) (disch := omega) only [go_sem, Int.reduceToNat, ↓reduceIte, Nat.reduceLT, Nat.reduceEqDiff, Nat.reduceAdd, Nat.reduceMul, Nat.reduceSub, Nat.reduceBEq, Nat.reduceLeDiff, reduceCtorEq, Nat.reduceLT, ↓Br_true, ↓Br_false, bind, pure, sc29, sb29]) | ((with_reducible show WidN _ _ _ _ _ _ _ _); (first | refine widL (by decide) (by with_reducible assumption) ?_ | refine widL (by decide) (FWok_nn (by with_reducible assumption)) ?_ | refine widN (by decide) (fun c hc => ?_)); simp (config := { maxSteps := 1000000 }) (disch := omega) only [go_sem, Int.reduceToNat, ↓reduceIte, Nat.reduceLT, Nat.reduceEqDiff, Nat.reduceAdd, Nat.reduceMul, Nat.reduceSub, Nat.reduceBEq, Nat.reduceLeDiff, reduceCtorEq, Nat.reduceLT, ↓Br_true, ↓Br_false, bind, pure, sc29, sb29]))
  · simp only [Bool.not_eq_true', decide_eq_false_iff_not] at hc
    simp [gbV, gbC, *]
  · simp only [Bool.not_eq_false', decide_eq_true_eq] at hc
    obtain ⟨hB, h8⟩ := dskC_zero hc
    obtain ⟨hz, h12, hw, hb⟩ := room_asked hB
    have hA := (Bool.and_eq_true _ _ ▸ hb : allD r ds m = true ∧ feq bound bound = true).1
    have eV : gbV r us n ds m bound = .tup [.f (.int .u16 (gbI r us n ds bound m)), .f (.int .i64 0)] := by simp [gbV, hc]
    rw [eV]
    refine ⟨Nat, fun k => k ≤ m, fun k => m - k, fun k => [(1, .slc 1 0 m cap'), (2, .f (.flt .f32 bound)), (3, .ptr 2 0 0), (6, .f (.int .u16 0)), (7, .f (.int .i64 0)), (9, .f (.int .u16 (gbI r us n ds bound k))), (10, .f (.int .i64 k))], fun _ => [.rows n cap 3 f false, .rows m cap' 3 g false, .lit [.f (.int .i8 r.wi), .f (.int .i8 r.hi), .slc 0 0 n cap] true], 0, (by intro _; simp), ?_, (by (try refine Or.inl ?_); simp [Cov, covE, covH, cb_dead, cb_lit, cb_rows, cb_cells, cd_lit, cd_rows, cd_cells, cd_dead, covRow, look, SV.known, SV.bd, bdL, gbI, hcap, hcap'] <;> omega), ?_⟩
    · omega
    · intro k hk
      by_cases hlt : k < m
      · have hd : decide ((k : Int) < m) = true := decide_eq_true (by omega)
        have e1 := hg k hlt
        simp only [Dsk.fv] at e1
        have hI := desk_in hz (allD_at hA hlt)
        simp (config := { maxSteps := 1000000 }) (disch := omega) only [go_sem, Int.reduceToNat, ↓reduceIte, Nat.reduceLT, Nat.reduceEqDiff, Nat.reduceAdd, Nat.reduceMul, Nat.reduceSub, Nat.reduceBEq, Nat.reduceLeDiff, reduceCtorEq, Nat.reduceLT, ↓Br_true, ↓Br_false, bind, pure, sc29, sb29, hd, e1]
        repeat' (first | (with_reducible refine And.intro (by first | (unfold SOk; kernel_rfl) | (unfold SBOk; kernel_rfl) | (with_reducible assumption) | omega | assumption) ?_) | (with_reducible refine Br_intro (fun hc => ?_) (fun hc => ?_)) | ((have cc := l03Glare_cv r us (ds k) n cap f H.hf hcap H.hn hz hw hI; (first | ((first | refine callR (by rfl) (by rfl) (by rfl) cc ?_ | refine callM (by rfl) (by rfl) (by rfl) cc ?_ | refine callMo (by rfl) (by rfl) (by rfl) cc ?_); clear cc; rintro _ _ ⟨rfl, rfl⟩) | (refine callE (by rfl) cc (by rfl) ?_; clear cc))); simp (config := { maxSteps := 1000000 }) (disch := omega) only [go_sem, Int.reduceToNat, ↓reduceIte, Nat.reduceLT, Nat.reduceEqDiff, Nat.reduceAdd, Nat.reduceMul, Nat.reduceSub, Nat.reduceBEq, Nat.reduceLeDiff, reduceCtorEq, Nat.reduceLT, ↓Br_true, ↓Br_false, bind, pure, sc29, sb29, hd, e1]) | ((with_reducible show WidN _ _ _ _ _ _ _ _); (first | refine widL (by decide) (by with_reducible assumption) ?_ | refine widL (by decide) (FWok_nn (by with_reducible assumption)) ?_ | refine widN (by decide) (fun c hc => ?_)); simp (config := { maxSteps := 1000000 }) (disch := omega) only [go_sem, Int.reduceToNat, ↓reduceIte, Nat.reduceLT, Nat.reduceEqDiff, Nat.reduceAdd, Nat.reduceMul, Nat.reduceSub, Nat.reduceBEq, Nat.reduceLeDiff, reduceCtorEq, Nat.reduceLT, ↓Br_true, ↓Br_false, bind, pure, sc29, sb29, hd, e1]))
        · exact ⟨k + 1, by omega, by omega, by (try refine Or.inl ?_); simp [Cov, covE, covH, cb_dead, cb_lit, cb_rows, cb_cells, cd_lit, cd_rows, cd_cells, cd_dead, covRow, look, SV.known, SV.bd, bdL, gbI, hc, hcap, hcap'] <;> omega⟩
        · exact ⟨k + 1, by omega, by omega, by (try refine Or.inl ?_); simp [Cov, covE, covH, cb_dead, cb_lit, cb_rows, cb_cells, cd_lit, cd_rows, cd_cells, cd_dead, covRow, look, SV.known, SV.bd, bdL, gbI, hc, hcap, hcap'] <;> omega⟩
      · have hd : decide ((k : Int) < m) = false := decide_eq_false (by omega)
        simp (config := { maxSteps := 1000000 }) (disch := omega) only [go_sem, Int.reduceToNat, ↓reduceIte, Nat.reduceLT, Nat.reduceEqDiff, Nat.reduceAdd, Nat.reduceMul, Nat.reduceSub, Nat.reduceBEq, Nat.reduceLeDiff, reduceCtorEq, Nat.reduceLT, ↓Br_true, ↓Br_false, bind, pure, sc29, sb29, hd]
        obtain rfl : k = m := by omega
        rfl
end Go.Proofs.Ytdncopphjamilaa.Vx
