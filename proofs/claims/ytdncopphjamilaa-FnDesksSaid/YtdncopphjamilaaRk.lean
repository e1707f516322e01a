/- Rooms, in the abstract: people whom desks suit. -/
import Derived.Test.YtdncopphjamilaaRh
namespace Go.Proofs.Ytdncopphjamilaa.Vx
set_option linter.unusedSimpArgs false
set_option linter.unusedVariables false
open Go Go.RowKit Fl
set_option maxRecDepth 100000
set_option maxHeartbeats 2000000
set_option linter.unusedSimpArgs false
set_option linter.unusedVariables false

structure Psn where
  lo : Nat
  hi : Nat
  gl : Nat
abbrev psnV (p : Psn) : SV := .agg [.f (.flt .f32 p.lo), .f (.flt .f32 p.hi), .f (.flt .f32 p.gl)]
def Psn.fv (p : Psn) : List FV := [.flt .f32 p.lo, .flt .f32 p.hi, .flt .f32 p.gl]
def vPsn (p : Psn) : Bool := isPlain p.lo && isPlain p.hi && isPlain p.gl && fle p.lo p.hi
theorem IsPlain_cv (a : Nat) : CV Try.prog 100 [.f (.flt .f32 a)] [] (fun v h => v = .f (.bool (isPlain a)) ∧ h = []) :=
  CV.old0 trivial (enters_of Try.func100 (by kernel_rfl) (by kernel_rfl)) fun w β _ => IsPlain_c a w
theorem l01Plain_cv (a : Nat) : CV Try.prog 157 [.f (.flt .f32 a)] [] (fun v h => v = .f (.bool (isPlain a)) ∧ h = []) :=
  CV.old0 trivial (enters_of Try.func157 (by kernel_rfl) (by kernel_rfl)) fun w β _ => l01Plain_c a w
theorem ValidPerson_cv (p : Psn) : CV Try.prog 40 [psnV p] [] (fun v h => v = .f (.bool (vPsn p)) ∧ h = []) := by
  refine cv_of_run 1000 sc40 sb40 23 [.tmp 2] tabOk (by kernel_rfl) Try.func40 rfl (by kernel_rfl) Try.ntmps40 rfl (by simp) rfl (by simp [bdL, SV.bd]) ?_
  simp (config := { maxSteps := 1000000 }) (disch := omega) only [go_sem, Int.reduceToNat, ↓reduceIte, Nat.reduceLT, Nat.reduceEqDiff, Nat.reduceAdd, Nat.reduceMul, Nat.reduceSub, Nat.reduceBEq, Nat.reduceLeDiff, reduceCtorEq, Nat.reduceLT, ↓Br_true, ↓Br_false, bind, pure, sc40, sb40]
  repeat' (first | (with_reducible refine And.intro (by first | (unfold SOk; kernel_rfl) | (unfold SBOk; kernel_rfl) | (with_reducible assumption) | omega | assumption) ?_) | (with_reducible refine Br_intro (fun hc => ?_) (fun hc => ?_)) | ((first | (refine callR (by rfl) (by rfl) (by rfl) (IsPlain_cv _) ?_; rintro _ _ ⟨rfl, rfl⟩) | (refine callM (by rfl) (by rfl) (by rfl) (IsPlain_cv _) ?_; rintro _ _ ⟨rfl, rfl⟩) | (refine callMo (by rfl) (by rfl) (by rfl) (IsPlain_cv _) ?_; rintro _ _ ⟨rfl, rfl⟩) | (refine callE (by rfl) (IsPlain_cv _) (by rfl) ?_)); simp (config := { maxSteps := 1000000 }) (disch := omega) only [go_sem, Int.reduceToNat, ↓reduceIte, Nat.reduceLT, Nat.reduceEqDiff, Nat.reduceAdd, Nat.reduceMul, Nat.reduceSub, Nat.reduceBEq, Nat.reduceLeDiff, reduceCtorEq, Nat.reduceLT, ↓Br_true, ↓Br_false, bind, pure, sc40, sb40]) | ((with_reducible show WidN _ _ _ _ _ _ _ _); (first | refine widL (by decide) (by with_reducible assumption) ?_ | refine widL (by decide) (FWok_nn (by with_reducible assumption)) ?_ | refine widN (by decide) (fun c hc => ?_)); simp (config := { maxSteps := 1000000 }) (disch := omega) only [go_sem, Int.reduceToNat, ↓reduceIte, Nat.reduceLT, Nat.reduceEqDiff, Nat.reduceAdd, Nat.reduceMul, Nat.reduceSub, Nat.reduceBEq, Nat.reduceLeDiff, reduceCtorEq, Nat.reduceLT, ↓Br_true, ↓Br_false, bind, pure, sc40, sb40]))
  all_goals simp [vPsn, *]
theorem sValidPerson_cv (p : Psn) : CV Try.prog 138 [psnV p] [] (fun v h => v = .f (.bool (vPsn p)) ∧ h = []) := by
  refine cv_of_run 1000 sc138 sb138 23 [.tmp 2] tabOk (by kernel_rfl) Try.func138 rfl (by kernel_rfl) Try.ntmps138 rfl (by simp) rfl (by simp [bdL, SV.bd]) ?_
  simp (config := { maxSteps := 1000000 }) (disch := omega) only [go_sem, Int.reduceToNat, ↓reduceIte, Nat.reduceLT, Nat.reduceEqDiff, Nat.reduceAdd, Nat.reduceMul, Nat.reduceSub, Nat.reduceBEq, Nat.reduceLeDiff, reduceCtorEq, Nat.reduceLT, ↓Br_true, ↓Br_false, bind, pure, sc138, sb138]
  repeat' (first | (with_reducible refine And.intro (by first | (unfold SOk; kernel_rfl) | (unfold SBOk; kernel_rfl) | (with_reducible assumption) | omega | assumption) ?_) | (with_reducible refine Br_intro (fun hc => ?_) (fun hc => ?_)) | ((first | (refine callR (by rfl) (by rfl) (by rfl) (l01Plain_cv _) ?_; rintro _ _ ⟨rfl, rfl⟩) | (refine callM (by rfl) (by rfl) (by rfl) (l01Plain_cv _) ?_; rintro _ _ ⟨rfl, rfl⟩) | (refine callMo (by rfl) (by rfl) (by rfl) (l01Plain_cv _) ?_; rintro _ _ ⟨rfl, rfl⟩) | (refine callE (by rfl) (l01Plain_cv _) (by rfl) ?_)); simp (config := { maxSteps := 1000000 }) (disch := omega) only [go_sem, Int.reduceToNat, ↓reduceIte, Nat.reduceLT, Nat.reduceEqDiff, Nat.reduceAdd, Nat.reduceMul, Nat.reduceSub, Nat.reduceBEq, Nat.reduceLeDiff, reduceCtorEq, Nat.reduceLT, ↓Br_true, ↓Br_false, bind, pure, sc138, sb138]) | ((with_reducible show WidN _ _ _ _ _ _ _ _); (first | refine widL (by decide) (by with_reducible assumption) ?_ | refine widL (by decide) (FWok_nn (by with_reducible assumption)) ?_ | refine widN (by decide) (fun c hc => ?_)); simp (config := { maxSteps := 1000000 }) (disch := omega) only [go_sem, Int.reduceToNat, ↓reduceIte, Nat.reduceLT, Nat.reduceEqDiff, Nat.reduceAdd, Nat.reduceMul, Nat.reduceSub, Nat.reduceBEq, Nat.reduceLeDiff, reduceCtorEq, Nat.reduceLT, ↓Br_true, ↓Br_false, bind, pure, sc138, sb138]))
  all_goals simp [vPsn, *]
def suB (r : Rom) (us : Nat → Win) (n : Nat) (d : Dsk) (p : Psn) : Bool := fle p.lo (litF r us d.at n) && fle (litF r us d.at n) p.hi && fle (glaF r us d n) p.gl
theorem suits_cv (r : Rom) (us : Nat → Win) (d : Dsk) (p : Psn) (n cap : Nat) (f : Nat → List FV) (hf : ∀ i, i < n → f i = (us i).fv) (hcap : n ≤ cap) (hn : n ≤ 1048576) (hr : r.sz) (hw : allW r us n = true) (hp : inR d.at) :
    CV Try.prog 92 [.ptr 0 0 0, dskV d, psnV p] [romB r n cap false, .rows n cap 3 f false] (fun v h => v = .f (.bool (suB r us n d p)) ∧ h = [romB r n cap false, .rows n cap 3 f false]) := by
  refine cv_of_run 1000 sc92 sb92 30 [.tmp 6] tabOk (by kernel_rfl) Try.func92 rfl (by kernel_rfl) Try.ntmps92 rfl (by simp) rfl (by simp [bdL, SV.bd]) ?_
  simp (config := { maxSteps := 1000000 }) (disch := omega) only [go_sem, Int.reduceToNat, ↓reduceIte, Nat.reduceLT, Nat.reduceEqDiff, Nat.reduceAdd, Nat.reduceMul, Nat.reduceSub, Nat.reduceBEq, Nat.reduceLeDiff, reduceCtorEq, Nat.reduceLT, ↓Br_true, ↓Br_false, bind, pure, sc92, sb92]
  repeat' (first | (with_reducible refine And.intro (by first | (unfold SOk; kernel_rfl) | (unfold SBOk; kernel_rfl) | (with_reducible assumption) | omega | assumption) ?_) | (with_reducible refine Br_intro (fun hc => ?_) (fun hc => ?_)) | ((have cc := light_cv r us d.at n cap f hf hcap hn hr hw hp; (first | ((first | refine callR (by rfl) (by rfl) (by rfl) cc ?_ | refine callM (by rfl) (by rfl) (by rfl) cc ?_ | refine callMo (by rfl) (by rfl) (by rfl) cc ?_); clear cc; rintro _ _ ⟨rfl, rfl⟩) | (refine callE (by rfl) cc (by rfl) ?_; clear cc))); simp (config := { maxSteps := 1000000 }) (disch := omega) only [go_sem, Int.reduceToNat, ↓reduceIte, Nat.reduceLT, Nat.reduceEqDiff, Nat.reduceAdd, Nat.reduceMul, Nat.reduceSub, Nat.reduceBEq, Nat.reduceLeDiff, reduceCtorEq, Nat.reduceLT, ↓Br_true, ↓Br_false, bind, pure, sc92, sb92]) | ((have cc := glare_cv r us d n cap f hf hcap hn hr hw hp; (first | ((first | refine callR (by rfl) (by rfl) (by rfl) cc ?_ | refine callM (by rfl) (by rfl) (by rfl) cc ?_ | refine callMo (by rfl) (by rfl) (by rfl) cc ?_); clear cc; rintro _ _ ⟨rfl, rfl⟩) | (refine callE (by rfl) cc (by rfl) ?_; clear cc))); simp (config := { maxSteps := 1000000 }) (disch := omega) only [go_sem, Int.reduceToNat, ↓reduceIte, Nat.reduceLT, Nat.reduceEqDiff, Nat.reduceAdd, Nat.reduceMul, Nat.reduceSub, Nat.reduceBEq, Nat.reduceLeDiff, reduceCtorEq, Nat.reduceLT, ↓Br_true, ↓Br_false, bind, pure, sc92, sb92]) | ((with_reducible show WidN _ _ _ _ _ _ _ _); (first | refine widL (by decide) (by with_reducible assumption) ?_ | refine widL (by decide) (FWok_nn (by with_reducible assumption)) ?_ | refine widN (by decide) (fun c hc => ?_)); simp (config := { maxSteps := 1000000 }) (disch := omega) only [go_sem, Int.reduceToNat, ↓reduceIte, Nat.reduceLT, Nat.reduceEqDiff, Nat.reduceAdd, Nat.reduceMul, Nat.reduceSub, Nat.reduceBEq, Nat.reduceLeDiff, reduceCtorEq, Nat.reduceLT, ↓Br_true, ↓Br_false, bind, pure, sc92, sb92]))
  all_goals simp [suB, *]
theorem l03Suits_cv (r : Rom) (us : Nat → Win) (d : Dsk) (p : Psn) (n cap : Nat) (f : Nat → List FV) (hf : ∀ i, i < n → f i = (us i).fv) (hcap : n ≤ cap) (hn : n ≤ 1048576) (hr : r.sz) (hw : allW r us n = true) (hp : inR d.at) :
    CV Try.prog 139 [.ptr 0 0 0, dskV d, psnV p] [romB r n cap false, .rows n cap 3 f false] (fun v h => v = .f (.bool (suB r us n d p)) ∧ h = [romB r n cap false, .rows n cap 3 f false]) := by
  refine cv_of_run 1000 sc139 sb139 30 [.tmp 6] tabOk (by kernel_rfl) Try.func139 rfl (by kernel_rfl) Try.ntmps139 rfl (by simp) rfl (by simp [bdL, SV.bd]) ?_
  simp (config := { maxSteps := 1000000 }) (disch := omega) only [go_sem, Int.reduceToNat, ↓reduceIte, Nat.reduceLT, Nat.reduceEqDiff, Nat.reduceAdd, Nat.reduceMul, Nat.reduceSub, Nat.reduceBEq, Nat.reduceLeDiff, reduceCtorEq, Nat.reduceLT, ↓Br_true, ↓Br_false, bind, pure, sc139, sb139]
  repeat' (first | (with_reducible refine And.intro (by first | (unfold SOk; kernel_rfl) | (unfold SBOk; kernel_rfl) | (with_reducible assumption) | omega | assumption) ?_) | (with_reducible refine Br_intro (fun hc => ?_) (fun hc => ?_)) | ((have cc := l03Light_cv r us d.at n cap f hf hcap hn hr hw hp; (first | ((first | refine callR (by rfl) (by rfl) (by rfl) cc ?_ | refine callM (by rfl) (by rfl) (by rfl) cc ?_ | refine callMo (by rfl) (by rfl) (by rfl) cc ?_); clear cc; rintro _ _ ⟨rfl, rfl⟩) | (refine callE (by rfl) cc (by rfl) ?_; clear cc))); simp (config := { maxSteps := 1000000 }) (disch := omega) only [go_sem, Int.reduceToNat, ↓reduceIte, Nat.reduceLT, Nat.reduceEqDiff, Nat.reduceAdd, Nat.reduceMul, Nat.reduceSub, Nat.reduceBEq, Nat.reduceLeDiff, reduceCtorEq, Nat.reduceLT, ↓Br_true, ↓Br_false, bind, pure, sc139, sb139]) | ((have cc := l03Glare_cv r us d n cap f hf hcap hn hr hw hp; (first | ((first | refine callR (by rfl) (by rfl) (by rfl) cc ?_ | refine callM (by rfl) (by rfl) (by rfl) cc ?_ | refine callMo (by rfl) (by rfl) (by rfl) cc ?_); clear cc; rintro _ _ ⟨rfl, rfl⟩) | (refine callE (by rfl) cc (by rfl) ?_; clear cc))); simp (config := { maxSteps := 1000000 }) (disch := omega) only [go_sem, Int.reduceToNat, ↓reduceIte, Nat.reduceLT, Nat.reduceEqDiff, Nat.reduceAdd, Nat.reduceMul, Nat.reduceSub, Nat.reduceBEq, Nat.reduceLeDiff, reduceCtorEq, Nat.reduceLT, ↓Br_true, ↓Br_false, bind, pure, sc139, sb139]) | ((with_reducible show WidN _ _ _ _ _ _ _ _); (first | refine widL (by decide) (by with_reducible assumption) ?_ | refine widL (by decide) (FWok_nn (by with_reducible assumption)) ?_ | refine widN (by decide) (fun c hc => ?_)); simp (config := { maxSteps := 1000000 }) (disch := omega) only [go_sem, Int.reduceToNat, ↓reduceIte, Nat.reduceLT, Nat.reduceEqDiff, Nat.reduceAdd, Nat.reduceMul, Nat.reduceSub, Nat.reduceBEq, Nat.reduceLeDiff, reduceCtorEq, Nat.reduceLT, ↓Br_true, ↓Br_false, bind, pure, sc139, sb139]))
  all_goals simp [suB, *]
def allPs (ps : Nat → Psn) (q : Nat) : Bool := (List.range q).all fun i => vPsn (ps i)
theorem allPs_succ (ps : Nat → Psn) (q : Nat) : allPs ps (q + 1) = (allPs ps q && vPsn (ps q)) := by simp [allPs, List.range_succ, List.all_append]
theorem allPs_no {ps : Nat → Psn} {q k : Nat} (hk : k < q) (h : vPsn (ps k) = false) : allPs ps q = false := List.all_eq_false.2 ⟨k, by simpa using hk, by simp [h]⟩
def pplC (V D P : Bool) (m q : Nat) : Int := if P then (if askC V D = 0 ∧ (8 < m ∨ 8 < q) then 3 else askC V D) else 1
structure PsnH (ps : Nat → Psn) (q cap : Nat) (u : Nat → List FV) : Prop where
  hg : ∀ i, i < q → u i = (ps i).fv
  hcap : q ≤ cap
  hm : q ≤ 1048576
theorem peopleCode_cv (r : Rom) (us : Nat → Win) (ds : Nat → Dsk) (ps : Nat → Psn) (n cap m capm q capq : Nat) (f g u : Nat → List FV) (H : RomH r us n cap f) (D : DskH ds m capm g) (P : PsnH ps q capq u) :
    CV Try.prog 91 [romV r n cap, .slc 1 0 m capm, .slc 2 0 q capq] [.rows n cap 3 f false, .rows m capm 3 g false, .rows q capq 3 u false] (fun v h => v = .f (.int .i64 (pplC (vRoom r us n) (allD r ds m) (allPs ps q) m q)) ∧ h = [.rows n cap 3 f false, .rows m capm 3 g false, .rows q capq 3 u false]) := by
  have hcap := H.hcap
  obtain ⟨hg, hcm, hm, hs⟩ := D
  obtain ⟨hu, hcq, hq⟩ := P
  refine cv_of_run 1000 sc91 sb91 37 [.tmp 6] tabOk (by kernel_rfl) Try.func91 rfl (by kernel_rfl) Try.ntmps91 rfl (by simp) rfl (by simp [bdL, SV.bd]) ?_
  simp (config := { maxSteps := 1000000 }) (disch := omega) only [go_sem, Int.reduceToNat, ↓reduceIte, Nat.reduceLT, Nat.reduceEqDiff, Nat.reduceAdd, Nat.reduceMul, Nat.reduceSub, Nat.reduceBEq, Nat.reduceLeDiff, reduceCtorEq, Nat.reduceLT, ↓Br_true, ↓Br_false, bind, pure, sc91, sb91]
  refine ⟨Nat, fun k => k ≤ q ∧ allPs ps k = true, fun k => q - k, fun k => [(1, .slc 1 0 m capm), (2, .slc 2 0 q capq), (3, .ptr 3 0 0), (6, .f (.int .i64 0)), (10, .slc 2 0 q capq), (11, .f (.int .i64 q)), (12, .f (.int .i64 k))], fun _ => [.rows n cap 3 f false, .rows m capm 3 g false, .rows q capq 3 u false, .lit [.f (.int .i8 r.wi), .f (.int .i8 r.hi), .slc 0 0 n cap] true], 0, (by intro _; simp), ?_, (by (try refine Or.inl ?_); simp [Cov, covE, covH, cb_dead, cb_lit, cb_rows, cb_cells, cd_lit, cd_rows, cd_cells, cd_dead, covRow, look, SV.known, SV.bd, bdL, hcap, hcm, hcq] <;> omega), ?_⟩
  · exact ⟨by omega, rfl⟩
  · rintro k ⟨hk, hall⟩
    by_cases hlt : k < q
    · have hd : decide ((k : Int) < q) = true := decide_eq_true (by omega)
      have e1 := hu k hlt
      simp only [Psn.fv] at e1
      simp (config := { maxSteps := 1000000 }) (disch := omega) only [go_sem, Int.reduceToNat, ↓reduceIte, Nat.reduceLT, Nat.reduceEqDiff, Nat.reduceAdd, Nat.reduceMul, Nat.reduceSub, Nat.reduceBEq, Nat.reduceLeDiff, reduceCtorEq, Nat.reduceLT, ↓Br_true, ↓Br_false, bind, pure, sc91, sb91, hd, e1]
      repeat' (first | (with_reducible refine And.intro (by first | (unfold SOk; kernel_rfl) | (unfold SBOk; kernel_rfl) | (with_reducible assumption) | omega | assumption) ?_) | (with_reducible refine Br_intro (fun hc => ?_) (fun hc => ?_)) | ((have cc := ValidPerson_cv (ps k); (first | ((first | refine callR (by rfl) (by rfl) (by rfl) cc ?_ | refine callM (by rfl) (by rfl) (by rfl) cc ?_ | refine callMo (by rfl) (by rfl) (by rfl) cc ?_); clear cc; rintro _ _ ⟨rfl, rfl⟩) | (refine callE (by rfl) cc (by rfl) ?_; clear cc))); simp (config := { maxSteps := 1000000 }) (disch := omega) only [go_sem, Int.reduceToNat, ↓reduceIte, Nat.reduceLT, Nat.reduceEqDiff, Nat.reduceAdd, Nat.reduceMul, Nat.reduceSub, Nat.reduceBEq, Nat.reduceLeDiff, reduceCtorEq, Nat.reduceLT, ↓Br_true, ↓Br_false, bind, pure, sc91, sb91, hd, e1]) | ((with_reducible show WidN _ _ _ _ _ _ _ _); (first | refine widL (by decide) (by with_reducible assumption) ?_ | refine widL (by decide) (FWok_nn (by with_reducible assumption)) ?_ | refine widN (by decide) (fun c hc => ?_)); simp (config := { maxSteps := 1000000 }) (disch := omega) only [go_sem, Int.reduceToNat, ↓reduceIte, Nat.reduceLT, Nat.reduceEqDiff, Nat.reduceAdd, Nat.reduceMul, Nat.reduceSub, Nat.reduceBEq, Nat.reduceLeDiff, reduceCtorEq, Nat.reduceLT, ↓Br_true, ↓Br_false, bind, pure, sc91, sb91, hd, e1]))
      · simp only [Bool.not_eq_true'] at hc
        simp [pplC, allPs_no hlt hc]
      · simp only [Bool.not_eq_false'] at hc
        exact ⟨k + 1, ⟨by omega, by rw [allPs_succ, hall, hc]; rfl⟩, by omega, by (try refine Or.inl ?_); simp [Cov, covE, covH, cb_dead, cb_lit, cb_rows, cb_cells, cd_lit, cd_rows, cd_cells, cd_dead, covRow, look, SV.known, SV.bd, bdL, hcap, hcm, hcq] <;> omega⟩
    · have hd : decide ((k : Int) < q) = false := decide_eq_false (by omega)
      simp (config := { maxSteps := 1000000 }) (disch := omega) only [go_sem, Int.reduceToNat, ↓reduceIte, Nat.reduceLT, Nat.reduceEqDiff, Nat.reduceAdd, Nat.reduceMul, Nat.reduceSub, Nat.reduceBEq, Nat.reduceLeDiff, reduceCtorEq, Nat.reduceLT, ↓Br_true, ↓Br_false, bind, pure, sc91, sb91, hd]
      obtain rfl : k = q := by omega
      repeat' (first | (with_reducible refine And.intro (by first | (unfold SOk; kernel_rfl) | (unfold SBOk; kernel_rfl) | (with_reducible assumption) | omega | assumption) ?_) | (with_reducible refine Br_intro (fun hc => ?_) (fun hc => ?_)) | ((have cc := areDesks_cv r ds n cap m capm f g hcap hg hcm hm hs; (first | ((first | refine callR (by rfl) (by rfl) (by rfl) cc ?_ | refine callM (by rfl) (by rfl) (by rfl) cc ?_ | refine callMo (by rfl) (by rfl) (by rfl) cc ?_); clear cc; rintro _ _ ⟨rfl, rfl⟩) | (refine callE (by rfl) cc (by rfl) ?_; clear cc))); simp (config := { maxSteps := 1000000 }) (disch := omega) only [go_sem, Int.reduceToNat, ↓reduceIte, Nat.reduceLT, Nat.reduceEqDiff, Nat.reduceAdd, Nat.reduceMul, Nat.reduceSub, Nat.reduceBEq, Nat.reduceLeDiff, reduceCtorEq, Nat.reduceLT, ↓Br_true, ↓Br_false, bind, pure, sc91, sb91]) | ((first | (refine callR (by rfl) (by rfl) (by rfl) (roomCode_cv r us n cap f _ H) ?_; rintro _ _ ⟨rfl, rfl⟩) | (refine callM (by rfl) (by rfl) (by rfl) (roomCode_cv r us n cap f _ H) ?_; rintro _ _ ⟨rfl, rfl⟩) | (refine callMo (by rfl) (by rfl) (by rfl) (roomCode_cv r us n cap f _ H) ?_; rintro _ _ ⟨rfl, rfl⟩) | (refine callE (by rfl) (roomCode_cv r us n cap f _ H) (by rfl) ?_)); simp (config := { maxSteps := 1000000 }) (disch := omega) only [go_sem, Int.reduceToNat, ↓reduceIte, Nat.reduceLT, Nat.reduceEqDiff, Nat.reduceAdd, Nat.reduceMul, Nat.reduceSub, Nat.reduceBEq, Nat.reduceLeDiff, reduceCtorEq, Nat.reduceLT, ↓Br_true, ↓Br_false, bind, pure, sc91, sb91]) | ((with_reducible show WidN _ _ _ _ _ _ _ _); (first | refine widL (by decide) (by with_reducible assumption) ?_ | refine widL (by decide) (FWok_nn (by with_reducible assumption)) ?_ | refine widN (by decide) (fun c hc => ?_)); simp (config := { maxSteps := 1000000 }) (disch := omega) only [go_sem, Int.reduceToNat, ↓reduceIte, Nat.reduceLT, Nat.reduceEqDiff, Nat.reduceAdd, Nat.reduceMul, Nat.reduceSub, Nat.reduceBEq, Nat.reduceLeDiff, reduceCtorEq, Nat.reduceLT, ↓Br_true, ↓Br_false, bind, pure, sc91, sb91]))
      all_goals simp only [decide_eq_true_eq, decide_eq_false_iff_not] at *
      all_goals (unfold pplC; rw [hall, if_pos rfl]; generalize askC (vRoom r us n) (allD r ds m) = c at *; first | rw [if_pos (by omega)] | rw [if_neg (by omega)])
theorem pplC_one (V D P : Bool) : pplC V D P 1 1 = if P then askC V D else 1 := by
  unfold pplC
  cases P
  · rfl
  · rw [if_pos rfl, if_pos rfl, if_neg (by omega)]
theorem pplC_zero {V D P : Bool} {m q : Nat} (h : pplC V D P m q = 0) : P = true ∧ askC V D = 0 ∧ m ≤ 8 ∧ q ≤ 8 := by
  unfold pplC at h
  split at h
  · rename_i hp
    split at h
    · omega
    · exact ⟨hp, h, by omega, by omega⟩
  · omega
theorem one_desk' (d : Dsk) : ∀ i, i < 1 → nthR [ [.int .i8 d.x, .int .i8 d.y, .int .i8 d.w] ] i = d.fv := fun i hi => by
  obtain rfl : i = 0 := by omega
  rfl
theorem one_psn (p : Psn) : ∀ i, i < 1 → nthR [ [.flt .f32 p.lo, .flt .f32 p.hi, .flt .f32 p.gl] ] i = p.fv := fun i hi => by
  obtain rfl : i = 0 := by omega
  rfl
abbrev suC (r : Rom) (us : Nat → Win) (n : Nat) (d : Dsk) (p : Psn) : Int := if vPsn p then askC (vRoom r us n) (dskB r d) else 1
theorem suC_zero {r : Rom} {us : Nat → Win} {n : Nat} {d : Dsk} {p : Psn} (h : suC r us n d p = 0) : askC (vRoom r us n) (dskB r d) = 0 := by
  unfold suC at h
  split at h
  · exact h
  · omega
abbrev suV (r : Rom) (us : Nat → Win) (n : Nat) (d : Dsk) (p : Psn) : SV := .tup [.f (.bool (if suC r us n d p = 0 then suB r us n d p else false)), .f (.int .i64 (suC r us n d p))]
theorem Suits_cv (r : Rom) (us : Nat → Win) (d : Dsk) (p : Psn) (n cap : Nat) (f : Nat → List FV) (H : RomH r us n cap f) (hd : d.sm) :
    CV Try.prog 39 [romV r n cap, dskV d, psnV p] [.rows n cap 3 f false] (fun v h => v = suV r us n d p ∧ h = [.rows n cap 3 f false]) := by
  have hcap := H.hcap
  have cp := peopleCode_cv r us (fun _ => d) (fun _ => p) n cap 1 1 1 1 f _ _ H ⟨one_desk' d, Nat.le_refl 1, by omega, fun i hi => hd⟩ ⟨one_psn p, Nat.le_refl 1, by omega⟩
  rw [pplC_one, show allD r (fun _ => d) 1 = dskB r d by simp [allD], show allPs (fun _ => p) 1 = vPsn p by simp [allPs]] at cp
  refine cv_of_run 1000 sc39 sb39 21 [.tmp 6, .tmp 7] tabOk (by kernel_rfl) Try.func39 rfl (by kernel_rfl) Try.ntmps39 rfl (by simp) rfl (by simp [bdL, SV.bd]) ?_
  simp (config := { maxSteps := 1000000 }) (disch := omega) only [go_sem, Int.reduceToNat, ↓reduceIte, Nat.reduceLT, Nat.reduceEqDiff, Nat.reduceAdd, Nat.reduceMul, Nat.reduceSub, Nat.reduceBEq, Nat.reduceLeDiff, reduceCtorEq, Nat.reduceLT, ↓Br_true, ↓Br_false, bind, pure, sc39, sb39]
  (have cc := cp; (first | ((first | refine callR (by rfl) (by rfl) (by rfl) cc ?_ | refine callM (by rfl) (by rfl) (by rfl) cc ?_ | refine callMo (by rfl) (by rfl) (by rfl) cc ?_); clear cc; rintro _ _ ⟨rfl, rfl⟩) | (refine callE (by rfl) cc (by rfl) ?_; clear cc)))
  simp (config := { maxSteps := 1000000 }) (disch := omega) only [go_sem, Int.reduceToNat, ↓reduceIte, Nat.reduceLT, Nat.reduceEqDiff, Nat.reduceAdd, Nat.reduceMul, Nat.reduceSub, Nat.reduceBEq, Nat.reduceLeDiff, reduceCtorEq, Nat.reduceLT, ↓Br_true, ↓Br_false, bind, pure, sc39, sb39]
  refine ⟨fun hc => ?_, fun hc => ?_⟩
  · simp only [Bool.not_eq_true', decide_eq_false_iff_not] at hc
    simp [suV, hc]
  · simp only [Bool.not_eq_false', decide_eq_true_eq] at hc
    obtain ⟨hz, h12, hw, hb⟩ := room_asked (suC_zero hc)
    have hI := desk_in hz hb
    (have cc := suits_cv r us d p n cap f H.hf hcap H.hn hz hw hI; (first | ((first | refine callR (by rfl) (by rfl) (by rfl) cc ?_ | refine callM (by rfl) (by rfl) (by rfl) cc ?_ | refine callMo (by rfl) (by rfl) (by rfl) cc ?_); clear cc; rintro _ _ ⟨rfl, rfl⟩) | (refine callE (by rfl) cc (by rfl) ?_; clear cc)))
    simp (config := { maxSteps := 1000000 }) (disch := omega) only [go_sem, Int.reduceToNat, ↓reduceIte, Nat.reduceLT, Nat.reduceEqDiff, Nat.reduceAdd, Nat.reduceMul, Nat.reduceSub, Nat.reduceBEq, Nat.reduceLeDiff, reduceCtorEq, Nat.reduceLT, ↓Br_true, ↓Br_false, bind, pure, sc39, sb39]
    simp [suV, hc]
end Go.Proofs.Ytdncopphjamilaa.Vx
