/- Rooms, in the abstract: people whom desks suit. -/
import Derived.Test.YtgepaaakleomeabRh
namespace Go.Proofs.Ytgepaaakleomeab.Vx
set_option linter.unusedSimpArgs false
set_option linter.unusedVariables false
open Go Go.RowKit Fl
set_option maxRecDepth 100000
set_option maxHeartbeats 2000000
set_option linter.unusedSimpArgs false
set_option linter.unusedVariables false

structure Psn where
  lo : Nat
  hi : Nat
  gl : Nat
abbrev psnV (p : Psn) : SV := .agg [.f (.flt .f32 p.lo), .f (.flt .f32 p.hi), .f (.flt .f32 p.gl)]
def Psn.fv (p : Psn) : List FV := [.flt .f32 p.lo, .flt .f32 p.hi, .flt .f32 p.gl]
def vPsn (p : Psn) : Bool := isPlain p.lo && isPlain p.hi && isPlain p.gl && fle p.lo p.hi
theorem IsPlain_cv (a : Nat) : CV Try.prog 98 [.f (.flt .f32 a)] [] (fun v h => v = .f (.bool (isPlain a)) ∧ h = []) :=
  CV.old0 trivial (enters_of Try.func98 (by kernel_rfl) (by kernel_rfl)) fun w β _ => IsPlain_c a w
theorem l01Plain_cv (a : Nat) : CV Try.prog 91 [.f (.flt .f32 a)] [] (fun v h => v = .f (.bool (isPlain a)) ∧ h = []) :=
  CV.old0 trivial (enters_of Try.func91 (by kernel_rfl) (by kernel_rfl)) fun w β _ => l01Plain_c a w
theorem ValidPerson_cv (p : Psn) : CV Try.prog 92 [psnV p] [] (fun v h => v = .f (.bool (vPsn p)) ∧ h = []) := by
  refine cv_of_run 1000 sc92 sb92 23 [.tmp 2] tabOk (by kernel_rfl) Try.func92 rfl (by kernel_rfl) Try.ntmps92 rfl (by simp) rfl (by simp [bdL, SV.bd]) ?_
  simp (config := { maxSteps := 1000000 }) (disch := omega) only [go_sem, Int.reduceToNat, ↓reduceIte, Nat.reduceLT, Nat.reduceEqDiff, Nat.reduceAdd, Nat.reduceMul, Nat.reduceSub, Nat.reduceBEq, Nat.reduceLeDiff, reduceCtorEq, Nat.reduceLT, ↓Br_true, ↓Br_false, bind, pure, sc92, sb92]
  repeat' (first | (with_reducible refine And.intro (by first | (unfold SOk; kernel_rfl) | (unfold SBOk; kernel_rfl) | (with_reducible assumption) | omega | assumption) ?_) | (with_reducible refine Br_intro (fun hc => ?_) (fun hc => ?_)) | ((first | (refine callR (by rfl) (by rfl) (by rfl) (IsPlain_cv _) ?_; rintro _ _ ⟨rfl, rfl⟩) | (refine callM (by rfl) (by rfl) (by rfl) (IsPlain_cv _) ?_; rintro _ _ ⟨rfl, rfl⟩) | (refine callE (by rfl) (IsPlain_cv _) (by rfl) ?_)); simp (config := { maxSteps := 1000000 }) (disch := omega) only [go_sem, Int.reduceToNat, ↓reduceIte, Nat.reduceLT, Nat.reduceEqDiff, Nat.reduceAdd, Nat.reduceMul, Nat.reduceSub, Nat.reduceBEq, Nat.reduceLeDiff, reduceCtorEq, Nat.reduceLT, ↓Br_true, ↓Br_false, bind, pure, sc92, sb92]) | ((with_reducible show WidN _ _ _ _ _ _ _ _); (first | refine widL (by decide) (by with_reducible assumption) ?_ | refine widL (by decide) (FWok_nn (by with_reducible assumption)) ?_ | refine widN (by decide) (fun c hc => ?_)); simp (config := { maxSteps := 1000000 }) (disch := omega) only [go_sem, Int.reduceToNat, ↓reduceIte, Nat.reduceLT, Nat.reduceEqDiff, Nat.reduceAdd, Nat.reduceMul, Nat.reduceSub, Nat.reduceBEq, Nat.reduceLeDiff, reduceCtorEq, Nat.reduceLT, ↓Br_true, ↓Br_false, bind, pure, sc92, sb92]))
  all_goals simp [vPsn, *]
theorem sValidPerson_cv (p : Psn) : CV Try.prog 64 [psnV p] [] (fun v h => v = .f (.bool (vPsn p)) ∧ h = []) := by
  refine cv_of_run 1000 sc64 sb64 23 [.tmp 2] tabOk (by kernel_rfl) Try.func64 rfl (by kernel_rfl) Try.ntmps64 rfl (by simp) rfl (by simp [bdL, SV.bd]) ?_
  simp (config := { maxSteps := 1000000 }) (disch := omega) only [go_sem, Int.reduceToNat, ↓reduceIte, Nat.reduceLT, Nat.reduceEqDiff, Nat.reduceAdd, Nat.reduceMul, Nat.reduceSub, Nat.reduceBEq, Nat.reduceLeDiff, reduceCtorEq, Nat.reduceLT, ↓Br_true, ↓Br_false, bind, pure, sc64, sb64]
  repeat' (first | (with_reducible refine And.intro (by first | (unfold SOk; kernel_rfl) | (unfold SBOk; kernel_rfl) | (with_reducible assumption) | omega | assumption) ?_) | (with_reducible refine Br_intro (fun hc => ?_) (fun hc => ?_)) | ((first | (refine callR (by rfl) (by rfl) (by rfl) (l01Plain_cv _) ?_; rintro _ _ ⟨rfl, rfl⟩) | (refine callM (by rfl) (by rfl) (by rfl) (l01Plain_cv _) ?_; rintro _ _ ⟨rfl, rfl⟩) | (refine callE (by rfl) (l01Plain_cv _) (by rfl) ?_)); simp (config := { maxSteps := 1000000 }) (disch := omega) only [go_sem, Int.reduceToNat, ↓reduceIte, Nat.reduceLT, Nat.reduceEqDiff, Nat.reduceAdd, Nat.reduceMul, Nat.reduceSub, Nat.reduceBEq, Nat.reduceLeDiff, reduceCtorEq, Nat.reduceLT, ↓Br_true, ↓Br_false, bind, pure, sc64, sb64]) | ((with_reducible show WidN _ _ _ _ _ _ _ _); (first | refine widL (by decide) (by with_reducible assumption) ?_ | refine widL (by decide) (FWok_nn (by with_reducible assumption)) ?_ | refine widN (by decide) (fun c hc => ?_)); simp (config := { maxSteps := 1000000 }) (disch := omega) only [go_sem, Int.reduceToNat, ↓reduceIte, Nat.reduceLT, Nat.reduceEqDiff, Nat.reduceAdd, Nat.reduceMul, Nat.reduceSub, Nat.reduceBEq, Nat.reduceLeDiff, reduceCtorEq, Nat.reduceLT, ↓Br_true, ↓Br_false, bind, pure, sc64, sb64]))
  all_goals simp [vPsn, *]
def suB (r : Rom) (us : Nat → Win) (n : Nat) (d : Dsk) (p : Psn) : Bool := fle p.lo (litF r us d.at n) && fle (litF r us d.at n) p.hi && fle (glaF r us d n) p.gl
theorem suits_cv (r : Rom) (us : Nat → Win) (d : Dsk) (p : Psn) (n cap : Nat) (f : Nat → List FV) (hf : ∀ i, i < n → f i = (us i).fv) (hcap : n ≤ cap) (hn : n ≤ 1048576) (hr : r.sz) (hw : allW r us n = true) (hp : inR d.at) :
    CV Try.prog 67 [.ptr 0 0 0, dskV d, psnV p] [romB r n cap false, .rows n cap 3 f false] (fun v h => v = .f (.bool (suB r us n d p)) ∧ h = [romB r n cap false, .rows n cap 3 f false]) := by
  refine cv_of_run 1000 sc67 sb67 30 [.tmp 6] tabOk (by kernel_rfl) Try.func67 rfl (by kernel_rfl) Try.ntmps67 rfl (by simp) rfl (by simp [bdL, SV.bd]) ?_
  simp (config := { maxSteps := 1000000 }) (disch := omega) only [go_sem, Int.reduceToNat, ↓reduceIte, Nat.reduceLT, Nat.reduceEqDiff, Nat.reduceAdd, Nat.reduceMul, Nat.reduceSub, Nat.reduceBEq, Nat.reduceLeDiff, reduceCtorEq, Nat.reduceLT, ↓Br_true, ↓Br_false, bind, pure, sc67, sb67]
  repeat' (first | (with_reducible refine And.intro (by first | (unfold SOk; kernel_rfl) | (unfold SBOk; kernel_rfl) | (with_reducible assumption) | omega | assumption) ?_) | (with_reducible refine Br_intro (fun hc => ?_) (fun hc => ?_)) | ((have cc := light_cv r us d.at n cap f hf hcap hn hr hw hp; (first | ((first | refine callR (by rfl) (by rfl) (by rfl) cc ?_ | refine callM (by rfl) (by rfl) (by rfl) cc ?_); clear cc; rintro _ _ ⟨rfl, rfl⟩) | (refine callE (by rfl) cc (by rfl) ?_; clear cc))); simp (config := { maxSteps := 1000000 }) (disch := omega) only [go_sem, Int.reduceToNat, ↓reduceIte, Nat.reduceLT, Nat.reduceEqDiff, Nat.reduceAdd, Nat.reduceMul, Nat.reduceSub, Nat.reduceBEq, Nat.reduceLeDiff, reduceCtorEq, Nat.reduceLT, ↓Br_true, ↓Br_false, bind, pure, sc67, sb67]) | ((have cc := glare_cv r us d n cap f hf hcap hn hr hw hp; (first | ((first | refine callR (by rfl) (by rfl) (by rfl) cc ?_ | refine callM (by rfl) (by rfl) (by rfl) cc ?_); clear cc; rintro _ _ ⟨rfl, rfl⟩) | (refine callE (by rfl) cc (by rfl) ?_; clear cc))); simp (config := { maxSteps := 1000000 }) (disch := omega) only [go_sem, Int.reduceToNat, ↓reduceIte, Nat.reduceLT, Nat.reduceEqDiff, Nat.reduceAdd, Nat.reduceMul, Nat.reduceSub, Nat.reduceBEq, Nat.reduceLeDiff, reduceCtorEq, Nat.reduceLT, ↓Br_true, ↓Br_false, bind, pure, sc67, sb67]) | ((with_reducible show WidN _ _ _ _ _ _ _ _); (first | refine widL (by decide) (by with_reducible assumption) ?_ | refine widL (by decide) (FWok_nn (by with_reducible assumption)) ?_ | refine widN (by decide) (fun c hc => ?_)); simp (config := { maxSteps := 1000000 }) (disch := omega) only [go_sem, Int.reduceToNat, ↓reduceIte, Nat.reduceLT, Nat.reduceEqDiff, Nat.reduceAdd, Nat.reduceMul, Nat.reduceSub, Nat.reduceBEq, Nat.reduceLeDiff, reduceCtorEq, Nat.reduceLT, ↓Br_true, ↓Br_false, bind, pure, sc67, sb67]))
  all_goals simp [suB, *]
theorem l03Suits_cv (r : Rom) (us : Nat → Win) (d : Dsk) (p : Psn) (n cap : Nat) (f : Nat → List FV) (hf : ∀ i, i < n → f i = (us i).fv) (hcap : n ≤ cap) (hn : n ≤ 1048576) (hr : r.sz) (hw : allW r us n = true) (hp : inR d.at) :
    CV Try.prog 65 [.ptr 0 0 0, dskV d, psnV p] [romB r n cap false, .rows n cap 3 f false] (fun v h => v = .f (.bool (suB r us n d p)) ∧ h = [romB r n cap false, .rows n cap 3 f false]) := by
  refine cv_of_run 1000 sc65 sb65 30 [.tmp 6] tabOk (by kernel_rfl) Try.func65 rfl (by kernel_rfl) Try.ntmps65 rfl (by simp) rfl (by simp [bdL, SV.bd]) ?_
  simp (config := { maxSteps := 1000000 }) (disch := omega) only [go_sem, Int.reduceToNat, ↓reduceIte, Nat.reduceLT, Nat.reduceEqDiff, Nat.reduceAdd, Nat.reduceMul, Nat.reduceSub, Nat.reduceBEq, Nat.reduceLeDiff, reduceCtorEq, Nat.reduceLT, ↓Br_true, ↓Br_false, bind, pure, sc65, sb65]
  repeat' (first | (with_reducible refine And.intro (by first | (unfold SOk; kernel_rfl) | (unfold SBOk; kernel_rfl) | (with_reducible assumption) | omega | assumption) ?_) | (with_reducible refine Br_intro (fun hc => ?_) (fun hc => ?_)) | ((have cc := l03Light_cv r us d.at n cap f hf hcap hn hr hw hp; (first | ((first | refine callR (by rfl) (by rfl) (by rfl) cc ?_ | refine callM (by rfl) (by rfl) (by rfl) cc ?_); clear cc; rintro _ _ ⟨rfl, rfl⟩) | (refine callE (by rfl) cc (by rfl) ?_; clear cc))); simp (config := { maxSteps := 1000000 }) (disch := omega) only [go_sem, Int.reduceToNat, ↓reduceIte, Nat.reduceLT, Nat.reduceEqDiff, Nat.reduceAdd, Nat.reduceMul, Nat.reduceSub, Nat.reduceBEq, Nat.reduceLeDiff, reduceCtorEq, Nat.reduceLT, ↓Br_true, ↓Br_false, bind, pure, sc65, sb65]) | ((have cc := l03Glare_cv r us d n cap f hf hcap hn hr hw hp; (first | ((first | refine callR (by rfl) (by rfl) (by rfl) cc ?_ | refine callM (by rfl) (by rfl) (by rfl) cc ?_); clear cc; rintro _ _ ⟨rfl, rfl⟩) | (refine callE (by rfl) cc (by rfl) ?_; clear cc))); simp (config := { maxSteps := 1000000 }) (disch := omega) only [go_sem, Int.reduceToNat, ↓reduceIte, Nat.reduceLT, Nat.reduceEqDiff, Nat.reduceAdd, Nat.reduceMul, Nat.reduceSub, Nat.reduceBEq, Nat.reduceLeDiff, reduceCtorEq, Nat.reduceLT, ↓Br_true, ↓Br_false, bind, pure, sc65, sb65]) | ((with_reducible show WidN _ _ _ _ _ _ _ _); (first | refine widL (by decide) (by with_reducible assumption) ?_ | refine widL (by decide) (FWok_nn (by with_reducible assumption)) ?_ | refine widN (by decide) (fun c hc => ?_)); simp (config := { maxSteps := 1000000 }) (disch := omega) only [go_sem, Int.reduceToNat, ↓reduceIte, Nat.reduceLT, Nat.reduceEqDiff, Nat.reduceAdd, Nat.reduceMul, Nat.reduceSub, Nat.reduceBEq, Nat.reduceLeDiff, reduceCtorEq, Nat.reduceLT, ↓Br_true, ↓Br_false, bind, pure, sc65, sb65]))
  all_goals simp [suB, *]
def allPs (ps : Nat → Psn) (q : Nat) : Bool := (List.range q).all fun i => vPsn (ps i)
theorem allPs_succ (ps : Nat → Psn) (q : Nat) : allPs ps (q + 1) = (allPs ps q && vPsn (ps q)) := by simp [allPs, List.range_succ, List.all_append]
theorem allPs_no {ps : Nat → Psn} {q k : Nat} (hk : k < q) (h : vPsn (ps k) = false) : allPs ps q = false := List.all_eq_false.2 ⟨k, by simpa using hk, by simp [h]⟩
def pplC (V D P : Bool) (m q : Nat) : Int := if P then (if askC V D = 0 ∧ (8 < m ∨ 8 < q) then 3 else askC V D) else 1
structure PsnH (ps : Nat → Psn) (q cap : Nat) (u : Nat → List FV) : Prop where
  hg : ∀ i, i < q → u i = (ps i).fv
  hcap : q ≤ cap
  hm : q ≤ 1048576
theorem peopleCode_cv (r : Rom) (us : Nat → Win) (ds : Nat → Dsk) (ps : Nat → Psn) (n cap m capm q capq : Nat) (f g u : Nat → List FV) (H : RomH r us n cap f) (D : DskH ds m capm g) (P : PsnH ps q capq u) :
    CV Try.prog 66 [romV r n cap, .slc 1 0 m capm, .slc 2 0 q capq] [.rows n cap 3 f false, .rows m capm 3 g false, .rows q capq 3 u false] (fun v h => v = .f (.int .i64 (pplC (vRoom r us n) (allD r ds m) (allPs ps q) m q)) ∧ h = [.rows n cap 3 f false, .rows m capm 3 g false, .rows q capq 3 u false]) := by
  have hcap := H.hcap
  obtain ⟨hg, hcm, hm, hs⟩ := D
  obtain ⟨hu, hcq, hq⟩ := P
  refine cv_of_run 1000 sc66 sb66 37 [.tmp 6] tabOk (by kernel_rfl) Try.func66 rfl (by kernel_rfl) Try.ntmps66 rfl (by simp) rfl (by simp [bdL, SV.bd]) ?_
  simp (config := { maxSteps := 1000000 }) (disch := omega) only [go_sem, Int.reduceToNat, ↓reduceIte, Nat.reduceLT, Nat.reduceEqDiff, Nat.reduceAdd, Nat.reduceMul, Nat.reduceSub, Nat.reduceBEq, Nat.reduceLeDiff, reduceCtorEq, Nat.reduceLT, ↓Br_true, ↓Br_false, bind, pure, sc66, sb66]
  refine ⟨Nat, fun k => k ≤ q ∧ allPs ps k = true, fun k => q - k, fun k => [(1, .slc 1 0 m capm), (2, .slc 2 0 q capq), (3, .ptr 3 0 0), (6, .f (.int .i64 0)), (10, .slc 2 0 q capq), (11, .f (.int .i64 q)), (12, .f (.int .i64 k))], fun _ => [.rows n cap 3 f false, .rows m capm 3 g false, .rows q capq 3 u false, .lit [.f (.int .i8 r.wi), .f (.int .i8 r.hi), .slc 0 0 n cap] true], 0, (by intro _; simp), ?_, (by (try refine Or.inl ?_); simp [Cov, covE, covH, cb_dead, cb_lit, cb_rows, cb_cells, cd_lit, cd_rows, cd_cells, cd_dead, covRow, look, SV.known, SV.bd, bdL, hcap, hcm, hcq] <;> omega), ?_⟩
  · exact ⟨by omega, rfl⟩
  · rintro k ⟨hk, hall⟩
    by_cases hlt : k < q
    · have hd : decide ((k : Int) < q) = true := decide_eq_true (by omega)
      have e1 := hu k hlt
      simp only [Psn.fv] at e1
      simp (config := { maxSteps := 1000000 }) (disch := omega) only [go_sem, Int.reduceToNat, ↓reduceIte, Nat.reduceLT, Nat.reduceEqDiff, Nat.reduceAdd, Nat.reduceMul, Nat.reduceSub, Nat.reduceBEq, Nat.reduceLeDiff, reduceCtorEq, Nat.reduceLT, ↓Br_true, ↓Br_false, bind, pure, sc66, sb66, hd, e1]
      repeat' (first | (with_reducible refine And.intro (by first | (unfold SOk; kernel_rfl) | (unfold SBOk; kernel_rfl) | (with_reducible assumption) | omega | assumption) ?_) | (with_reducible refine Br_intro (fun hc => ?_) (fun hc => ?_)) | ((have cc := ValidPerson_cv (ps k); (first | ((first | refine callR (by rfl) (by rfl) (by rfl) cc ?_ | refine callM (by rfl) (by rfl) (by rfl) cc ?_); clear cc; rintro _ _ ⟨rfl, rfl⟩) | (refine callE (by rfl) cc (by rfl) ?_; clear cc))); simp (config := { maxSteps := 1000000 }) (disch := omega) only [go_sem, Int.reduceToNat, ↓reduceIte, Nat.reduceLT, Nat.reduceEqDiff, Nat.reduceAdd, Nat.reduceMul, Nat.reduceSub, Nat.reduceBEq, Nat.reduceLeDiff, reduceCtorEq, Nat.reduceLT, ↓Br_true, ↓Br_false, bind, pure, sc66, sb66, hd, e1]) | ((with_reducible show WidN _ _ _ _ _ _ _ _); (first | refine widL (by decide) (by with_reducible assumption) ?_ | refine widL (by decide) (FWok_nn (by with_reducible assumption)) ?_ | refine widN (by decide) (fun c hc => ?_)); simp (config := { maxSteps := 1000000 }) (disch := omega) only [go_sem, Int.reduceToNat, ↓reduceIte, Nat.reduceLT, Nat.reduceEqDiff, Nat.reduceAdd, Nat.reduceMul, Nat.reduceSub, Nat.reduceBEq, Nat.reduceLeDiff, reduceCtorEq, Nat.reduceLT, ↓Br_true, ↓Br_false, bind, pure, sc66, sb66, hd, e1]))
      · simp only [Bool.not_eq_true'] at hc
        simp [pplC, allPs_no hlt hc]
      · simp only [Bool.not_eq_false'] at hc
        exact ⟨k + 1, ⟨by omega, by rw [allPs_succ, hall, hc]; rfl⟩, by omega, by (try refine Or.inl ?_); simp [Cov, covE, covH, cb_dead, cb_lit, cb_rows, cb_cells, cd_lit, cd_rows, cd_cells, cd_dead, covRow, look, SV.known, SV.bd, bdL, hcap, hcm, hcq] <;> omega⟩
    · have hd : decide ((k : Int) < q) = false := decide_eq_false (by omega)
      simp (config := { maxSteps := 1000000 }) (disch := omega) only [go_sem, Int.reduceToNat, ↓reduceIte, Nat.reduceLT, Nat.reduceEqDiff, Nat.reduceAdd, Nat.reduceMul, Nat.reduceSub, Nat.reduceBEq, Nat.reduceLeDiff, reduceCtorEq, Nat.reduceLT, ↓Br_true, ↓Br_false, bind, pure, sc66, sb66, hd]
      obtain rfl : k = q := by omega
      repeat' (first | (with_reducible refine And.intro (by first | (unfold SOk; kernel_rfl) | (unfold SBOk; kernel_rfl) | (with_reducible assumption) | omega | assumption) ?_) | (with_reducible refine Br_intro (fun hc => ?_) (fun hc => ?_)) | ((have cc := areDesks_cv r ds n cap m capm f g hcap hg hcm hm hs; (first | ((first | refine callR (by rfl) (by rfl) (by rfl) cc ?_ | refine callM (by rfl) (by rfl) (by rfl) cc ?_); clear cc; rintro _ _ ⟨rfl, rfl⟩) | (refine callE (by rfl) cc (by rfl) ?_; clear cc))); simp (config := { maxSteps := 1000000 }) (disch := omega) only [go_sem, Int.reduceToNat, ↓reduceIte, Nat.reduceLT, Nat.reduceEqDiff, Nat.reduceAdd, Nat.reduceMul, Nat.reduceSub, Nat.reduceBEq, Nat.reduceLeDiff, reduceCtorEq, Nat.reduceLT, ↓Br_true, ↓Br_false, bind, pure, sc66, sb66]) | ((first | (refine callR (by rfl) (by rfl) (by rfl) (roomCode_cv r us n cap f _ H) ?_; rintro _ _ ⟨rfl, rfl⟩) | (refine callM (by rfl) (by rfl) (by rfl) (roomCode_cv r us n cap f _ H) ?_; rintro _ _ ⟨rfl, rfl⟩) | (refine callE (by rfl) (roomCode_cv r us n cap f _ H) (by rfl) ?_)); simp (config := { maxSteps := 1000000 }) (disch := omega) only [go_sem, Int.reduceToNat, ↓reduceIte, Nat.reduceLT, Nat.reduceEqDiff, Nat.reduceAdd, Nat.reduceMul, Nat.reduceSub, Nat.reduceBEq, Nat.reduceLeDiff, reduceCtorEq, Nat.reduceLT, ↓Br_true, ↓Br_false, bind, pure, sc66, sb66]) | ((with_reducible show WidN _ _ _ _ _ _ _ _); (first | refine widL (by decide) (by with_reducible assumption) ?_ | refine widL (by decide) (FWok_nn (by with_reducible assumption)) ?_ | refine widN (by decide) (fun c hc => ?_)); simp (config := { maxSteps := 1000000 }) (disch := omega) only [go_sem, Int.reduceToNat, ↓reduceIte, Nat.reduceLT, Nat.reduceEqDiff, Nat.reduceAdd, Nat.reduceMul, Nat.reduceSub, Nat.reduceBEq, Nat.reduceLeDiff, reduceCtorEq, Nat.reduceLT, ↓Br_true, ↓Br_false, bind, pure, sc66, sb66]))
      all_goals simp only [decide_eq_true_eq, decide_eq_false_iff_not] at *
      all_goals (unfold pplC; rw [hall, if_pos rfl]; generalize askC (vRoom r us n) (allD r ds m) = c at *; first | rw [if_pos (by omega)] | rw [if_neg (by omega)])
theorem pplC_one (V D P : Bool) : pplC V D P 1 1 = if P then askC V D else 1 := by
  unfold pplC
  cases P
  · rfl
  · rw [if_pos rfl, if_pos rfl, if_neg (by omega)]
theorem pplC_zero {V D P : Bool} {m q : Nat} (h : pplC V D P m q = 0) : P = true ∧ askC V D = 0 ∧ m ≤ 8 ∧ q ≤ 8 := by
  unfold pplC at h
  split at h
  · rename_i hp
    split at h
    · omega
    · exact ⟨hp, h, by omega, by omega⟩
  · omega
theorem one_desk' (d : Dsk) : ∀ i, i < 1 → nthR [ [.int .i8 d.x, .int .i8 d.y, .int .i8 d.w] ] i = d.fv := fun i hi => by
  obtain rfl : i = 0 := by omega
  rfl
theorem one_psn (p : Psn) : ∀ i, i < 1 → nthR [ [.flt .f32 p.lo, .flt .f32 p.hi, .flt .f32 p.gl] ] i = p.fv := fun i hi => by
  obtain rfl : i = 0 := by omega
  rfl
abbrev suC (r : Rom) (us : Nat → Win) (n : Nat) (d : Dsk) (p : Psn) : Int := if vPsn p then askC (vRoom r us n) (dskB r d) else 1
theorem suC_zero {r : Rom} {us : Nat → Win} {n : Nat} {d : Dsk} {p : Psn} (h : suC r us n d p = 0) : askC (vRoom r us n) (dskB r d) = 0 := by
  unfold suC at h
  split at h
  · exact h
  · omega
abbrev suV (r : Rom) (us : Nat → Win) (n : Nat) (d : Dsk) (p : Psn) : SV := .tup [.f (.bool (if suC r us n d p = 0 then suB r us n d p else false)), .f (.int .i64 (suC r us n d p))]
theorem Suits_cv (r : Rom) (us : Nat → Win) (d : Dsk) (p : Psn) (n cap : Nat) (f : Nat → List FV) (H : RomH r us n cap f) (hd : d.sm) :
    CV Try.prog 27 [romV r n cap, dskV d, psnV p] [.rows n cap 3 f false] (fun v h => v = suV r us n d p ∧ h = [.rows n cap 3 f false]) := by
  have hcap := H.hcap
  have cp := peopleCode_cv r us (fun _ => d) (fun _ => p) n cap 1 1 1 1 f _ _ H ⟨one_desk' d, Nat.le_refl 1, by omega, fun i hi => hd⟩ ⟨one_psn p, Nat.le_refl 1, by omega⟩
  rw [pplC_one, show allD r (fun _ => d) 1 = dskB r d by simp [allD], show allPs (fun _ => p) 1 = vPsn p by simp [allPs]] at cp
  refine cv_of_run 1000 sc27 sb27 21 [.tmp 6, .tmp 7] tabOk (by kernel_rfl) Try.func27 rfl (by kernel_rfl) Try.ntmps27 rfl (by simp) rfl (by simp [bdL, SV.bd]) ?_
  simp (config := { maxSteps := 1000000 }) (disch := omega) only [go_sem, Int.reduceToNat, ↓reduceIte, Nat.reduceLT, Nat.reduceEqDiff, Nat.reduceAdd, Nat.reduceMul, Nat.reduceSub, Nat.reduceBEq, Nat.reduceLeDiff, reduceCtorEq, Nat.reduceLT, ↓Br_true, ↓Br_false, bind, pure, sc27, sb27]
  (have cc := cp; (first | ((first | refine callR (by rfl) (by rfl) (by rfl) cc ?_ | refine callM (by rfl) (by rfl) (by rfl) cc ?_); clear cc; rintro _ _ ⟨rfl, rfl⟩) | (refine callE (by rfl) cc (by rfl) ?_; clear cc)))
  simp (config := { maxSteps := 1000000 }) (disch := omega) only [go_sem, Int.reduceToNat, ↓reduceIte, Nat.reduceLT, Nat.reduceEqDiff, Nat.reduceAdd, Nat.reduceMul, Nat.reduceSub, Nat.reduceBEq, Nat.reduceLeDiff, reduceCtorEq, Nat.reduceLT, ↓Br_true, ↓Br_false, bind, pure, sc27, sb27]
  refine ⟨fun hc => ?_, fun hc => ?_⟩
  · simp only [Bool.not_eq_true', decide_eq_false_iff_not] at hc
    simp [suV, hc]
  · simp only [Bool.not_eq_false', decide_eq_true_eq] at hc
    obtain ⟨hz, h12, hw, hb⟩ := room_asked (suC_zero hc)
    have hI := desk_in hz hb
    (have cc := suits_cv r us d p n cap f H.hf hcap H.hn hz hw hI; (first | ((first | refine callR (by rfl) (by rfl) (by rfl) cc ?_ | refine callM (by rfl) (by rfl) (by rfl) cc ?_); clear cc; rintro _ _ ⟨rfl, rfl⟩) | (refine callE (by rfl) cc (by rfl) ?_; clear cc)))
    simp (config := { maxSteps := 1000000 }) (disch := omega) only [go_sem, Int.reduceToNat, ↓reduceIte, Nat.reduceLT, Nat.reduceEqDiff, Nat.reduceAdd, Nat.reduceMul, Nat.reduceSub, Nat.reduceBEq, Nat.reduceLeDiff, reduceCtorEq, Nat.reduceLT, ↓Br_true, ↓Br_false, bind, pure, sc27, sb27]
    simp [suV, hc]
theorem sSuits_cv (r : Rom) (us : Nat → Win) (d : Dsk) (p : Psn) (n cap : Nat) (f : Nat → List FV) (H : RomH r us n cap f) (hd : d.sm) :
    CV Try.prog 25 [romV r n cap, dskV d, psnV p] [.rows n cap 3 f false] (fun v h => v = suV r us n d p ∧ h = [.rows n cap 3 f false]) := by
  have hcap := H.hcap
  refine cv_of_run 1000 sc25 sb25 21 [.tmp 6, .tmp 7] tabOk (by kernel_rfl) Try.func25 rfl (by kernel_rfl) Try.ntmps25 rfl (by simp) rfl (by simp [bdL, SV.bd]) ?_
  simp (config := { maxSteps := 1000000 }) (disch := omega) only [go_sem, Int.reduceToNat, ↓reduceIte, Nat.reduceLT, Nat.reduceEqDiff, Nat.reduceAdd, Nat.reduceMul, Nat.reduceSub, Nat.reduceBEq, Nat.reduceLeDiff, reduceCtorEq, Nat.reduceLT, ↓Br_true, ↓Br_false, bind, pure, sc25, sb25]
  repeat' (first | (with_reducible refine And.intro (by first | (unfold SOk; kernel_rfl) | (unfold SBOk; kernel_rfl) | (with_reducible assumption) | omega | assumption) ?_) | (with_reducible refine Br_intro (fun hc => ?_) (fun hc => ?_)) | ((have cc := l03Ok_cv r us n cap f H; (first | ((first | refine callR (by rfl) (by rfl) (by rfl) cc ?_ | refine callM (by rfl) (by rfl) (by rfl) cc ?_); clear cc; rintro _ _ ⟨rfl, rfl⟩) | (refine callE (by rfl) cc (by rfl) ?_; clear cc))); simp (config := { maxSteps := 1000000 }) (disch := omega) only [go_sem, Int.reduceToNat, ↓reduceIte, Nat.reduceLT, Nat.reduceEqDiff, Nat.reduceAdd, Nat.reduceMul, Nat.reduceSub, Nat.reduceBEq, Nat.reduceLeDiff, reduceCtorEq, Nat.reduceLT, ↓Br_true, ↓Br_false, bind, pure, sc25, sb25]) | ((have cc := sValidPerson_cv p; (first | ((first | refine callR (by rfl) (by rfl) (by rfl) cc ?_ | refine callM (by rfl) (by rfl) (by rfl) cc ?_); clear cc; rintro _ _ ⟨rfl, rfl⟩) | (refine callE (by rfl) cc (by rfl) ?_; clear cc))); simp (config := { maxSteps := 1000000 }) (disch := omega) only [go_sem, Int.reduceToNat, ↓reduceIte, Nat.reduceLT, Nat.reduceEqDiff, Nat.reduceAdd, Nat.reduceMul, Nat.reduceSub, Nat.reduceBEq, Nat.reduceLeDiff, reduceCtorEq, Nat.reduceLT, ↓Br_true, ↓Br_false, bind, pure, sc25, sb25]) | ((have cc := l03Desk_cv r d n cap f hcap hd ⟨H.hw, H.hh⟩; (first | ((first | refine callR (by rfl) (by rfl) (by rfl) cc ?_ | refine callM (by rfl) (by rfl) (by rfl) cc ?_); clear cc; rintro _ _ ⟨rfl, rfl⟩) | (refine callE (by rfl) cc (by rfl) ?_; clear cc))); simp (config := { maxSteps := 1000000 }) (disch := omega) only [go_sem, Int.reduceToNat, ↓reduceIte, Nat.reduceLT, Nat.reduceEqDiff, Nat.reduceAdd, Nat.reduceMul, Nat.reduceSub, Nat.reduceBEq, Nat.reduceLeDiff, reduceCtorEq, Nat.reduceLT, ↓Br_true, ↓Br_false, bind, pure, sc25, sb25]) | ((with_reducible show WidN _ _ _ _ _ _ _ _); (first | refine widL (by decide) (by with_reducible assumption) ?_ | refine widL (by decide) (FWok_nn (by with_reducible assumption)) ?_ | refine widN (by decide) (fun c hc => ?_)); simp (config := { maxSteps := 1000000 }) (disch := omega) only [go_sem, Int.reduceToNat, ↓reduceIte, Nat.reduceLT, Nat.reduceEqDiff, Nat.reduceAdd, Nat.reduceMul, Nat.reduceSub, Nat.reduceBEq, Nat.reduceLeDiff, reduceCtorEq, Nat.reduceLT, ↓Br_true, ↓Br_false, bind, pure, sc25, sb25]))
  · simp_all [suV, suC, askC]
  · simp_all [suV, suC, askC]
  · simp_all [suV, suC, askC]
  · rename_i h1 h2
    have hC : suC r us n d p = 0 := by simp_all [suC, askC]
    obtain ⟨hz, h12, hw, hb⟩ := room_asked (suC_zero hC)
    have hI := desk_in hz hb
    (have cc := l03Suits_cv r us d p n cap f H.hf hcap H.hn hz hw hI; (first | ((first | refine callR (by rfl) (by rfl) (by rfl) cc ?_ | refine callM (by rfl) (by rfl) (by rfl) cc ?_); clear cc; rintro _ _ ⟨rfl, rfl⟩) | (refine callE (by rfl) cc (by rfl) ?_; clear cc)))
    simp (config := { maxSteps := 1000000 }) (disch := omega) only [go_sem, Int.reduceToNat, ↓reduceIte, Nat.reduceLT, Nat.reduceEqDiff, Nat.reduceAdd, Nat.reduceMul, Nat.reduceSub, Nat.reduceBEq, Nat.reduceLeDiff, reduceCtorEq, Nat.reduceLT, ↓Br_true, ↓Br_false, bind, pure, sc25, sb25]
    simp [suV, hC]
end Go.Proofs.Ytgepaaakleomeab.Vx
