/- Rooms, in the abstract: for each desk the people whom it suits. -/
import Derived.Test.YtdncopphjamilaaRk
namespace Go.Proofs.Ytdncopphjamilaa.Vx
open Go Go.RowKit Fl
set_option maxRecDepth 100000
set_option maxHeartbeats 2000000
set_option linter.unusedSimpArgs false
set_option linter.unusedVariables false

def sbI (r : Rom) (us : Nat → Win) (n : Nat) (ps : Nat → Psn) (d : Dsk) : Nat → Int
  | 0 => 0
  | k + 1 => if suB r us n d (ps k) then bitI .or .u16 (sbI r us n ps d k) (shlI .u16 1 k) else sbI r us n ps d k
abbrev sbC (r : Rom) (us : Nat → Win) (n : Nat) (ds : Nat → Dsk) (ps : Nat → Psn) (m q : Nat) : Int := pplC (vRoom r us n) (allD r ds m) (allPs ps q) m q
/-- The bits lie in a block. -/
def BitsAt (B : Nat → Int) (m : Nat) (u : Nat → List FV) : Prop := ∀ j, j < m → u j = [.int .u16 (B j)]
theorem SuitBits_cv (r : Rom) (us : Nat → Win) (ds : Nat → Dsk) (ps : Nat → Psn) (n cap m capm q capq : Nat) (f g u : Nat → List FV) (H : RomH r us n cap f) (D : DskH ds m capm g) (P : PsnH ps q capq u) (ha : sbC r us n ds ps m q = 0) :
    CV Try.prog 30 [romV r n cap, .slc 1 0 m capm, .slc 2 0 q capq] [.rows n cap 3 f false, .rows m capm 3 g false, .rows q capq 3 u false] (fun v h => ∃ z, BitsAt (fun j => sbI r us n ps (ds j) q) m z ∧ v = .tup [.slc 3 0 m m, .f (.int .i64 0)] ∧ h = [.rows n cap 3 f false, .rows m capm 3 g false, .rows q capq 3 u false, .rows m m 1 z true]) := by
  have hcap := H.hcap
  have cp := peopleCode_cv r us ds ps n cap m capm q capq f g u H D P
  rw [show pplC (vRoom r us n) (allD r ds m) (allPs ps q) m q = 0 from ha] at cp
  obtain ⟨hP, hA, h8, hq8⟩ := pplC_zero ha
  obtain ⟨hz, h12, hw, hb⟩ := room_asked hA
  obtain ⟨hg, hcm, hm, hs⟩ := D
  obtain ⟨hu, hcq, hq⟩ := P
  refine cv_of_run 1000 sc30 sb30 52 [.tmp 6, .tmp 7] tabOk (by kernel_rfl) Try.func30 rfl (by kernel_rfl) Try.ntmps30 rfl (by simp) rfl (by simp [bdL, SV.bd]) ?_
  simp (config := { maxSteps := 1000000 }) (disch := omega) only [go_sem, Int.reduceToNat, ↓reduceIte, Nat.reduceLT, Nat.reduceEqDiff, Nat.reduceAdd, Nat.reduceMul, Nat.reduceSub, Nat.reduceBEq, Nat.reduceLeDiff, reduceCtorEq, Nat.reduceLT, ↓Br_true, ↓Br_false, bind, pure, sc30, sb30]
  repeat' (first | (with_reducible refine And.intro (by first | (unfold SOk; kernel_rfl) | (unfold SBOk; kernel_rfl) | (with_reducible assumption) | omega | assumption) ?_) | (with_reducible refine Br_intro (fun hc => ?_) (fun hc => ?_)) | ((have cc := cp; (first | ((first | refine callR (by rfl) (by rfl) (by rfl) cc ?_ | refine callM (by rfl) (by rfl) (by rfl) cc ?_ | refine callMo (by rfl) (by rfl) (by rfl) cc ?_); clear cc; rintro _ _ ⟨rfl, rfl⟩) | (refine callE (by rfl) cc (by rfl) ?_; clear cc))); simp (config := { maxSteps := 1000000 }) (disch := omega) only [go_sem, Int.reduceToNat, ↓reduceIte, Nat.reduceLT, Nat.reduceEqDiff, Nat.reduceAdd, Nat.reduceMul, Nat.reduceSub, Nat.reduceBEq, Nat.reduceLeDiff, reduceCtorEq, Nat.reduceLT, ↓Br_true, ↓Br_false, bind, pure, sc30, sb30]) | ((with_reducible show WidN _ _ _ _ _ _ _ _); (first | refine widL (by decide) (by with_reducible assumption) ?_ | refine widL (by decide) (FWok_nn (by with_reducible assumption)) ?_ | refine widN (by decide) (fun c hc => ?_)); simp (config := { maxSteps := 1000000 }) (disch := omega) only [go_sem, Int.reduceToNat, ↓reduceIte, Nat.reduceLT, Nat.reduceEqDiff, Nat.reduceAdd, Nat.reduceMul, Nat.reduceSub, Nat.reduceBEq, Nat.reduceLeDiff, reduceCtorEq, Nat.reduceLT, ↓Br_true, ↓Br_false, bind, pure, sc30, sb30]))
  refine ⟨(Nat × (Nat → List FV)), fun s => s.1 ≤ m ∧ (∀ j, j < s.1 → s.2 j = [.int .u16 (sbI r us n ps (ds j) q)]) ∧ (∀ j, s.1 ≤ j → j < m → s.2 j = [.int .u16 0]), fun s => m - s.1, fun s => [(2, .slc 2 0 q capq), (3, .ptr 3 0 0), (6, .f .nils), (7, .f (.int .i64 0)), (9, .slc 4 0 m m), (24, .slc 1 0 m capm), (25, .f (.int .i64 m)), (26, .f (.int .i64 s.1))], fun s => [.rows n cap 3 f false, .rows m capm 3 g false, .rows q capq 3 u false, .lit [.f (.int .i8 r.wi), .f (.int .i8 r.hi), .slc 0 0 n cap] true, .rows m m 1 s.2 true], (0, constRow [.int .u16 0]), (by intro _; simp), ?_, (by (try refine Or.inl ?_); simp [Cov, covE, covH, cb_dead, cb_lit, cb_rows, cb_cells, cd_lit, cd_rows, cd_cells, cd_dead, covRow, look, SV.known, SV.bd, bdL, constRow, zRow, hcap, hcm, hcq] <;> omega), ?_⟩
  · exact ⟨by omega, fun j hj => by omega, fun j _ _ => rfl⟩
  · rintro ⟨i, y⟩ ⟨hi, hy1, hy2⟩
    simp only at hi hy1 hy2
    by_cases hlt : i < m
    · have hd : decide ((i : Int) < m) = true := decide_eq_true (by omega)
      have e1 := hg i hlt
      simp only [Dsk.fv] at e1
      have hI := desk_in hz (allD_at hb hlt)
      simp (config := { maxSteps := 1000000 }) (disch := omega) only [go_sem, Int.reduceToNat, ↓reduceIte, Nat.reduceLT, Nat.reduceEqDiff, Nat.reduceAdd, Nat.reduceMul, Nat.reduceSub, Nat.reduceBEq, Nat.reduceLeDiff, reduceCtorEq, Nat.reduceLT, ↓Br_true, ↓Br_false, bind, pure, sc30, sb30, hd, e1]
      repeat (with_reducible refine And.intro (by first | omega | assumption | (unfold SOk; kernel_rfl) | (unfold SBOk; kernel_rfl)) ?_)
      refine ⟨(Nat × (Nat → List FV)), fun s => s.1 ≤ q ∧ (∀ j, j < i → s.2 j = [.int .u16 (sbI r us n ps (ds j) q)]) ∧ s.2 i = [.int .u16 (sbI r us n ps (ds i) s.1)] ∧ (∀ j, i < j → j < m → s.2 j = [.int .u16 0]), fun s => q - s.1, fun s => [(2, .slc 2 0 q capq), (3, .ptr 3 0 0), (6, .f .nils), (7, .f (.int .i64 0)), (9, .slc 4 0 m m), (10, .f (.int .i64 i)), (11, .ptr 5 0 0), (24, .slc 1 0 m capm), (25, .f (.int .i64 m)), (26, .f (.int .i64 i)), (31, .slc 2 0 q capq), (32, .f (.int .i64 q)), (33, .f (.int .i64 s.1))], fun s => [.rows n cap 3 f false, .rows m capm 3 g false, .rows q capq 3 u false, .lit [.f (.int .i8 r.wi), .f (.int .i8 r.hi), .slc 0 0 n cap] true, .rows m m 1 s.2 true, .lit [.f (.int .i8 (ds i).x), .f (.int .i8 (ds i).y), .f (.int .i8 (ds i).w)] true], (0, y), (by intro _; simp), ?_, (by (try refine Or.inl ?_); simp [Cov, covE, covH, cb_dead, cb_lit, cb_rows, cb_cells, cd_lit, cd_rows, cd_cells, cd_dead, covRow, look, SV.known, SV.bd, bdL, hcap, hcm, hcq] <;> omega), ?_⟩
      · exact ⟨by omega, hy1, hy2 i (Nat.le_refl i) hlt, fun j h1 h2 => hy2 j (by omega) h2⟩
      · rintro ⟨k, x⟩ ⟨hk, hx1, hx2, hx3⟩
        simp only at hk hx1 hx2 hx3
        by_cases hkt : k < q
        · have hd : decide ((k : Int) < q) = true := decide_eq_true (by omega)
          have e2 := hu k hkt
          simp only [Psn.fv] at e2
          simp (config := { maxSteps := 1000000 }) (disch := omega) only [go_sem, Int.reduceToNat, ↓reduceIte, Nat.reduceLT, Nat.reduceEqDiff, Nat.reduceAdd, Nat.reduceMul, Nat.reduceSub, Nat.reduceBEq, Nat.reduceLeDiff, reduceCtorEq, Nat.reduceLT, ↓Br_true, ↓Br_false, bind, pure, sc30, sb30, hd, e2, hx2]
          repeat' (first | (with_reducible refine And.intro (by first | (unfold SOk; kernel_rfl) | (unfold SBOk; kernel_rfl) | (with_reducible assumption) | omega | assumption) ?_) | (with_reducible refine Br_intro (fun hc => ?_) (fun hc => ?_)) | ((have cc := suits_cv r us (ds i) (ps k) n cap f H.hf hcap H.hn hz hw hI; (first | ((first | refine callR (by rfl) (by rfl) (by rfl) cc ?_ | refine callM (by rfl) (by rfl) (by rfl) cc ?_ | refine callMo (by rfl) (by rfl) (by rfl) cc ?_); clear cc; rintro _ _ ⟨rfl, rfl⟩) | (refine callE (by rfl) cc (by rfl) ?_; clear cc))); simp (config := { maxSteps := 1000000 }) (disch := omega) only [go_sem, Int.reduceToNat, ↓reduceIte, Nat.reduceLT, Nat.reduceEqDiff, Nat.reduceAdd, Nat.reduceMul, Nat.reduceSub, Nat.reduceBEq, Nat.reduceLeDiff, reduceCtorEq, Nat.reduceLT, ↓Br_true, ↓Br_false, bind, pure, sc30, sb30, hd, e2, hx2]) | ((with_reducible show WidN _ _ _ _ _ _ _ _); (first | refine widL (by decide) (by with_reducible assumption) ?_ | refine widL (by decide) (FWok_nn (by with_reducible assumption)) ?_ | refine widN (by decide) (fun c hc => ?_)); simp (config := { maxSteps := 1000000 }) (disch := omega) only [go_sem, Int.reduceToNat, ↓reduceIte, Nat.reduceLT, Nat.reduceEqDiff, Nat.reduceAdd, Nat.reduceMul, Nat.reduceSub, Nat.reduceBEq, Nat.reduceLeDiff, reduceCtorEq, Nat.reduceLT, ↓Br_true, ↓Br_false, bind, pure, sc30, sb30, hd, e2, hx2]))
          · refine ⟨(k + 1, updR x i 0 (.int .u16 (bitI .or .u16 (sbI r us n ps (ds i) k) (shlI .u16 1 k)))), ⟨by omega, fun j hj => ?_, ?_, fun j h1 h2 => ?_⟩, by omega, by (try refine Or.inl ?_); simp [Cov, covE, covH, cb_dead, cb_lit, cb_rows, cb_cells, cd_lit, cd_rows, cd_cells, cd_dead, covRow, look, SV.known, SV.bd, bdL, hcap, hcm, hcq] <;> omega⟩
            · simp only [updR]; rw [if_neg (by omega)]; exact hx1 j hj
            · simp only [updR, if_true, hx2, sbI, hc, rset]
            · simp only [updR]; rw [if_neg (by omega)]; exact hx3 j h1 h2
          · exact ⟨(k + 1, x), ⟨by omega, hx1, by simp only [sbI, hc]; exact hx2, hx3⟩, by omega, by (try refine Or.inl ?_); simp [Cov, covE, covH, cb_dead, cb_lit, cb_rows, cb_cells, cd_lit, cd_rows, cd_cells, cd_dead, covRow, look, SV.known, SV.bd, bdL, hcap, hcm, hcq] <;> omega⟩
        · have hd : decide ((k : Int) < q) = false := decide_eq_false (by omega)
          simp (config := { maxSteps := 1000000 }) (disch := omega) only [go_sem, Int.reduceToNat, ↓reduceIte, Nat.reduceLT, Nat.reduceEqDiff, Nat.reduceAdd, Nat.reduceMul, Nat.reduceSub, Nat.reduceBEq, Nat.reduceLeDiff, reduceCtorEq, Nat.reduceLT, ↓Br_true, ↓Br_false, bind, pure, sc30, sb30, hd]
          obtain rfl : k = q := by omega
          refine ⟨(i + 1, x), ⟨by omega, fun j hj => ?_, fun j h1 h2 => hx3 j (by omega) h2⟩, by omega, by (try refine Or.inl ?_); simp [Cov, covE, covH, cb_dead, cb_lit, cb_rows, cb_cells, cd_lit, cd_rows, cd_cells, cd_dead, covRow, look, SV.known, SV.bd, bdL, hcap, hcm, hcq] <;> omega⟩
          by_cases c : j = i
          · subst c; exact hx2
          · exact hx1 j (by simp only at hj; omega)
    · have hd : decide ((i : Int) < m) = false := decide_eq_false (by omega)
      simp (config := { maxSteps := 1000000 }) (disch := omega) only [go_sem, Int.reduceToNat, ↓reduceIte, Nat.reduceLT, Nat.reduceEqDiff, Nat.reduceAdd, Nat.reduceMul, Nat.reduceSub, Nat.reduceBEq, Nat.reduceLeDiff, reduceCtorEq, Nat.reduceLT, ↓Br_true, ↓Br_false, bind, pure, sc30, sb30, hd]
      obtain rfl : i = m := by omega
      exact ⟨y, hy1, rfl⟩
theorem SuitBitsBad_cv (r : Rom) (us : Nat → Win) (ds : Nat → Dsk) (ps : Nat → Psn) (n cap m capm q capq : Nat) (f g u : Nat → List FV) (H : RomH r us n cap f) (D : DskH ds m capm g) (P : PsnH ps q capq u) (ha : sbC r us n ds ps m q ≠ 0) :
    CV Try.prog 30 [romV r n cap, .slc 1 0 m capm, .slc 2 0 q capq] [.rows n cap 3 f false, .rows m capm 3 g false, .rows q capq 3 u false] (fun v h => v = .tup [.f .nils, .f (.int .i64 (sbC r us n ds ps m q))] ∧ h = [.rows n cap 3 f false, .rows m capm 3 g false, .rows q capq 3 u false]) := by
  have hcap := H.hcap
  have cp := peopleCode_cv r us ds ps n cap m capm q capq f g u H D P
  unfold sbC at *
  generalize pplC (vRoom r us n) (allD r ds m) (allPs ps q) m q = c at *
  have hcm := D.hcap
  have hcq := P.hcap
  have hc0 : decide (c = 0) = false := decide_eq_false ha
  refine cv_of_run 1000 sc30 sb30 52 [.tmp 6, .tmp 7] tabOk (by kernel_rfl) Try.func30 rfl (by kernel_rfl) Try.ntmps30 rfl (by simp) rfl (by simp [bdL, SV.bd]) ?_
  simp (config := { maxSteps := 1000000 }) (disch := omega) only [go_sem, Int.reduceToNat, ↓reduceIte, Nat.reduceLT, Nat.reduceEqDiff, Nat.reduceAdd, Nat.reduceMul, Nat.reduceSub, Nat.reduceBEq, Nat.reduceLeDiff, reduceCtorEq, Nat.reduceLT, ↓Br_true, ↓Br_false, bind, pure, sc30, sb30]
  repeat' (first | (with_reducible refine And.intro (by first | (unfold SOk; kernel_rfl) | (unfold SBOk; kernel_rfl) | (with_reducible assumption) | omega | assumption) ?_) | (with_reducible refine Br_intro (fun hc => ?_) (fun hc => ?_)) | ((have cc := cp; (first | ((first | refine callR (by rfl) (by rfl) (by rfl) cc ?_ | refine callM (by rfl) (by rfl) (by rfl) cc ?_ | refine callMo (by rfl) (by rfl) (by rfl) cc ?_); clear cc; rintro _ _ ⟨rfl, rfl⟩) | (refine callE (by rfl) cc (by rfl) ?_; clear cc))); simp (config := { maxSteps := 1000000 }) (disch := omega) only [go_sem, Int.reduceToNat, ↓reduceIte, Nat.reduceLT, Nat.reduceEqDiff, Nat.reduceAdd, Nat.reduceMul, Nat.reduceSub, Nat.reduceBEq, Nat.reduceLeDiff, reduceCtorEq, Nat.reduceLT, ↓Br_true, ↓Br_false, bind, pure, sc30, sb30, ha, hc0]) | ((with_reducible show WidN _ _ _ _ _ _ _ _); (first | refine widL (by decide) (by with_reducible assumption) ?_ | refine widL (by decide) (FWok_nn (by with_reducible assumption)) ?_ | refine widN (by decide) (fun c hc => ?_)); simp (config := { maxSteps := 1000000 }) (disch := omega) only [go_sem, Int.reduceToNat, ↓reduceIte, Nat.reduceLT, Nat.reduceEqDiff, Nat.reduceAdd, Nat.reduceMul, Nat.reduceSub, Nat.reduceBEq, Nat.reduceLeDiff, reduceCtorEq, Nat.reduceLT, ↓Br_true, ↓Br_false, bind, pure, sc30, sb30, ha, hc0]))
  all_goals simp_all
abbrev rmB3' (r : Rom) (n cap : Nat) : Blk := .lit [.f (.int .i8 r.wi), .f (.int .i8 r.hi), .slc 3 0 n cap] false
theorem BitsAt.push {B : Nat → Int} {m : Nat} {u : Nat → List FV} (h : BitsAt B m u) {x : Int} (hx : x = B m) : BitsAt B (m + 1) (catR u m (shR (nthR [ [.int .u16 x] ]) 0)) := fun i hi => by
  unfold catR
  by_cases c : i < m
  · rw [if_pos c, h i c]
  · obtain rfl : i = m := by omega
    rw [if_neg c, ← hx]
    simp [shR, nthR]
theorem l03Bits_cv (r : Rom) (us : Nat → Win) (ds : Nat → Dsk) (ps : Nat → Psn) (n cap m capm q capq : Nat) (f g u : Nat → List FV) (H : RomH r us n cap f) (D : DskH ds m capm g) (P : PsnH ps q capq u) (ha : sbC r us n ds ps m q = 0) :
    CV Try.prog 71 [.ptr 0 0 0, .slc 1 0 m capm, .slc 2 0 q capq] [rmB3' r n cap, .rows m capm 3 g false, .rows q capq 3 u false, .rows n cap 3 f false] (fun v h => ∃ cap' z, BitsAt (fun j => sbI r us n ps (ds j) q) m z ∧ m ≤ cap' ∧ v = .tup [.slc 4 0 m cap', .f (.int .i64 0)] ∧ h = [rmB3' r n cap, .rows m capm 3 g false, .rows q capq 3 u false, .rows n cap 3 f false, .rows m cap' 1 z true]) := by
  have hcap := H.hcap
  have hD := D
  obtain ⟨hP, hA, h8, hq8⟩ := pplC_zero ha
  obtain ⟨hz, h12, hw, hb⟩ := room_asked hA
  have cd := l03Desks_cv r us ds n cap m capm f g true H D
  have hC0 : dskC (vRoom r us n) (allD r ds m && true) m = 0 := by
    rw [Bool.and_true]; unfold dskC; rw [if_neg (by omega)]; exact hA
  rw [hC0] at cd
  have hvp : ∀ k, k < q → vPsn (ps k) = true := fun k hk => List.all_eq_true.1 hP k (by simpa using hk)
  obtain ⟨hg, hcm, hm, hs⟩ := D
  obtain ⟨hu, hcq, hq⟩ := P
  have hq9 : decide (8 < (q : Int)) = false := decide_eq_false (by omega)
  refine cv_of_run 1000 sc71 sb71 75 [.tmp 6, .tmp 7] tabOk (by kernel_rfl) Try.func71 rfl (by kernel_rfl) Try.ntmps71 rfl (by simp) rfl (by simp [bdL, SV.bd]) ?_
  simp (config := { maxSteps := 1000000 }) (disch := omega) only [go_sem, Int.reduceToNat, ↓reduceIte, Nat.reduceLT, Nat.reduceEqDiff, Nat.reduceAdd, Nat.reduceMul, Nat.reduceSub, Nat.reduceBEq, Nat.reduceLeDiff, reduceCtorEq, Nat.reduceLT, ↓Br_true, ↓Br_false, bind, pure, sc71, sb71]
  refine ⟨Nat, fun k => k ≤ q, fun k => q - k, fun k => [(0, .ptr 0 0 0), (1, .slc 1 0 m capm), (2, .slc 2 0 q capq), (6, .f .nils), (7, .f (.int .i64 0)), (8, .slc 4 0 0 0), (9, .f (.int .i64 k))], fun _ => [rmB3' r n cap, .rows m capm 3 g false, .rows q capq 3 u false, .rows n cap 3 f false, .rows 0 0 1 noRow true], 0, (by intro _; simp), ?_, (by (try refine Or.inl ?_); simp [Cov, covE, covH, cb_dead, cb_lit, cb_rows, cb_cells, cd_lit, cd_rows, cd_cells, cd_dead, covRow, look, SV.known, SV.bd, bdL, noRow, hcap, hcm, hcq] <;> omega), ?_⟩
  · omega
  · intro k hk
    by_cases hlt : k < q
    · have hd : decide ((k : Int) < q) = true := decide_eq_true (by omega)
      have e1 := hu k hlt
      simp only [Psn.fv] at e1
      have cv' := sValidPerson_cv (ps k)
      rw [hvp k hlt] at cv'
      simp (config := { maxSteps := 1000000 }) (disch := omega) only [go_sem, Int.reduceToNat, ↓reduceIte, Nat.reduceLT, Nat.reduceEqDiff, Nat.reduceAdd, Nat.reduceMul, Nat.reduceSub, Nat.reduceBEq, Nat.reduceLeDiff, reduceCtorEq, Nat.reduceLT, ↓Br_true, ↓Br_false, bind, pure, sc71, sb71, hd, e1]
      repeat' (first | (with_reducible refine And.intro (by first | (unfold SOk; kernel_rfl) | (unfold SBOk; kernel_rfl) | (with_reducible assumption) | omega | assumption) ?_) | (with_reducible refine Br_intro (fun hc => ?_) (fun hc => ?_)) | ((have cc := cv'; (first | ((first | refine callR (by rfl) (by rfl) (by rfl) cc ?_ | refine callM (by rfl) (by rfl) (by rfl) cc ?_ | refine callMo (by rfl) (by rfl) (by rfl) cc ?_); clear cc; rintro _ _ ⟨rfl, rfl⟩) | (refine callE (by rfl) cc (by rfl) ?_; clear cc))); simp (config := { maxSteps := 1000000 }) (disch := omega) only [go_sem, Int.reduceToNat, ↓reduceIte, Nat.reduceLT, Nat.reduceEqDiff, Nat.reduceAdd, Nat.reduceMul, Nat.reduceSub, Nat.reduceBEq, Nat.reduceLeDiff, reduceCtorEq, Nat.reduceLT, ↓Br_true, ↓Br_false, bind, pure, sc71, sb71, hd, e1]) | ((with_reducible show WidN _ _ _ _ _ _ _ _); (first | refine widL (by decide) (by with_reducible assumption) ?_ | refine widL (by decide) (FWok_nn (by with_reducible assumption)) ?_ | refine widN (by decide) (fun c hc => ?_)); simp (config := { maxSteps := 1000000 }) (disch := omega) only [go_sem, Int.reduceToNat, ↓reduceIte, Nat.reduceLT, Nat.reduceEqDiff, Nat.reduceAdd, Nat.reduceMul, Nat.reduceSub, Nat.reduceBEq, Nat.reduceLeDiff, reduceCtorEq, Nat.reduceLT, ↓Br_true, ↓Br_false, bind, pure, sc71, sb71, hd, e1]))
      exact ⟨k + 1, by omega, by omega, by (try refine Or.inl ?_); simp [Cov, covE, covH, cb_dead, cb_lit, cb_rows, cb_cells, cd_lit, cd_rows, cd_cells, cd_dead, covRow, look, SV.known, SV.bd, bdL, hcap, hcm, hcq] <;> omega⟩
    · have hd : decide ((k : Int) < q) = false := decide_eq_false (by omega)
      simp (config := { maxSteps := 1000000 }) (disch := omega) only [go_sem, Int.reduceToNat, ↓reduceIte, Nat.reduceLT, Nat.reduceEqDiff, Nat.reduceAdd, Nat.reduceMul, Nat.reduceSub, Nat.reduceBEq, Nat.reduceLeDiff, reduceCtorEq, Nat.reduceLT, ↓Br_true, ↓Br_false, bind, pure, sc71, sb71, hd]
      repeat' (first | (with_reducible refine And.intro (by first | (unfold SOk; kernel_rfl) | (unfold SBOk; kernel_rfl) | (with_reducible assumption) | omega | assumption) ?_) | (with_reducible refine Br_intro (fun hc => ?_) (fun hc => ?_)) | ((have cc := cd; (first | ((first | refine callR (by rfl) (by rfl) (by rfl) cc ?_ | refine callM (by rfl) (by rfl) (by rfl) cc ?_ | refine callMo (by rfl) (by rfl) (by rfl) cc ?_); clear cc; rintro _ _ ⟨rfl, rfl⟩) | (refine callE (by rfl) cc (by rfl) ?_; clear cc))); simp (config := { maxSteps := 1000000 }) (disch := omega) only [go_sem, Int.reduceToNat, ↓reduceIte, Nat.reduceLT, Nat.reduceEqDiff, Nat.reduceAdd, Nat.reduceMul, Nat.reduceSub, Nat.reduceBEq, Nat.reduceLeDiff, reduceCtorEq, Nat.reduceLT, ↓Br_true, ↓Br_false, bind, pure, sc71, sb71, hq9]) | ((with_reducible show WidN _ _ _ _ _ _ _ _); (first | refine widL (by decide) (by with_reducible assumption) ?_ | refine widL (by decide) (FWok_nn (by with_reducible assumption)) ?_ | refine widN (by decide) (fun c hc => ?_)); simp (config := { maxSteps := 1000000 }) (disch := omega) only [go_sem, Int.reduceToNat, ↓reduceIte, Nat.reduceLT, Nat.reduceEqDiff, Nat.reduceAdd, Nat.reduceMul, Nat.reduceSub, Nat.reduceBEq, Nat.reduceLeDiff, reduceCtorEq, Nat.reduceLT, ↓Br_true, ↓Br_false, bind, pure, sc71, sb71, hq9]))
      refine ⟨(Nat × Nat × (Nat → List FV)), fun s => s.1 ≤ m ∧ s.1 ≤ s.2.1 ∧ BitsAt (fun j => sbI r us n ps (ds j) q) s.1 s.2.2, fun s => m - s.1, fun s => [(0, .ptr 0 0 0), (1, .slc 1 0 m capm), (2, .slc 2 0 q capq), (6, .f .nils), (7, .f (.int .i64 0)), (8, .slc 4 0 s.1 s.2.1), (10, .f (.int .i64 0)), (11, .f (.int .i64 s.1))], fun s => [rmB3' r n cap, .rows m capm 3 g false, .rows q capq 3 u false, .rows n cap 3 f false, .rows s.1 s.2.1 1 s.2.2 true], (0, 0, noRow), (by intro _; simp), ?_, (by (try refine Or.inl ?_); simp [Cov, covE, covH, cb_dead, cb_lit, cb_rows, cb_cells, cd_lit, cd_rows, cd_cells, cd_dead, covRow, look, SV.known, SV.bd, bdL, noRow, hcap, hcm, hcq] <;> omega), ?_⟩
      · exact ⟨by omega, by omega, fun j hj => by simp only at hj; omega⟩
      · rintro ⟨i, cap1, z⟩ ⟨hi, hc1, hZ⟩
        simp only at hi hc1 hZ
        by_cases hit : i < m
        · have hd : decide ((i : Int) < m) = true := decide_eq_true (by omega)
          have e1 := hg i hit
          simp only [Dsk.fv] at e1
          have hI := desk_in hz (allD_at hb hit)
          simp (config := { maxSteps := 1000000 }) (disch := omega) only [go_sem, Int.reduceToNat, ↓reduceIte, Nat.reduceLT, Nat.reduceEqDiff, Nat.reduceAdd, Nat.reduceMul, Nat.reduceSub, Nat.reduceBEq, Nat.reduceLeDiff, reduceCtorEq, Nat.reduceLT, ↓Br_true, ↓Br_false, bind, pure, sc71, sb71, hd, e1]
          repeat' (first | (with_reducible refine And.intro (by first | (unfold SOk; kernel_rfl) | (unfold SBOk; kernel_rfl) | (with_reducible assumption) | omega | assumption) ?_) | (with_reducible refine Br_intro (fun hc => ?_) (fun hc => ?_)) | ((with_reducible show WidN _ _ _ _ _ _ _ _); (first | refine widL (by decide) (by with_reducible assumption) ?_ | refine widL (by decide) (FWok_nn (by with_reducible assumption)) ?_ | refine widN (by decide) (fun c hc => ?_)); simp (config := { maxSteps := 1000000 }) (disch := omega) only [go_sem, Int.reduceToNat, ↓reduceIte, Nat.reduceLT, Nat.reduceEqDiff, Nat.reduceAdd, Nat.reduceMul, Nat.reduceSub, Nat.reduceBEq, Nat.reduceLeDiff, reduceCtorEq, Nat.reduceLT, ↓Br_true, ↓Br_false, bind, pure, sc71, sb71, hd, e1]))
          refine ⟨Nat, fun k => k ≤ q, fun k => q - k, fun k => [(0, .ptr 0 0 0), (1, .slc 1 0 m capm), (2, .slc 2 0 q capq), (6, .f .nils), (7, .f (.int .i64 0)), (8, .slc 4 0 i cap1), (10, .f (.int .i64 0)), (11, .f (.int .i64 i)), (12, .f (.int .u16 (sbI r us n ps (ds i) k))), (13, .f (.int .i64 k))], fun _ => [rmB3' r n cap, .rows m capm 3 g false, .rows q capq 3 u false, .rows n cap 3 f false, .rows i cap1 1 z true], 0, (by intro _; simp), ?_, (by (try refine Or.inl ?_); simp [Cov, covE, covH, cb_dead, cb_lit, cb_rows, cb_cells, cd_lit, cd_rows, cd_cells, cd_dead, covRow, look, SV.known, SV.bd, bdL, sbI, hcap, hcm, hcq, hc1] <;> omega), ?_⟩
          · omega
          · intro k hk
            by_cases hkt : k < q
            · have hd : decide ((k : Int) < q) = true := decide_eq_true (by omega)
              have e2 := hu k hkt
              simp only [Psn.fv] at e2
              simp (config := { maxSteps := 1000000 }) (disch := omega) only [go_sem, Int.reduceToNat, ↓reduceIte, Nat.reduceLT, Nat.reduceEqDiff, Nat.reduceAdd, Nat.reduceMul, Nat.reduceSub, Nat.reduceBEq, Nat.reduceLeDiff, reduceCtorEq, Nat.reduceLT, ↓Br_true, ↓Br_false, bind, pure, sc71, sb71, hd, e1, e2]
              repeat' (first | (with_reducible refine And.intro (by first | (unfold SOk; kernel_rfl) | (unfold SBOk; kernel_rfl) | (with_reducible assumption) | omega | assumption) ?_) | (with_reducible refine Br_intro (fun hc => ?_) (fun hc => ?_)) | ((have cc := l03Suits_cv r us (ds i) (ps k) n cap f H.hf hcap H.hn hz hw hI; (first | ((first | refine callR (by rfl) (by rfl) (by rfl) cc ?_ | refine callM (by rfl) (by rfl) (by rfl) cc ?_ | refine callMo (by rfl) (by rfl) (by rfl) cc ?_); clear cc; rintro _ _ ⟨rfl, rfl⟩) | (refine callE (by rfl) cc (by rfl) ?_; clear cc))); simp (config := { maxSteps := 1000000 }) (disch := omega) only [go_sem, Int.reduceToNat, ↓reduceIte, Nat.reduceLT, Nat.reduceEqDiff, Nat.reduceAdd, Nat.reduceMul, Nat.reduceSub, Nat.reduceBEq, Nat.reduceLeDiff, reduceCtorEq, Nat.reduceLT, ↓Br_true, ↓Br_false, bind, pure, sc71, sb71, hd, e1, e2]) | ((with_reducible show WidN _ _ _ _ _ _ _ _); (first | refine widL (by decide) (by with_reducible assumption) ?_ | refine widL (by decide) (FWok_nn (by with_reducible assumption)) ?_ | refine widN (by decide) (fun c hc => ?_)); simp (config := { maxSteps := 1000000 }) (disch := omega) only [go_sem, Int.reduceToNat, ↓reduceIte, Nat.reduceLT, Nat.reduceEqDiff, Nat.reduceAdd, Nat.reduceMul, Nat.reduceSub, Nat.reduceBEq, Nat.reduceLeDiff, reduceCtorEq, Nat.reduceLT, ↓Br_true, ↓Br_false, bind, pure, sc71, sb71, hd, e1, e2]))
              · exact ⟨k + 1, by omega, by omega, by (try refine Or.inl ?_); simp [Cov, covE, covH, cb_dead, cb_lit, cb_rows, cb_cells, cd_lit, cd_rows, cd_cells, cd_dead, covRow, look, SV.known, SV.bd, bdL, sbI, hc, hcap, hcm, hcq, hc1] <;> omega⟩
              · exact ⟨k + 1, by omega, by omega, by (try refine Or.inl ?_); simp [Cov, covE, covH, cb_dead, cb_lit, cb_rows, cb_cells, cd_lit, cd_rows, cd_cells, cd_dead, covRow, look, SV.known, SV.bd, bdL, sbI, hc, hcap, hcm, hcq, hc1] <;> omega⟩
            · have hd : decide ((k : Int) < q) = false := decide_eq_false (by omega)
              simp (config := { maxSteps := 1000000 }) (disch := omega) only [go_sem, Int.reduceToNat, ↓reduceIte, Nat.reduceLT, Nat.reduceEqDiff, Nat.reduceAdd, Nat.reduceMul, Nat.reduceSub, Nat.reduceBEq, Nat.reduceLeDiff, reduceCtorEq, Nat.reduceLT, ↓Br_true, ↓Br_false, bind, pure, sc71, sb71, hd]
              obtain rfl : k = q := by omega
              refine ⟨⟨Nat.le_refl _, by omega⟩, Or.inr (Or.inl ⟨⟨rfl, Nat.le_refl _⟩, fun cap' hcap' => ?_⟩)⟩
              simp (config := { maxSteps := 1000000 }) (disch := omega) only [go_sem, Int.reduceToNat, ↓reduceIte, Nat.reduceLT, Nat.reduceEqDiff, Nat.reduceAdd, Nat.reduceMul, Nat.reduceSub, Nat.reduceBEq, Nat.reduceLeDiff, reduceCtorEq, Nat.reduceLT, ↓Br_true, ↓Br_false, bind, pure, sc71, sb71]
              exact ⟨(i + 1, cap', catR z i (shR (nthR [ [.int .u16 (sbI r us n ps (ds i) k)] ]) 0)), ⟨by omega, hcap', hZ.push rfl⟩, by omega, by refine Or.inr ⟨[0, 1, 2, 3, 6], by rfl, ?_⟩; simp [Cov, covE, covH, cb_dead, cb_lit, cb_rows, cb_cells, cd_lit, cd_rows, cd_cells, cd_dead, covRow, look, SV.known, SV.bd, bdL, locE, locV, locH, hget, SV.lin, inL, SV.ren, idx, bk_ren_lit, bk_ren_rows, bk_ren_cells, renL, linL, hcap, hcm, hcq, hcap'] <;> omega⟩
        · have hd : decide ((i : Int) < m) = false := decide_eq_false (by omega)
          simp (config := { maxSteps := 1000000 }) (disch := omega) only [go_sem, Int.reduceToNat, ↓reduceIte, Nat.reduceLT, Nat.reduceEqDiff, Nat.reduceAdd, Nat.reduceMul, Nat.reduceSub, Nat.reduceBEq, Nat.reduceLeDiff, reduceCtorEq, Nat.reduceLT, ↓Br_true, ↓Br_false, bind, pure, sc71, sb71, hd]
          repeat' (first | (with_reducible refine And.intro (by first | (unfold SOk; kernel_rfl) | (unfold SBOk; kernel_rfl) | (with_reducible assumption) | omega | assumption) ?_) | (with_reducible refine Br_intro (fun hc => ?_) (fun hc => ?_)) | ((with_reducible show WidN _ _ _ _ _ _ _ _); (first | refine widL (by decide) (by with_reducible assumption) ?_ | refine widL (by decide) (FWok_nn (by with_reducible assumption)) ?_ | refine widN (by decide) (fun c hc => ?_)); simp (config := { maxSteps := 1000000 }) (disch := omega) only [go_sem, Int.reduceToNat, ↓reduceIte, Nat.reduceLT, Nat.reduceEqDiff, Nat.reduceAdd, Nat.reduceMul, Nat.reduceSub, Nat.reduceBEq, Nat.reduceLeDiff, reduceCtorEq, Nat.reduceLT, ↓Br_true, ↓Br_false, bind, pure, sc71, sb71, hd]))
          obtain rfl : i = m := by omega
          exact ⟨cap1, z, hZ, hc1, rfl, rfl⟩
theorem l03BitsBad_cv (r : Rom) (us : Nat → Win) (ds : Nat → Dsk) (ps : Nat → Psn) (n cap m capm q capq : Nat) (f g u : Nat → List FV) (H : RomH r us n cap f) (D : DskH ds m capm g) (P : PsnH ps q capq u) (ha : sbC r us n ds ps m q ≠ 0) :
    CV Try.prog 71 [.ptr 0 0 0, .slc 1 0 m capm, .slc 2 0 q capq] [rmB3' r n cap, .rows m capm 3 g false, .rows q capq 3 u false, .rows n cap 3 f false] (fun v h => v = .tup [.slc 4 0 0 0, .f (.int .i64 (sbC r us n ds ps m q))] ∧ h = [rmB3' r n cap, .rows m capm 3 g false, .rows q capq 3 u false, .rows n cap 3 f false, .rows 0 0 1 noRow true]) := by
  have hcap := H.hcap
  have cd := l03Desks_cv r us ds n cap m capm f g true H D
  rw [Bool.and_true] at cd
  obtain ⟨hg, hcm, hm, hs⟩ := D
  obtain ⟨hu, hcq, hq⟩ := P
  refine cv_of_run 1000 sc71 sb71 75 [.tmp 6, .tmp 7] tabOk (by kernel_rfl) Try.func71 rfl (by kernel_rfl) Try.ntmps71 rfl (by simp) rfl (by simp [bdL, SV.bd]) ?_
  simp (config := { maxSteps := 1000000 }) (disch := omega) only [go_sem, Int.reduceToNat, ↓reduceIte, Nat.reduceLT, Nat.reduceEqDiff, Nat.reduceAdd, Nat.reduceMul, Nat.reduceSub, Nat.reduceBEq, Nat.reduceLeDiff, reduceCtorEq, Nat.reduceLT, ↓Br_true, ↓Br_false, bind, pure, sc71, sb71]
  refine ⟨Nat, fun k => k ≤ q ∧ allPs ps k = true, fun k => q - k, fun k => [(0, .ptr 0 0 0), (1, .slc 1 0 m capm), (2, .slc 2 0 q capq), (6, .f .nils), (7, .f (.int .i64 0)), (8, .slc 4 0 0 0), (9, .f (.int .i64 k))], fun _ => [rmB3' r n cap, .rows m capm 3 g false, .rows q capq 3 u false, .rows n cap 3 f false, .rows 0 0 1 noRow true], 0, (by intro _; simp), ?_, (by (try refine Or.inl ?_); simp [Cov, covE, covH, cb_dead, cb_lit, cb_rows, cb_cells, cd_lit, cd_rows, cd_cells, cd_dead, covRow, look, SV.known, SV.bd, bdL, noRow, hcap, hcm, hcq] <;> omega), ?_⟩
  · exact ⟨by omega, rfl⟩
  · rintro k ⟨hk, hall⟩
    by_cases hlt : k < q
    · have hd : decide ((k : Int) < q) = true := decide_eq_true (by omega)
      have e1 := hu k hlt
      simp only [Psn.fv] at e1
      simp (config := { maxSteps := 1000000 }) (disch := omega) only [go_sem, Int.reduceToNat, ↓reduceIte, Nat.reduceLT, Nat.reduceEqDiff, Nat.reduceAdd, Nat.reduceMul, Nat.reduceSub, Nat.reduceBEq, Nat.reduceLeDiff, reduceCtorEq, Nat.reduceLT, ↓Br_true, ↓Br_false, bind, pure, sc71, sb71, hd, e1]
      repeat' (first | (with_reducible refine And.intro (by first | (unfold SOk; kernel_rfl) | (unfold SBOk; kernel_rfl) | (with_reducible assumption) | omega | assumption) ?_) | (with_reducible refine Br_intro (fun hc => ?_) (fun hc => ?_)) | ((have cc := sValidPerson_cv (ps k); (first | ((first | refine callR (by rfl) (by rfl) (by rfl) cc ?_ | refine callM (by rfl) (by rfl) (by rfl) cc ?_ | refine callMo (by rfl) (by rfl) (by rfl) cc ?_); clear cc; rintro _ _ ⟨rfl, rfl⟩) | (refine callE (by rfl) cc (by rfl) ?_; clear cc))); simp (config := { maxSteps := 1000000 }) (disch := omega) only [go_sem, Int.reduceToNat, ↓reduceIte, Nat.reduceLT, Nat.reduceEqDiff, Nat.reduceAdd, Nat.reduceMul, Nat.reduceSub, Nat.reduceBEq, Nat.reduceLeDiff, reduceCtorEq, Nat.reduceLT, ↓Br_true, ↓Br_false, bind, pure, sc71, sb71, hd, e1]) | ((with_reducible show WidN _ _ _ _ _ _ _ _); (first | refine widL (by decide) (by with_reducible assumption) ?_ | refine widL (by decide) (FWok_nn (by with_reducible assumption)) ?_ | refine widN (by decide) (fun c hc => ?_)); simp (config := { maxSteps := 1000000 }) (disch := omega) only [go_sem, Int.reduceToNat, ↓reduceIte, Nat.reduceLT, Nat.reduceEqDiff, Nat.reduceAdd, Nat.reduceMul, Nat.reduceSub, Nat.reduceBEq, Nat.reduceLeDiff, reduceCtorEq, Nat.reduceLT, ↓Br_true, ↓Br_false, bind, pure, sc71, sb71, hd, e1]))
      · simp only [Bool.not_eq_true'] at hc
        simp [sbC, pplC, allPs_no hlt hc]
      · simp only [Bool.not_eq_false'] at hc
        exact ⟨k + 1, ⟨by omega, by rw [allPs_succ, hall, hc]; rfl⟩, by omega, by (try refine Or.inl ?_); simp [Cov, covE, covH, cb_dead, cb_lit, cb_rows, cb_cells, cd_lit, cd_rows, cd_cells, cd_dead, covRow, look, SV.known, SV.bd, bdL, hcap, hcm, hcq] <;> omega⟩
    · have hd : decide ((k : Int) < q) = false := decide_eq_false (by omega)
      simp (config := { maxSteps := 1000000 }) (disch := omega) only [go_sem, Int.reduceToNat, ↓reduceIte, Nat.reduceLT, Nat.reduceEqDiff, Nat.reduceAdd, Nat.reduceMul, Nat.reduceSub, Nat.reduceBEq, Nat.reduceLeDiff, reduceCtorEq, Nat.reduceLT, ↓Br_true, ↓Br_false, bind, pure, sc71, sb71, hd]
      obtain rfl : k = q := by omega
      have eC : sbC r us n ds ps m k = (if dskC (vRoom r us n) (allD r ds m) m = 0 ∧ 8 < k then 3 else dskC (vRoom r us n) (allD r ds m) m) := by
        unfold sbC pplC dskC
        rw [hall, if_pos rfl]
        generalize askC (vRoom r us n) (allD r ds m) = c
        split <;> split <;> (try split) <;> omega
      rw [eC] at ha ⊢
      generalize dskC (vRoom r us n) (allD r ds m) m = c at *
      repeat' (first | (with_reducible refine And.intro (by first | (unfold SOk; kernel_rfl) | (unfold SBOk; kernel_rfl) | (with_reducible assumption) | omega | assumption) ?_) | (with_reducible refine Br_intro (fun hc => ?_) (fun hc => ?_)) | ((have cc := cd; (first | ((first | refine callR (by rfl) (by rfl) (by rfl) cc ?_ | refine callM (by rfl) (by rfl) (by rfl) cc ?_ | refine callMo (by rfl) (by rfl) (by rfl) cc ?_); clear cc; rintro _ _ ⟨rfl, rfl⟩) | (refine callE (by rfl) cc (by rfl) ?_; clear cc))); simp (config := { maxSteps := 1000000 }) (disch := omega) only [go_sem, Int.reduceToNat, ↓reduceIte, Nat.reduceLT, Nat.reduceEqDiff, Nat.reduceAdd, Nat.reduceMul, Nat.reduceSub, Nat.reduceBEq, Nat.reduceLeDiff, reduceCtorEq, Nat.reduceLT, ↓Br_true, ↓Br_false, bind, pure, sc71, sb71]) | ((with_reducible show WidN _ _ _ _ _ _ _ _); (first | refine widL (by decide) (by with_reducible assumption) ?_ | refine widL (by decide) (FWok_nn (by with_reducible assumption)) ?_ | refine widN (by decide) (fun c hc => ?_)); simp (config := { maxSteps := 1000000 }) (disch := omega) only [go_sem, Int.reduceToNat, ↓reduceIte, Nat.reduceLT, Nat.reduceEqDiff, Nat.reduceAdd, Nat.reduceMul, Nat.reduceSub, Nat.reduceBEq, Nat.reduceLeDiff, reduceCtorEq, Nat.reduceLT, ↓Br_true, ↓Br_false, bind, pure, sc71, sb71]))
      all_goals simp only [decide_eq_true_eq, decide_eq_false_iff_not] at *
      · rename_i h0
        have h8 : 8 < k := by omega
        rw [if_pos ⟨h0, h8⟩]
        have hX : decide ((3 : Int) = 0) = false := by decide
        refine ⟨Unit, fun _ => True, fun _ => 0, fun _ => [(0, .ptr 0 0 0), (1, .slc 1 0 m capm), (2, .slc 2 0 k capq), (6, .f .nils), (7, .f (.int .i64 0)), (8, .slc 4 0 0 0), (10, .f (.int .i64 3)), (11, .f (.int .i64 0))], fun _ => [rmB3' r n cap, .rows m capm 3 g false, .rows k capq 3 u false, .rows n cap 3 f false, .rows 0 0 1 noRow true], (), (by intro _; simp), ?_, (by (try refine Or.inl ?_); simp [Cov, covE, covH, cb_dead, cb_lit, cb_rows, cb_cells, cd_lit, cd_rows, cd_cells, cd_dead, covRow, look, SV.known, SV.bd, bdL, noRow, hcap, hcm, hcq] <;> omega), ?_⟩
        · trivial
        · intro _ _
          by_cases hm0 : 0 < m
          · have hd : decide ((0 : Int) < m) = true := decide_eq_true (by omega)
            simp (config := { maxSteps := 1000000 }) (disch := omega) only [go_sem, Int.reduceToNat, ↓reduceIte, Nat.reduceLT, Nat.reduceEqDiff, Nat.reduceAdd, Nat.reduceMul, Nat.reduceSub, Nat.reduceBEq, Nat.reduceLeDiff, reduceCtorEq, Nat.reduceLT, ↓Br_true, ↓Br_false, bind, pure, sc71, sb71, hd, hX]
            repeat' (first | (with_reducible refine And.intro (by first | (unfold SOk; kernel_rfl) | (unfold SBOk; kernel_rfl) | (with_reducible assumption) | omega | assumption) ?_) | (with_reducible refine Br_intro (fun hc => ?_) (fun hc => ?_)) | ((with_reducible show WidN _ _ _ _ _ _ _ _); (first | refine widL (by decide) (by with_reducible assumption) ?_ | refine widL (by decide) (FWok_nn (by with_reducible assumption)) ?_ | refine widN (by decide) (fun c hc => ?_)); simp (config := { maxSteps := 1000000 }) (disch := omega) only [go_sem, Int.reduceToNat, ↓reduceIte, Nat.reduceLT, Nat.reduceEqDiff, Nat.reduceAdd, Nat.reduceMul, Nat.reduceSub, Nat.reduceBEq, Nat.reduceLeDiff, reduceCtorEq, Nat.reduceLT, ↓Br_true, ↓Br_false, bind, pure, sc71, sb71, hd, hX]))
          · have hd : decide ((0 : Int) < m) = false := decide_eq_false (by omega)
            simp (config := { maxSteps := 1000000 }) (disch := omega) only [go_sem, Int.reduceToNat, ↓reduceIte, Nat.reduceLT, Nat.reduceEqDiff, Nat.reduceAdd, Nat.reduceMul, Nat.reduceSub, Nat.reduceBEq, Nat.reduceLeDiff, reduceCtorEq, Nat.reduceLT, ↓Br_true, ↓Br_false, bind, pure, sc71, sb71, hd, hX]
            repeat' (first | (with_reducible refine And.intro (by first | (unfold SOk; kernel_rfl) | (unfold SBOk; kernel_rfl) | (with_reducible assumption) | omega | assumption) ?_) | (with_reducible refine Br_intro (fun hc => ?_) (fun hc => ?_)) | ((with_reducible show WidN _ _ _ _ _ _ _ _); (first | refine widL (by decide) (by with_reducible assumption) ?_ | refine widL (by decide) (FWok_nn (by with_reducible assumption)) ?_ | refine widN (by decide) (fun c hc => ?_)); simp (config := { maxSteps := 1000000 }) (disch := omega) only [go_sem, Int.reduceToNat, ↓reduceIte, Nat.reduceLT, Nat.reduceEqDiff, Nat.reduceAdd, Nat.reduceMul, Nat.reduceSub, Nat.reduceBEq, Nat.reduceLeDiff, reduceCtorEq, Nat.reduceLT, ↓Br_true, ↓Br_false, bind, pure, sc71, sb71, hd, hX]))
      · rename_i h0
        rw [if_neg (fun h => hc (by omega))] at ha
        exact absurd h0 ha
      · rw [if_neg (fun h => hc h.1)]
        have hX : decide ((c : Int) = 0) = false := decide_eq_false hc
        refine ⟨Unit, fun _ => True, fun _ => 0, fun _ => [(0, .ptr 0 0 0), (1, .slc 1 0 m capm), (2, .slc 2 0 k capq), (6, .f .nils), (7, .f (.int .i64 0)), (8, .slc 4 0 0 0), (10, .f (.int .i64 c)), (11, .f (.int .i64 0))], fun _ => [rmB3' r n cap, .rows m capm 3 g false, .rows k capq 3 u false, .rows n cap 3 f false, .rows 0 0 1 noRow true], (), (by intro _; simp), ?_, (by (try refine Or.inl ?_); simp [Cov, covE, covH, cb_dead, cb_lit, cb_rows, cb_cells, cd_lit, cd_rows, cd_cells, cd_dead, covRow, look, SV.known, SV.bd, bdL, noRow, hcap, hcm, hcq] <;> omega), ?_⟩
        · trivial
        · intro _ _
          by_cases hm0 : 0 < m
          · have hd : decide ((0 : Int) < m) = true := decide_eq_true (by omega)
            simp (config := { maxSteps := 1000000 }) (disch := omega) only [go_sem, Int.reduceToNat, ↓reduceIte, Nat.reduceLT, Nat.reduceEqDiff, Nat.reduceAdd, Nat.reduceMul, Nat.reduceSub, Nat.reduceBEq, Nat.reduceLeDiff, reduceCtorEq, Nat.reduceLT, ↓Br_true, ↓Br_false, bind, pure, sc71, sb71, hd, hX]
            repeat' (first | (with_reducible refine And.intro (by first | (unfold SOk; kernel_rfl) | (unfold SBOk; kernel_rfl) | (with_reducible assumption) | omega | assumption) ?_) | (with_reducible refine Br_intro (fun hc => ?_) (fun hc => ?_)) | ((with_reducible show WidN _ _ _ _ _ _ _ _); (first | refine widL (by decide) (by with_reducible assumption) ?_ | refine widL (by decide) (FWok_nn (by with_reducible assumption)) ?_ | refine widN (by decide) (fun c hc => ?_)); simp (config := { maxSteps := 1000000 }) (disch := omega) only [go_sem, Int.reduceToNat, ↓reduceIte, Nat.reduceLT, Nat.reduceEqDiff, Nat.reduceAdd, Nat.reduceMul, Nat.reduceSub, Nat.reduceBEq, Nat.reduceLeDiff, reduceCtorEq, Nat.reduceLT, ↓Br_true, ↓Br_false, bind, pure, sc71, sb71, hd, hX]))
          · have hd : decide ((0 : Int) < m) = false := decide_eq_false (by omega)
            simp (config := { maxSteps := 1000000 }) (disch := omega) only [go_sem, Int.reduceToNat, ↓reduceIte, Nat.reduceLT, Nat.reduceEqDiff, Nat.reduceAdd, Nat.reduceMul, Nat.reduceSub, Nat.reduceBEq, Nat.reduceLeDiff, reduceCtorEq, Nat.reduceLT, ↓Br_true, ↓Br_false, bind, pure, sc71, sb71, hd, hX]
            repeat' (first | (with_reducible refine And.intro (by first | (unfold SOk; kernel_rfl) | (unfold SBOk; kernel_rfl) | (with_reducible assumption) | omega | assumption) ?_) | (with_reducible refine Br_intro (fun hc => ?_) (fun hc => ?_)) | ((with_reducible show WidN _ _ _ _ _ _ _ _); (first | refine widL (by decide) (by with_reducible assumption) ?_ | refine widL (by decide) (FWok_nn (by with_reducible assumption)) ?_ | refine widN (by decide) (fun c hc => ?_)); simp (config := { maxSteps := 1000000 }) (disch := omega) only [go_sem, Int.reduceToNat, ↓reduceIte, Nat.reduceLT, Nat.reduceEqDiff, Nat.reduceAdd, Nat.reduceMul, Nat.reduceSub, Nat.reduceBEq, Nat.reduceLeDiff, reduceCtorEq, Nat.reduceLT, ↓Br_true, ↓Br_false, bind, pure, sc71, sb71, hd, hX]))
theorem sSuitBits_cv (r : Rom) (us : Nat → Win) (ds : Nat → Dsk) (ps : Nat → Psn) (n cap m capm q capq : Nat) (f g u : Nat → List FV) (H : RomH r us n cap f) (D : DskH ds m capm g) (P : PsnH ps q capq u) (ha : sbC r us n ds ps m q = 0) :
    CV Try.prog 31 [romV r n cap, .slc 1 0 m capm, .slc 2 0 q capq] [.rows n cap 3 f false, .rows m capm 3 g false, .rows q capq 3 u false] (fun v h => ∃ cap' z, BitsAt (fun j => sbI r us n ps (ds j) q) m z ∧ m ≤ cap' ∧ v = .tup [.slc 3 0 m cap', .f (.int .i64 0)] ∧ h = [.rows n cap 3 f false, .rows m capm 3 g false, .rows q capq 3 u false, .rows m cap' 1 z true]) := by
  refine cv_of_run 1000 sc31 sb31 13 [.tmp 6, .tmp 7] tabOk (by kernel_rfl) Try.func31 rfl (by kernel_rfl) Try.ntmps31 rfl (by simp) rfl (by simp [bdL, SV.bd]) ?_
  simp (config := { maxSteps := 1000000 }) (disch := omega) only [go_sem, Int.reduceToNat, ↓reduceIte, Nat.reduceLT, Nat.reduceEqDiff, Nat.reduceAdd, Nat.reduceMul, Nat.reduceSub, Nat.reduceBEq, Nat.reduceLeDiff, reduceCtorEq, Nat.reduceLT, ↓Br_true, ↓Br_false, bind, pure, sc31, sb31]
  have cc := l03Bits_cv r us ds ps n cap m capm q capq f g u H D P ha; (first | refine callR (by rfl) (by rfl) (by rfl) cc ?_ | refine callM (by rfl) (by rfl) (by rfl) cc ?_ | refine callMo (by rfl) (by rfl) (by rfl) cc ?_ | refine callG (by rfl) (by rfl) (by rfl) cc ?_ | refine callW (by rfl) (by first | rfl | (simp [ofL, kpB, kpR, ofB, isOwnB, isDead, inL, hget]; done)) (by rfl) (by rfl) cc ?_); clear cc; rintro _ _ ⟨cap', z, hZ, hc', rfl, rfl⟩
  simp (config := { maxSteps := 1000000 }) (disch := omega) only [go_sem, Int.reduceToNat, ↓reduceIte, Nat.reduceLT, Nat.reduceEqDiff, Nat.reduceAdd, Nat.reduceMul, Nat.reduceSub, Nat.reduceBEq, Nat.reduceLeDiff, reduceCtorEq, Nat.reduceLT, ↓Br_true, ↓Br_false, bind, pure, sc31, sb31]
  exact ⟨cap', z, hZ, hc', rfl, rfl⟩
theorem sSuitBitsBad_cv (r : Rom) (us : Nat → Win) (ds : Nat → Dsk) (ps : Nat → Psn) (n cap m capm q capq : Nat) (f g u : Nat → List FV) (H : RomH r us n cap f) (D : DskH ds m capm g) (P : PsnH ps q capq u) (ha : sbC r us n ds ps m q ≠ 0) :
    CV Try.prog 31 [romV r n cap, .slc 1 0 m capm, .slc 2 0 q capq] [.rows n cap 3 f false, .rows m capm 3 g false, .rows q capq 3 u false] (fun v h => v = .tup [.slc 3 0 0 0, .f (.int .i64 (sbC r us n ds ps m q))] ∧ h = [.rows n cap 3 f false, .rows m capm 3 g false, .rows q capq 3 u false, .rows 0 0 1 noRow true]) := by
  have cb := l03BitsBad_cv r us ds ps n cap m capm q capq f g u H D P ha
  generalize sbC r us n ds ps m q = c at *
  refine cv_of_run 1000 sc31 sb31 13 [.tmp 6, .tmp 7] tabOk (by kernel_rfl) Try.func31 rfl (by kernel_rfl) Try.ntmps31 rfl (by simp) rfl (by simp [bdL, SV.bd]) ?_
  simp (config := { maxSteps := 1000000 }) (disch := omega) only [go_sem, Int.reduceToNat, ↓reduceIte, Nat.reduceLT, Nat.reduceEqDiff, Nat.reduceAdd, Nat.reduceMul, Nat.reduceSub, Nat.reduceBEq, Nat.reduceLeDiff, reduceCtorEq, Nat.reduceLT, ↓Br_true, ↓Br_false, bind, pure, sc31, sb31]
  (have cc := cb; (first | ((first | refine callR (by rfl) (by rfl) (by rfl) cc ?_ | refine callM (by rfl) (by rfl) (by rfl) cc ?_ | refine callMo (by rfl) (by rfl) (by rfl) cc ?_); clear cc; rintro _ _ ⟨rfl, rfl⟩) | (refine callE (by rfl) cc (by rfl) ?_; clear cc)))
  simp (config := { maxSteps := 1000000 }) (disch := omega) only [go_sem, Int.reduceToNat, ↓reduceIte, Nat.reduceLT, Nat.reduceEqDiff, Nat.reduceAdd, Nat.reduceMul, Nat.reduceSub, Nat.reduceBEq, Nat.reduceLeDiff, reduceCtorEq, Nat.reduceLT, ↓Br_true, ↓Br_false, bind, pure, sc31, sb31]
end Go.Proofs.Ytdncopphjamilaa.Vx
