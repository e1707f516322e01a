/- Rooms, in the abstract: the wall with the least glare; the law. -/
import Derived.Test.YtdncopphjamilaaRg
import Derived.Test.YtdncopphjamilaaRy
namespace Go.Proofs.Ytdncopphjamilaa.Vx
open Go Go.RowKit Fl
set_option maxRecDepth 100000
set_option maxHeartbeats 2000000
set_option linter.unusedSimpArgs false
set_option linter.unusedVariables false

def lgB (V : Int → Nat) : Nat → Int
  | 0 => 0
  | k + 1 => if flt (V ((k + 1 : Nat) : Int)) (V (lgB V k)) then ((k + 1 : Nat) : Int) else lgB V k
theorem lgB_in (V : Int → Nat) : ∀ k, 0 ≤ lgB V k ∧ lgB V k ≤ k
  | 0 => by simp [lgB]
  | k + 1 => by have := lgB_in V k; simp only [lgB]; split <;> omega
def lgW (r : Rom) (us : Nat → Win) (n : Nat) (p : Int × Int) (w : Int) : Nat := glaF r us ⟨p.1, p.2, w⟩ n
abbrev lgV (r : Rom) (us : Nat → Win) (n : Nat) (p : Int × Int) : SV :=
  .tup [.f (.int .i64 (if askC (vRoom r us n) (hasT r p) = 0 then lgB (lgW r us n p) 3 else 0)), .f (.flt .f32 (if askC (vRoom r us n) (hasT r p) = 0 then lgW r us n p (lgB (lgW r us n p) 3) else 0)), .f (.int .i64 (askC (vRoom r us n) (hasT r p)))]
theorem LeastGlare_cv (r : Rom) (us : Nat → Win) (p : Int × Int) (n cap : Nat) (f : Nat → List FV) (H : RomH r us n cap f) (hp : smT p) :
    CV Try.prog 37 [romV r n cap, tilV p] [.rows n cap 3 f false] (fun v h => v = lgV r us n p ∧ h = [.rows n cap 3 f false]) := by
  have hcap := H.hcap
  refine cv_of_run 1000 sc37 sb37 37 [.tmp 4, .tmp 5, .tmp 6] tabOk (by kernel_rfl) Try.func37 rfl (by kernel_rfl) Try.ntmps37 rfl (by simp) rfl (by simp [bdL, SV.bd]) ?_
  simp (config := { maxSteps := 1000000 }) (disch := omega) only [go_sem, Int.reduceToNat, ↓reduceIte, Nat.reduceLT, Nat.reduceEqDiff, Nat.reduceAdd, Nat.reduceMul, Nat.reduceSub, Nat.reduceBEq, Nat.reduceLeDiff, reduceCtorEq, Nat.reduceLT, ↓Br_true, ↓Br_false, bind, pure, sc37, sb37]
  repeat' (first | (with_reducible refine And.intro (by first | (unfold SOk; kernel_rfl) | (unfold SBOk; kernel_rfl) | (with_reducible assumption) | omega | assumption) ?_) | (with_reducible refine Br_intro (fun hc => ?_) (fun hc => ?_)) | ((have cc := has_cv r p n cap f hcap; (first | ((first | refine callR (by rfl) (by rfl) (by rfl) cc ?_ | refine callM (by rfl) (by rfl) (by rfl) cc ?_ | refine callMo (by rfl) (by rfl) (by rfl) cc ?_); clear cc; rintro _ _ ⟨rfl, rfl⟩) | (refine callE (by rfl) cc (by rfl) ?_; clear cc))); simp (config := { maxSteps := 1000000 }) (disch := omega) only [go_sem, Int.reduceToNat, ↓reduceIte, Nat.reduceLT, Nat.reduceEqDiff, Nat.reduceAdd, Nat.reduceMul, Nat.reduceSub, Nat.reduceBEq, Nat.reduceLeDiff, reduceCtorEq, Nat.reduceLT, ↓Br_true, ↓Br_false, bind, pure, sc37, sb37]) | ((first | (refine callR (by rfl) (by rfl) (by rfl) (roomCode_cv r us n cap f _ H) ?_; rintro _ _ ⟨rfl, rfl⟩) | (refine callM (by rfl) (by rfl) (by rfl) (roomCode_cv r us n cap f _ H) ?_; rintro _ _ ⟨rfl, rfl⟩) | (refine callMo (by rfl) (by rfl) (by rfl) (roomCode_cv r us n cap f _ H) ?_; rintro _ _ ⟨rfl, rfl⟩) | (refine callE (by rfl) (roomCode_cv r us n cap f _ H) (by rfl) ?_)); simp (config := { maxSteps := 1000000 }) (disch := omega) only [go_sem, Int.reduceToNat, ↓reduceIte, Nat.reduceLT, Nat.reduceEqDiff, Nat.reduceAdd, Nat.reduceMul, Nat.reduceSub, Nat.reduceBEq, Nat.reduceLeDiff, reduceCtorEq, Nat.reduceLT, ↓Br_true, ↓Br_false, bind, pure, sc37, sb37]) | ((with_reducible show WidN _ _ _ _ _ _ _ _); (first | refine widL (by decide) (by with_reducible assumption) ?_ | refine widL (by decide) (FWok_nn (by with_reducible assumption)) ?_ | refine widN (by decide) (fun c hc => ?_)); simp (config := { maxSteps := 1000000 }) (disch := omega) only [go_sem, Int.reduceToNat, ↓reduceIte, Nat.reduceLT, Nat.reduceEqDiff, Nat.reduceAdd, Nat.reduceMul, Nat.reduceSub, Nat.reduceBEq, Nat.reduceLeDiff, reduceCtorEq, Nat.reduceLT, ↓Br_true, ↓Br_false, bind, pure, sc37, sb37]))
  · simp only [Bool.not_eq_true', decide_eq_false_iff_not] at hc
    simp [lgV, hc]
  · simp only [Bool.not_eq_false', decide_eq_true_eq] at hc
    obtain ⟨hz, h12, hw, hb⟩ := room_asked hc
    have hI := has_in hz hb
    have eV : lgV r us n p = .tup [.f (.int .i64 (lgB (lgW r us n p) 3)), .f (.flt .f32 (lgW r us n p (lgB (lgW r us n p) 3))), .f (.int .i64 0)] := by simp [lgV, hc]
    rw [eV]
    have cg := fun w => glare_cv r us ⟨p.1, p.2, w⟩ n cap f H.hf hcap H.hn hz hw hI
    have hB := lgB_in (lgW r us n p)
    have e0 : lgB (lgW r us n p) 0 = 0 := rfl
    have hv : ∀ w, glaF r us ⟨p.1, p.2, w⟩ n = lgW r us n p w := fun w => rfl
    simp only [hv] at cg
    generalize lgW r us n p = V at *
    refine ⟨Nat, fun k => k ≤ 3, fun k => 3 - k, fun k => [(2, .ptr 1 0 0), (3, .ptr 2 0 0), (4, .f (.int .i64 0)), (5, .f (.flt .f32 0)), (6, .f (.int .i64 0)), (8, .f (.int .i8 (lgB V k))), (9, .f (.int .i8 ((k + 1 : Nat) : Int)))], fun _ => [.rows n cap 3 f false, .lit [.f (.int .i8 r.wi), .f (.int .i8 r.hi), .slc 0 0 n cap] true, .lit [.f (.int .i8 p.1), .f (.int .i8 p.2)] true], 0, (by intro _; simp), ?_, (by (try refine Or.inl ?_); simp [Cov, covE, covH, cb_dead, cb_lit, cb_rows, cb_cells, cd_lit, cd_rows, cd_cells, cd_dead, covRow, look, SV.known, SV.bd, bdL, e0, hcap] <;> omega), ?_⟩
    · omega
    · intro k hk
      have hb1 := hB k
      by_cases hlt : k < 3
      · have hd : decide (((k + 1 : Nat) : Int) ≤ 3) = true := decide_eq_true (by omega)
        simp (config := { maxSteps := 1000000 }) (disch := omega) only [go_sem, Int.reduceToNat, ↓reduceIte, Nat.reduceLT, Nat.reduceEqDiff, Nat.reduceAdd, Nat.reduceMul, Nat.reduceSub, Nat.reduceBEq, Nat.reduceLeDiff, reduceCtorEq, Nat.reduceLT, ↓Br_true, ↓Br_false, bind, pure, sc37, sb37, hd]
        repeat (with_reducible refine And.intro (by first | omega | assumption | (unfold SOk; kernel_rfl) | (unfold SBOk; kernel_rfl)) ?_)
        (have cc := cg ((k + 1 : Nat) : Int); (first | ((first | refine callR (by rfl) (by rfl) (by rfl) cc ?_ | refine callM (by rfl) (by rfl) (by rfl) cc ?_ | refine callMo (by rfl) (by rfl) (by rfl) cc ?_); clear cc; rintro _ _ ⟨rfl, rfl⟩) | (refine callE (by rfl) cc (by rfl) ?_; clear cc)))
        simp (config := { maxSteps := 1000000 }) (disch := omega) only [go_sem, Int.reduceToNat, ↓reduceIte, Nat.reduceLT, Nat.reduceEqDiff, Nat.reduceAdd, Nat.reduceMul, Nat.reduceSub, Nat.reduceBEq, Nat.reduceLeDiff, reduceCtorEq, Nat.reduceLT, ↓Br_true, ↓Br_false, bind, pure, sc37, sb37, hd]
        (have cc := cg (lgB V k); (first | ((first | refine callR (by rfl) (by rfl) (by rfl) cc ?_ | refine callM (by rfl) (by rfl) (by rfl) cc ?_ | refine callMo (by rfl) (by rfl) (by rfl) cc ?_); clear cc; rintro _ _ ⟨rfl, rfl⟩) | (refine callE (by rfl) cc (by rfl) ?_; clear cc)))
        simp (config := { maxSteps := 1000000 }) (disch := omega) only [go_sem, Int.reduceToNat, ↓reduceIte, Nat.reduceLT, Nat.reduceEqDiff, Nat.reduceAdd, Nat.reduceMul, Nat.reduceSub, Nat.reduceBEq, Nat.reduceLeDiff, reduceCtorEq, Nat.reduceLT, ↓Br_true, ↓Br_false, bind, pure, sc37, sb37, hd]
        repeat' (first | (with_reducible refine And.intro (by first | (unfold SOk; kernel_rfl) | (unfold SBOk; kernel_rfl) | (with_reducible assumption) | omega | assumption) ?_) | (with_reducible refine Br_intro (fun hc => ?_) (fun hc => ?_)) | ((with_reducible show WidN _ _ _ _ _ _ _ _); (first | refine widL (by decide) (by with_reducible assumption) ?_ | refine widL (by decide) (FWok_nn (by with_reducible assumption)) ?_ | refine widN (by decide) (fun c hc => ?_)); simp (config := { maxSteps := 1000000 }) (disch := omega) only [go_sem, Int.reduceToNat, ↓reduceIte, Nat.reduceLT, Nat.reduceEqDiff, Nat.reduceAdd, Nat.reduceMul, Nat.reduceSub, Nat.reduceBEq, Nat.reduceLeDiff, reduceCtorEq, Nat.reduceLT, ↓Br_true, ↓Br_false, bind, pure, sc37, sb37, hd]))
        · have e : lgB V (k + 1) = ((k + 1 : Nat) : Int) := by rw [lgB, if_pos hc]
          exact ⟨k + 1, by omega, by omega, by (try refine Or.inl ?_); simp [Cov, covE, covH, cb_dead, cb_lit, cb_rows, cb_cells, cd_lit, cd_rows, cd_cells, cd_dead, covRow, look, SV.known, SV.bd, bdL, e, hcap] <;> omega⟩
        · have e : lgB V (k + 1) = lgB V k := by rw [lgB, if_neg (by rw [hc]; simp)]
          exact ⟨k + 1, by omega, by omega, by (try refine Or.inl ?_); simp [Cov, covE, covH, cb_dead, cb_lit, cb_rows, cb_cells, cd_lit, cd_rows, cd_cells, cd_dead, covRow, look, SV.known, SV.bd, bdL, e, hcap] <;> omega⟩
      · have hd : decide (((k + 1 : Nat) : Int) ≤ 3) = false := decide_eq_false (by omega)
        obtain rfl : k = 3 := by omega
        simp (config := { maxSteps := 1000000 }) (disch := omega) only [go_sem, Int.reduceToNat, ↓reduceIte, Nat.reduceLT, Nat.reduceEqDiff, Nat.reduceAdd, Nat.reduceMul, Nat.reduceSub, Nat.reduceBEq, Nat.reduceLeDiff, reduceCtorEq, Nat.reduceLT, ↓Br_true, ↓Br_false, bind, pure, sc37, sb37, hd]
        (have cc := cg (lgB V 3); (first | ((first | refine callR (by rfl) (by rfl) (by rfl) cc ?_ | refine callM (by rfl) (by rfl) (by rfl) cc ?_ | refine callMo (by rfl) (by rfl) (by rfl) cc ?_); clear cc; rintro _ _ ⟨rfl, rfl⟩) | (refine callE (by rfl) cc (by rfl) ?_; clear cc)))
        simp (config := { maxSteps := 1000000 }) (disch := omega) only [go_sem, Int.reduceToNat, ↓reduceIte, Nat.reduceLT, Nat.reduceEqDiff, Nat.reduceAdd, Nat.reduceMul, Nat.reduceSub, Nat.reduceBEq, Nat.reduceLeDiff, reduceCtorEq, Nat.reduceLT, ↓Br_true, ↓Br_false, bind, pure, sc37, sb37, hd]
theorem lgV_nn (r : Rom) (us : Nat → Win) (n : Nat) (p : Int × Int) : nn (if askC (vRoom r us n) (hasT r p) = 0 then lgW r us n p (lgB (lgW r us n p) 3) else 0) := by
  split
  · rename_i h
    obtain ⟨hz, h12, hw, hb⟩ := room_asked h
    exact (glaF_P0 (d := ⟨p.1, p.2, lgB (lgW r us n p) 3⟩) hz hw (has_in (p := p) hz hb) n (Nat.le_refl n)).1
  · decide
end Go.Proofs.Ytdncopphjamilaa.Vx
