/- Rooms, in the abstract: the mean light. -/
import Derived.Test.YtjhddlkfkicpaaaGreatDoorRt
import Derived.Test.YtjhddlkfkicpaaaGreatDoorRy
namespace Go.Proofs.YtjhddlkfkicpaaaGreatDoor.Vx
open Go Go.RowKit Fl
set_option maxRecDepth 100000
set_option maxHeartbeats 2000000
set_option linter.unusedSimpArgs false
set_option linter.unusedVariables false

def meaS (r : Rom) (us : Nat → Win) (n : Nat) : Nat → Nat
  | 0 => 0
  | k + 1 => fadd (meaS r us n k) (litF r us (tlN (tilesL r) k) n)
theorem meaS_P0 {r : Rom} {us : Nat → Win} {n : Nat} (hr : r.sz) (hw : allW r us n = true) : ∀ k, k ≤ (tilesL r).length → P0 (meaS r us n k)
  | 0, _ => show P0 0 from ⟨by decide, by decide⟩
  | k + 1, h => (add_P0 (meaS_P0 hr hw k (by omega)) (litF_P0 hr hw (tl_in hr (k := k) (by omega)) n (Nat.le_refl n))).2.1
theorem div_inf {x y : Nat} (hx : P0 x) (hf : ¬ fin x) (hy : fin y) (h : 0 < key y) : S.div x y = some 2139095040 := by
  obtain ⟨e, s⟩ := inf_of hx hf
  unfold Ieee.Format.div
  rw [read_inf e, s]
  obtain ⟨n, q, e', _⟩ := read_fin hy
  rw [e', sgn_of_pos h]
  rfl
theorem div_P0 {x y : Nat} (hx : P0 x) (hy : fin y) (h : 0 < key y) : DivOk x y ∧ P0 (fdiv x y) := by
  by_cases fx : fin x
  · exact div_F0 ⟨fx, hx.2⟩ hy h
  · have e := div_inf hx fx hy h
    have e' : fdiv x y = 2139095040 := by unfold fdiv; rw [e]; rfl
    rw [e']
    exact ⟨⟨_, e⟩, by decide, by decide⟩
theorem mea_ok {r : Rom} {us : Nat → Win} {n : Nat} (hr : r.sz) (hw : allW r us n = true) :
    DivOk (meaS r us n (tilesL r).length) (fofInt (tilesL r).length) ∧ nn (fdiv (meaS r us n (tilesL r).length) (fofInt (tilesL r).length)) := by
  have h1 := tilesL_le hr
  have h2 := meaS_P0 (n := n) hr hw (tilesL r).length (Nat.le_refl _)
  generalize (tilesL r).length = m at *
  have := List.all_eq_true.1 disT_all (m - 1) (by simp; omega)
  simp only [disT, Bool.and_eq_true, decide_eq_true_eq] at this
  rw [show ((m - 1 : Nat) : Int) + 1 = m by omega] at this
  have q := div_P0 h2 this.2 this.1
  exact ⟨q.1, q.2.1⟩
def meaV (r : Rom) (us : Nat → Win) (n : Nat) : Nat := if vRoom r us n then fdiv (meaS r us n (tilesL r).length) (fofInt (tilesL r).length) else 0
theorem MeanLight_cv (r : Rom) (us : Nat → Win) (n cap : Nat) (f : Nat → List FV) (H : RomH r us n cap f) :
    CV Tryz.prog 11 [romV r n cap] [.rows n cap 3 f false] (fun v h => v = .tup [.f (.flt .f32 (meaV r us n)), .f (.int .i64 (askC (vRoom r us n) true))] ∧ h = [.rows n cap 3 f false]) := by
  have hcap := H.hcap
  refine cv_of_run 1000 sc11 sb11 31 [.tmp 2, .tmp 3] tabOk (by kernel_rfl) Tryz.func11 rfl (by kernel_rfl) Tryz.ntmps11 rfl (by simp) rfl (by simp [bdL, SV.bd]) ?_
  simp (config := { maxSteps := 1000000 }) (disch := omega) only [go_sem, Int.reduceToNat, ↓reduceIte, Nat.reduceLT, Nat.reduceEqDiff, Nat.reduceAdd, Nat.reduceMul, Nat.reduceSub, Nat.reduceBEq, Nat.reduceLeDiff, reduceCtorEq, Nat.reduceLT, ↓Br_true, ↓Br_false, bind, pure, sc11, sb11]
  repeat' (first | (with_reducible refine And.intro (by first | (unfold SOk; kernel_rfl) | (unfold SBOk; kernel_rfl) | (with_reducible assumption) | omega | assumption) ?_) | (with_reducible refine Br_intro (fun hc => ?_) (fun hc => ?_)) | ((have cc := roomCode_cv r us n cap f true H; (first | ((first | refine callR (by rfl) (by rfl) (by rfl) cc ?_ | refine callM (by rfl) (by rfl) (by rfl) cc ?_ | refine callMo (by rfl) (by rfl) (by rfl) cc ?_); clear cc; rintro _ _ ⟨rfl, rfl⟩) | (refine callE (by rfl) cc (by rfl) ?_; clear cc))); simp (config := { maxSteps := 1000000 }) (disch := omega) only [go_sem, Int.reduceToNat, ↓reduceIte, Nat.reduceLT, Nat.reduceEqDiff, Nat.reduceAdd, Nat.reduceMul, Nat.reduceSub, Nat.reduceBEq, Nat.reduceLeDiff, reduceCtorEq, Nat.reduceLT, ↓Br_true, ↓Br_false, bind, pure, sc11, sb11]) | ((with_reducible show WidN _ _ _ _ _ _ _ _); (first | refine widL (by decide) (by with_reducible assumption) ?_ | refine widL (by decide) (FWok_nn (by with_reducible assumption)) ?_ | refine widN (by decide) (fun c hc => ?_)); simp (config := { maxSteps := 1000000 }) (disch := omega) only [go_sem, Int.reduceToNat, ↓reduceIte, Nat.reduceLT, Nat.reduceEqDiff, Nat.reduceAdd, Nat.reduceMul, Nat.reduceSub, Nat.reduceBEq, Nat.reduceLeDiff, reduceCtorEq, Nat.reduceLT, ↓Br_true, ↓Br_false, bind, pure, sc11, sb11]))
  · simp only [Bool.not_eq_true', decide_eq_false_iff_not] at hc
    have : vRoom r us n = false := by cases h : vRoom r us n <;> simp_all [askC]
    simp [meaV, askC, this]
  · simp only [Bool.not_eq_false', decide_eq_true_eq] at hc
    obtain ⟨hz, h12, hw, _⟩ := room_asked hc
    have hv := (askC_zero hc).1
    have hle := tilesL_le hz
    have hdv := (mea_ok hz hw (n := n)).1
    have tin := fun k hk => tl_in hz (k := k) hk
    have emv : meaV r us n = fdiv (meaS r us n (tilesL r).length) (fofInt (tilesL r).length) := by simp [meaV, hv]
    rw [emv, hc]
    have hS := meaS_P0 (n := n) hz hw
    have cc := tiles_cv r n cap f hz hcap; (first | refine callR (by rfl) (by rfl) (by rfl) cc ?_ | refine callM (by rfl) (by rfl) (by rfl) cc ?_ | refine callMo (by rfl) (by rfl) (by rfl) cc ?_ | refine callG (by rfl) (by rfl) (by rfl) cc ?_ | refine callW (by rfl) (by first | rfl | (simp [ofL, kpB, kpR, ofB, isOwnB, isDead, inL, hget]; done)) (by rfl) (by rfl) cc ?_); clear cc; rintro _ _ ⟨cap', g, hg, hcap', rfl, rfl⟩
    simp (config := { maxSteps := 1000000 }) (disch := omega) only [go_sem, Int.reduceToNat, ↓reduceIte, Nat.reduceLT, Nat.reduceEqDiff, Nat.reduceAdd, Nat.reduceMul, Nat.reduceSub, Nat.reduceBEq, Nat.reduceLeDiff, reduceCtorEq, Nat.reduceLT, ↓Br_true, ↓Br_false, bind, pure, sc11, sb11]
    have e0 : meaS r us n 0 = 0 := rfl
    have eS := fun k => show meaS r us n (k + 1) = fadd (meaS r us n k) (litF r us (tlN (tilesL r) k) n) from rfl
    generalize tilesL r = L at *
    refine ⟨Nat, fun k => k ≤ L.length, fun k => L.length - k, fun k => [(1, .ptr 1 0 0), (2, .f (.flt .f32 0)), (3, .f (.int .i64 0)), (5, .f (.flt .f32 (meaS r us n k))), (6, .slc 2 0 L.length cap'), (15, .slc 2 0 L.length cap'), (16, .f (.int .i64 L.length)), (17, .f (.int .i64 k))], fun _ => [.rows n cap 3 f false, .lit [.f (.int .i8 r.wi), .f (.int .i8 r.hi), .slc 0 0 n cap] true, .rows L.length cap' 2 g true], 0, (by intro _; simp), ?_, (by (try refine Or.inl ?_); simp [Cov, covE, covH, cb_dead, cb_lit, cb_rows, cb_cells, cd_lit, cd_rows, cd_cells, cd_dead, covRow, look, SV.known, SV.bd, bdL, e0, hcap, hcap'] <;> omega), ?_⟩
    · omega
    · intro k hk
      by_cases hlt : k < L.length
      · have hd : decide ((k : Int) < L.length) = true := decide_eq_true (by omega)
        have e1 := hg k hlt
        have hI := tin k hlt
        have ha := (add_P0 (hS k hk) (litF_P0 hz hw hI n (Nat.le_refl n))).1
        simp (config := { maxSteps := 1000000 }) (disch := omega) only [go_sem, Int.reduceToNat, ↓reduceIte, Nat.reduceLT, Nat.reduceEqDiff, Nat.reduceAdd, Nat.reduceMul, Nat.reduceSub, Nat.reduceBEq, Nat.reduceLeDiff, reduceCtorEq, Nat.reduceLT, ↓Br_true, ↓Br_false, bind, pure, sc11, sb11, hd, e1]
        repeat' (first | (with_reducible refine And.intro (by first | (unfold SOk; kernel_rfl) | (unfold SBOk; kernel_rfl) | (with_reducible assumption) | omega | assumption) ?_) | (with_reducible refine Br_intro (fun hc => ?_) (fun hc => ?_)) | ((have cc := light_cv r us (tlN L k) n cap f H.hf hcap H.hn hz hw hI; (first | ((first | refine callR (by rfl) (by rfl) (by rfl) cc ?_ | refine callM (by rfl) (by rfl) (by rfl) cc ?_ | refine callMo (by rfl) (by rfl) (by rfl) cc ?_); clear cc; rintro _ _ ⟨rfl, rfl⟩) | (refine callE (by rfl) cc (by rfl) ?_; clear cc))); simp (config := { maxSteps := 1000000 }) (disch := omega) only [go_sem, Int.reduceToNat, ↓reduceIte, Nat.reduceLT, Nat.reduceEqDiff, Nat.reduceAdd, Nat.reduceMul, Nat.reduceSub, Nat.reduceBEq, Nat.reduceLeDiff, reduceCtorEq, Nat.reduceLT, ↓Br_true, ↓Br_false, bind, pure, sc11, sb11, hd, e1]) | ((with_reducible show WidN _ _ _ _ _ _ _ _); (first | refine widL (by decide) (by with_reducible assumption) ?_ | refine widL (by decide) (FWok_nn (by with_reducible assumption)) ?_ | refine widN (by decide) (fun c hc => ?_)); simp (config := { maxSteps := 1000000 }) (disch := omega) only [go_sem, Int.reduceToNat, ↓reduceIte, Nat.reduceLT, Nat.reduceEqDiff, Nat.reduceAdd, Nat.reduceMul, Nat.reduceSub, Nat.reduceBEq, Nat.reduceLeDiff, reduceCtorEq, Nat.reduceLT, ↓Br_true, ↓Br_false, bind, pure, sc11, sb11, hd, e1]))
        exact ⟨k + 1, by omega, by omega, by (try refine Or.inl ?_); simp [Cov, covE, covH, cb_dead, cb_lit, cb_rows, cb_cells, cd_lit, cd_rows, cd_cells, cd_dead, covRow, look, SV.known, SV.bd, bdL, eS, hcap, hcap'] <;> omega⟩
      · have hd : decide ((k : Int) < L.length) = false := decide_eq_false (by omega)
        obtain rfl : k = L.length := by omega
        simp (config := { maxSteps := 1000000 }) (disch := omega) only [go_sem, Int.reduceToNat, ↓reduceIte, Nat.reduceLT, Nat.reduceEqDiff, Nat.reduceAdd, Nat.reduceMul, Nat.reduceSub, Nat.reduceBEq, Nat.reduceLeDiff, reduceCtorEq, Nat.reduceLT, ↓Br_true, ↓Br_false, bind, pure, sc11, sb11, hd]
        repeat' (first | (with_reducible refine And.intro (by first | (unfold SOk; kernel_rfl) | (unfold SBOk; kernel_rfl) | (with_reducible assumption) | omega | assumption) ?_) | (with_reducible refine Br_intro (fun hc => ?_) (fun hc => ?_)) | ((with_reducible show WidN _ _ _ _ _ _ _ _); (first | refine widL (by decide) (by with_reducible assumption) ?_ | refine widL (by decide) (FWok_nn (by with_reducible assumption)) ?_ | refine widN (by decide) (fun c hc => ?_)); simp (config := { maxSteps := 1000000 }) (disch := omega) only [go_sem, Int.reduceToNat, ↓reduceIte, Nat.reduceLT, Nat.reduceEqDiff, Nat.reduceAdd, Nat.reduceMul, Nat.reduceSub, Nat.reduceBEq, Nat.reduceLeDiff, reduceCtorEq, Nat.reduceLT, ↓Br_true, ↓Br_false, bind, pure, sc11, sb11]))
        exact hdv
theorem sMeanLight_cv (r : Rom) (us : Nat → Win) (n cap : Nat) (f : Nat → List FV) (H : RomH r us n cap f) :
    CV Tryz.prog 12 [romV r n cap] [.rows n cap 3 f false] (fun v h => v = .tup [.f (.flt .f32 (meaV r us n)), .f (.int .i64 (askC (vRoom r us n) true))] ∧ h = [.rows n cap 3 f false]) := by
  have hcap := H.hcap
  refine cv_of_run 1000 sc12 sb12 28 [.tmp 2, .tmp 3] tabOk (by kernel_rfl) Tryz.func12 rfl (by kernel_rfl) Tryz.ntmps12 rfl (by simp) rfl (by simp [bdL, SV.bd]) ?_
  simp (config := { maxSteps := 1000000 }) (disch := omega) only [go_sem, Int.reduceToNat, ↓reduceIte, Nat.reduceLT, Nat.reduceEqDiff, Nat.reduceAdd, Nat.reduceMul, Nat.reduceSub, Nat.reduceBEq, Nat.reduceLeDiff, reduceCtorEq, Nat.reduceLT, ↓Br_true, ↓Br_false, bind, pure, sc12, sb12]
  repeat' (first | (with_reducible refine And.intro (by first | (unfold SOk; kernel_rfl) | (unfold SBOk; kernel_rfl) | (with_reducible assumption) | omega | assumption) ?_) | (with_reducible refine Br_intro (fun hc => ?_) (fun hc => ?_)) | ((have cc := l03Ok_cv r us n cap f H; (first | ((first | refine callR (by rfl) (by rfl) (by rfl) cc ?_ | refine callM (by rfl) (by rfl) (by rfl) cc ?_ | refine callMo (by rfl) (by rfl) (by rfl) cc ?_); clear cc; rintro _ _ ⟨rfl, rfl⟩) | (refine callE (by rfl) cc (by rfl) ?_; clear cc))); simp (config := { maxSteps := 1000000 }) (disch := omega) only [go_sem, Int.reduceToNat, ↓reduceIte, Nat.reduceLT, Nat.reduceEqDiff, Nat.reduceAdd, Nat.reduceMul, Nat.reduceSub, Nat.reduceBEq, Nat.reduceLeDiff, reduceCtorEq, Nat.reduceLT, ↓Br_true, ↓Br_false, bind, pure, sc12, sb12]) | ((with_reducible show WidN _ _ _ _ _ _ _ _); (first | refine widL (by decide) (by with_reducible assumption) ?_ | refine widL (by decide) (FWok_nn (by with_reducible assumption)) ?_ | refine widN (by decide) (fun c hc => ?_)); simp (config := { maxSteps := 1000000 }) (disch := omega) only [go_sem, Int.reduceToNat, ↓reduceIte, Nat.reduceLT, Nat.reduceEqDiff, Nat.reduceAdd, Nat.reduceMul, Nat.reduceSub, Nat.reduceBEq, Nat.reduceLeDiff, reduceCtorEq, Nat.reduceLT, ↓Br_true, ↓Br_false, bind, pure, sc12, sb12]))
  · simp only [Bool.not_eq_true'] at hc
    simp [meaV, askC, hc]
  · simp only [Bool.not_eq_false'] at hc
    have hc : askC (vRoom r us n) true = 0 := by simp [askC, hc]
    obtain ⟨hz, h12, hw, _⟩ := room_asked hc
    have hv := (askC_zero hc).1
    have hle := tilesL_le hz
    have hdv := (mea_ok hz hw (n := n)).1
    have tin := fun k hk => tl_in hz (k := k) hk
    have emv : meaV r us n = fdiv (meaS r us n (tilesL r).length) (fofInt (tilesL r).length) := by simp [meaV, hv]
    rw [emv, hc]
    have hS := meaS_P0 (n := n) hz hw
    have cc := l03Tiles_cv r n cap f hz hcap; (first | refine callR (by rfl) (by rfl) (by rfl) cc ?_ | refine callM (by rfl) (by rfl) (by rfl) cc ?_ | refine callMo (by rfl) (by rfl) (by rfl) cc ?_ | refine callG (by rfl) (by rfl) (by rfl) cc ?_ | refine callW (by rfl) (by first | rfl | (simp [ofL, kpB, kpR, ofB, isOwnB, isDead, inL, hget]; done)) (by rfl) (by rfl) cc ?_); clear cc; rintro _ _ ⟨cap', g, hg, hcap', rfl, rfl⟩
    simp (config := { maxSteps := 1000000 }) (disch := omega) only [go_sem, Int.reduceToNat, ↓reduceIte, Nat.reduceLT, Nat.reduceEqDiff, Nat.reduceAdd, Nat.reduceMul, Nat.reduceSub, Nat.reduceBEq, Nat.reduceLeDiff, reduceCtorEq, Nat.reduceLT, ↓Br_true, ↓Br_false, bind, pure, sc12, sb12]
    have e0 : meaS r us n 0 = 0 := rfl
    have eS := fun k => show meaS r us n (k + 1) = fadd (meaS r us n k) (litF r us (tlN (tilesL r) k) n) from rfl
    generalize tilesL r = L at *
    refine ⟨Nat, fun k => k ≤ L.length, fun k => L.length - k, fun k => [(1, .ptr 1 0 0), (2, .f (.flt .f32 0)), (3, .f (.int .i64 0)), (4, .f (.flt .f32 (meaS r us n k))), (5, .slc 2 0 L.length cap'), (6, .f (.int .i64 k))], fun _ => [.rows n cap 3 f false, .lit [.f (.int .i8 r.wi), .f (.int .i8 r.hi), .slc 0 0 n cap] true, .rows L.length cap' 2 g true], 0, (by intro _; simp), ?_, (by (try refine Or.inl ?_); simp [Cov, covE, covH, cb_dead, cb_lit, cb_rows, cb_cells, cd_lit, cd_rows, cd_cells, cd_dead, covRow, look, SV.known, SV.bd, bdL, e0, hcap, hcap'] <;> omega), ?_⟩
    · omega
    · intro k hk
      by_cases hlt : k < L.length
      · have hd : decide ((k : Int) < L.length) = true := decide_eq_true (by omega)
        have e1 := hg k hlt
        have hI := tin k hlt
        have ha := (add_P0 (hS k hk) (litF_P0 hz hw hI n (Nat.le_refl n))).1
        simp (config := { maxSteps := 1000000 }) (disch := omega) only [go_sem, Int.reduceToNat, ↓reduceIte, Nat.reduceLT, Nat.reduceEqDiff, Nat.reduceAdd, Nat.reduceMul, Nat.reduceSub, Nat.reduceBEq, Nat.reduceLeDiff, reduceCtorEq, Nat.reduceLT, ↓Br_true, ↓Br_false, bind, pure, sc12, sb12, hd, e1]
        repeat' (first | (with_reducible refine And.intro (by first | (unfold SOk; kernel_rfl) | (unfold SBOk; kernel_rfl) | (with_reducible assumption) | omega | assumption) ?_) | (with_reducible refine Br_intro (fun hc => ?_) (fun hc => ?_)) | ((have cc := l03Light_cv r us (tlN L k) n cap f H.hf hcap H.hn hz hw hI; (first | ((first | refine callR (by rfl) (by rfl) (by rfl) cc ?_ | refine callM (by rfl) (by rfl) (by rfl) cc ?_ | refine callMo (by rfl) (by rfl) (by rfl) cc ?_); clear cc; rintro _ _ ⟨rfl, rfl⟩) | (refine callE (by rfl) cc (by rfl) ?_; clear cc))); simp (config := { maxSteps := 1000000 }) (disch := omega) only [go_sem, Int.reduceToNat, ↓reduceIte, Nat.reduceLT, Nat.reduceEqDiff, Nat.reduceAdd, Nat.reduceMul, Nat.reduceSub, Nat.reduceBEq, Nat.reduceLeDiff, reduceCtorEq, Nat.reduceLT, ↓Br_true, ↓Br_false, bind, pure, sc12, sb12, hd, e1]) | ((with_reducible show WidN _ _ _ _ _ _ _ _); (first | refine widL (by decide) (by with_reducible assumption) ?_ | refine widL (by decide) (FWok_nn (by with_reducible assumption)) ?_ | refine widN (by decide) (fun c hc => ?_)); simp (config := { maxSteps := 1000000 }) (disch := omega) only [go_sem, Int.reduceToNat, ↓reduceIte, Nat.reduceLT, Nat.reduceEqDiff, Nat.reduceAdd, Nat.reduceMul, Nat.reduceSub, Nat.reduceBEq, Nat.reduceLeDiff, reduceCtorEq, Nat.reduceLT, ↓Br_true, ↓Br_false, bind, pure, sc12, sb12, hd, e1]))
        exact ⟨k + 1, by omega, by omega, by (try refine Or.inl ?_); simp [Cov, covE, covH, cb_dead, cb_lit, cb_rows, cb_cells, cd_lit, cd_rows, cd_cells, cd_dead, covRow, look, SV.known, SV.bd, bdL, eS, hcap, hcap'] <;> omega⟩
      · have hd : decide ((k : Int) < L.length) = false := decide_eq_false (by omega)
        obtain rfl : k = L.length := by omega
        simp (config := { maxSteps := 1000000 }) (disch := omega) only [go_sem, Int.reduceToNat, ↓reduceIte, Nat.reduceLT, Nat.reduceEqDiff, Nat.reduceAdd, Nat.reduceMul, Nat.reduceSub, Nat.reduceBEq, Nat.reduceLeDiff, reduceCtorEq, Nat.reduceLT, ↓Br_true, ↓Br_false, bind, pure, sc12, sb12, hd]
        repeat' (first | (with_reducible refine And.intro (by first | (unfold SOk; kernel_rfl) | (unfold SBOk; kernel_rfl) | (with_reducible assumption) | omega | assumption) ?_) | (with_reducible refine Br_intro (fun hc => ?_) (fun hc => ?_)) | ((with_reducible show WidN _ _ _ _ _ _ _ _); (first | refine widL (by decide) (by with_reducible assumption) ?_ | refine widL (by decide) (FWok_nn (by with_reducible assumption)) ?_ | refine widN (by decide) (fun c hc => ?_)); simp (config := { maxSteps := 1000000 }) (disch := omega) only [go_sem, Int.reduceToNat, ↓reduceIte, Nat.reduceLT, Nat.reduceEqDiff, Nat.reduceAdd, Nat.reduceMul, Nat.reduceSub, Nat.reduceBEq, Nat.reduceLeDiff, reduceCtorEq, Nat.reduceLT, ↓Br_true, ↓Br_false, bind, pure, sc12, sb12]))
        exact hdv
theorem meaV_nn (r : Rom) (us : Nat → Win) (n : Nat) : nn (meaV r us n) := by
  unfold meaV
  split
  · rename_i h
    obtain ⟨hz, h12, hw⟩ := vRoom_at h
    exact (mea_ok hz hw).2
  · decide
end Go.Proofs.YtjhddlkfkicpaaaGreatDoor.Vx
