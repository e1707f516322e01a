/- Rooms, in the abstract: the map of the light. -/
import Derived.Test.YtjhddlkfkicpaaaGreatDoorRt
import Derived.Test.YtjhddlkfkicpaaaGreatDoorRy
namespace Go.Proofs.YtjhddlkfkicpaaaGreatDoor.Vx
open Go Go.RowKit Fl
set_option maxRecDepth 100000
set_option maxHeartbeats 2000000
set_option linter.unusedSimpArgs false
set_option linter.unusedVariables false

def isF (u : FV) : Prop := ∃ b : Nat, u = .flt .f32 b
def mapI (r : Rom) (k : Nat) : Nat := (tlN (tilesL r) k).2.toNat * 10 + (tlN (tilesL r) k).1.toNat
def mapG (r : Rom) (us : Nat → Win) (n : Nat) : Nat → Nat → FV
  | 0 => constF (.flt .f32 0)
  | k + 1 => updC (mapG r us n k) (mapI r k) (.flt .f32 (litF r us (tlN (tilesL r) k) n))
theorem mapG_flt (r : Rom) (us : Nat → Win) (n : Nat) : ∀ k j, mapG r us n k j = .flt .f32 (fN (mapG r us n k j))
  | 0, j => rfl
  | k + 1, j => by
    simp only [mapG, updC]
    split
    · rfl
    · exact mapG_flt r us n k j
def mapV (r : Rom) (us : Nat → Win) (n : Nat) : Nat → FV := if vRoom r us n then mapG r us n (tilesL r).length else constF (.flt .f32 0)
theorem mapV_flt (r : Rom) (us : Nat → Win) (n : Nat) (j : Nat) : mapV r us n j = .flt .f32 (fN (mapV r us n j)) := by
  unfold mapV
  split
  · exact mapG_flt r us n _ j
  · rfl
theorem LightMap_cv (r : Rom) (us : Nat → Win) (n cap : Nat) (f : Nat → List FV) (H : RomH r us n cap f) :
    CV Tryz.prog 9 [romV r n cap] [.rows n cap 3 f false] (fun v h => v = .tup [.arr 100 (mapV r us n), .f (.int .i64 (askC (vRoom r us n) true))] ∧ h = [.rows n cap 3 f false]) := by
  have hcap := H.hcap
  refine cv_of_run 1000 sc9 sb9 31 [.cell 2 35, .tmp 3] tabOk (by kernel_rfl) Tryz.func9 rfl (by kernel_rfl) Tryz.ntmps9 rfl (by simp) rfl (by simp [bdL, SV.bd]) ?_
  simp (config := { maxSteps := 1000000 }) (disch := omega) only [go_sem, Int.reduceToNat, ↓reduceIte, Nat.reduceLT, Nat.reduceEqDiff, Nat.reduceAdd, Nat.reduceMul, Nat.reduceSub, Nat.reduceBEq, Nat.reduceLeDiff, reduceCtorEq, Nat.reduceLT, ↓Br_true, ↓Br_false, bind, pure, sc9, sb9]
  repeat' (first | (with_reducible refine And.intro (by first | (unfold SOk; kernel_rfl) | (unfold SBOk; kernel_rfl) | (with_reducible assumption) | omega | assumption) ?_) | (with_reducible refine Br_intro (fun hc => ?_) (fun hc => ?_)) | ((have cc := roomCode_cv r us n cap f true H; (first | ((first | refine callR (by rfl) (by rfl) (by rfl) cc ?_ | refine callM (by rfl) (by rfl) (by rfl) cc ?_ | refine callMo (by rfl) (by rfl) (by rfl) cc ?_); clear cc; rintro _ _ ⟨rfl, rfl⟩) | (refine callE (by rfl) cc (by rfl) ?_; clear cc))); simp (config := { maxSteps := 1000000 }) (disch := omega) only [go_sem, Int.reduceToNat, ↓reduceIte, Nat.reduceLT, Nat.reduceEqDiff, Nat.reduceAdd, Nat.reduceMul, Nat.reduceSub, Nat.reduceBEq, Nat.reduceLeDiff, reduceCtorEq, Nat.reduceLT, ↓Br_true, ↓Br_false, bind, pure, sc9, sb9]) | ((with_reducible show WidN _ _ _ _ _ _ _ _); (first | refine widL (by decide) (by with_reducible assumption) ?_ | refine widL (by decide) (FWok_nn (by with_reducible assumption)) ?_ | refine widN (by decide) (fun c hc => ?_)); simp (config := { maxSteps := 1000000 }) (disch := omega) only [go_sem, Int.reduceToNat, ↓reduceIte, Nat.reduceLT, Nat.reduceEqDiff, Nat.reduceAdd, Nat.reduceMul, Nat.reduceSub, Nat.reduceBEq, Nat.reduceLeDiff, reduceCtorEq, Nat.reduceLT, ↓Br_true, ↓Br_false, bind, pure, sc9, sb9]))
  · simp only [Bool.not_eq_true', decide_eq_false_iff_not] at hc
    have : vRoom r us n = false := by cases h : vRoom r us n <;> simp_all [askC]
    simp [mapV, askC, this]
  · simp only [Bool.not_eq_false', decide_eq_true_eq] at hc
    obtain ⟨hz, h12, hw, _⟩ := room_asked hc
    have hv := (askC_zero hc).1
    have hle := tilesL_le hz
    have tin := fun k hk => tl_in hz (k := k) hk
    have emv : mapV r us n = mapG r us n (tilesL r).length := by simp [mapV, hv]
    rw [emv, hc]
    have cc := tiles_cv r n cap f hz hcap; (first | refine callR (by rfl) (by rfl) (by rfl) cc ?_ | refine callM (by rfl) (by rfl) (by rfl) cc ?_ | refine callMo (by rfl) (by rfl) (by rfl) cc ?_ | refine callG (by rfl) (by rfl) (by rfl) cc ?_ | refine callW (by rfl) (by first | rfl | (simp [ofL, kpB, kpR, ofB, isOwnB, isDead, inL, hget]; done)) (by rfl) (by rfl) cc ?_); clear cc; rintro _ _ ⟨cap', g, hg, hcap', rfl, rfl⟩
    simp (config := { maxSteps := 1000000 }) (disch := omega) only [go_sem, Int.reduceToNat, ↓reduceIte, Nat.reduceLT, Nat.reduceEqDiff, Nat.reduceAdd, Nat.reduceMul, Nat.reduceSub, Nat.reduceBEq, Nat.reduceLeDiff, reduceCtorEq, Nat.reduceLT, ↓Br_true, ↓Br_false, bind, pure, sc9, sb9]
    have e0 : mapG r us n 0 = constF (.flt .f32 0) := rfl
    have eS := fun k => show mapG r us n (k + 1) = updC (mapG r us n k) ((tlN (tilesL r) k).2.toNat * 10 + (tlN (tilesL r) k).1.toNat) (.flt .f32 (litF r us (tlN (tilesL r) k) n)) from rfl
    generalize tilesL r = L at *
    refine ⟨Nat, fun k => k ≤ L.length, fun k => L.length - k, fun k => [(1, .ptr 1 0 0), (2, .ptr 2 0 0), (3, .f (.int .i64 0)), (4, .ptr 3 0 0), (15, .slc 4 0 L.length cap'), (16, .f (.int .i64 L.length)), (17, .f (.int .i64 k))], fun k => [.rows n cap 3 f false, .lit [.f (.int .i8 r.wi), .f (.int .i8 r.hi), .slc 0 0 n cap] true, .cells 100 (constF (.flt .f32 0)) true, .cells 100 (mapG r us n k) true, .rows L.length cap' 2 g true], 0, (by intro _; simp), ?_, (by (try refine Or.inl ?_); simp [Cov, covE, covH, cb_dead, cb_lit, cb_rows, cb_cells, cd_lit, cd_rows, cd_cells, cd_dead, covRow, look, SV.known, SV.bd, bdL, e0, constF, hcap, hcap'] <;> omega), ?_⟩
    · omega
    · intro k hk
      by_cases hlt : k < L.length
      · have hd : decide ((k : Int) < L.length) = true := decide_eq_true (by omega)
        have e1 := hg k hlt
        have hI := tin k hlt
        have hJ := hI
        obtain ⟨⟨_, _⟩, _, _⟩ := hJ
        simp (config := { maxSteps := 1000000 }) (disch := omega) only [go_sem, Int.reduceToNat, ↓reduceIte, Nat.reduceLT, Nat.reduceEqDiff, Nat.reduceAdd, Nat.reduceMul, Nat.reduceSub, Nat.reduceBEq, Nat.reduceLeDiff, reduceCtorEq, Nat.reduceLT, ↓Br_true, ↓Br_false, bind, pure, sc9, sb9, hd, e1]
        repeat' (first | (with_reducible refine And.intro (by first | (unfold SOk; kernel_rfl) | (unfold SBOk; kernel_rfl) | (with_reducible assumption) | omega | assumption) ?_) | (with_reducible refine Br_intro (fun hc => ?_) (fun hc => ?_)) | ((have cc := light_cv r us (tlN L k) n cap f H.hf hcap H.hn hz hw hI; (first | ((first | refine callR (by rfl) (by rfl) (by rfl) cc ?_ | refine callM (by rfl) (by rfl) (by rfl) cc ?_ | refine callMo (by rfl) (by rfl) (by rfl) cc ?_); clear cc; rintro _ _ ⟨rfl, rfl⟩) | (refine callE (by rfl) cc (by rfl) ?_; clear cc))); simp (config := { maxSteps := 1000000 }) (disch := omega) only [go_sem, Int.reduceToNat, ↓reduceIte, Nat.reduceLT, Nat.reduceEqDiff, Nat.reduceAdd, Nat.reduceMul, Nat.reduceSub, Nat.reduceBEq, Nat.reduceLeDiff, reduceCtorEq, Nat.reduceLT, ↓Br_true, ↓Br_false, bind, pure, sc9, sb9, hd, e1]) | ((with_reducible show WidN _ _ _ _ _ _ _ _); (first | refine widL (by decide) (by with_reducible assumption) ?_ | refine widL (by decide) (FWok_nn (by with_reducible assumption)) ?_ | refine widN (by decide) (fun c hc => ?_)); simp (config := { maxSteps := 1000000 }) (disch := omega) only [go_sem, Int.reduceToNat, ↓reduceIte, Nat.reduceLT, Nat.reduceEqDiff, Nat.reduceAdd, Nat.reduceMul, Nat.reduceSub, Nat.reduceBEq, Nat.reduceLeDiff, reduceCtorEq, Nat.reduceLT, ↓Br_true, ↓Br_false, bind, pure, sc9, sb9, hd, e1]))
        exact ⟨k + 1, by omega, by omega, by (try refine Or.inl ?_); simp [Cov, covE, covH, cb_dead, cb_lit, cb_rows, cb_cells, cd_lit, cd_rows, cd_cells, cd_dead, covRow, look, SV.known, SV.bd, bdL, eS, hcap, hcap'] <;> omega⟩
      · have hd : decide ((k : Int) < L.length) = false := decide_eq_false (by omega)
        obtain rfl : k = L.length := by omega
        simp (config := { maxSteps := 1000000 }) (disch := omega) only [go_sem, Int.reduceToNat, ↓reduceIte, Nat.reduceLT, Nat.reduceEqDiff, Nat.reduceAdd, Nat.reduceMul, Nat.reduceSub, Nat.reduceBEq, Nat.reduceLeDiff, reduceCtorEq, Nat.reduceLT, ↓Br_true, ↓Br_false, bind, pure, sc9, sb9, hd]
theorem sLightMap_cv (r : Rom) (us : Nat → Win) (n cap : Nat) (f : Nat → List FV) (H : RomH r us n cap f) :
    CV Tryz.prog 10 [romV r n cap] [.rows n cap 3 f false] (fun v h => v = .tup [.arr 100 (mapV r us n), .f (.int .i64 (askC (vRoom r us n) true))] ∧ h = [.rows n cap 3 f false]) := by
  have hcap := H.hcap
  refine cv_of_run 1000 sc10 sb10 36 [.cell 2 35, .tmp 3] tabOk (by kernel_rfl) Tryz.func10 rfl (by kernel_rfl) Tryz.ntmps10 rfl (by simp) rfl (by simp [bdL, SV.bd]) ?_
  simp (config := { maxSteps := 1000000 }) (disch := omega) only [go_sem, Int.reduceToNat, ↓reduceIte, Nat.reduceLT, Nat.reduceEqDiff, Nat.reduceAdd, Nat.reduceMul, Nat.reduceSub, Nat.reduceBEq, Nat.reduceLeDiff, reduceCtorEq, Nat.reduceLT, ↓Br_true, ↓Br_false, bind, pure, sc10, sb10]
  repeat' (first | (with_reducible refine And.intro (by first | (unfold SOk; kernel_rfl) | (unfold SBOk; kernel_rfl) | (with_reducible assumption) | omega | assumption) ?_) | (with_reducible refine Br_intro (fun hc => ?_) (fun hc => ?_)) | ((have cc := l03Ok_cv r us n cap f H; (first | ((first | refine callR (by rfl) (by rfl) (by rfl) cc ?_ | refine callM (by rfl) (by rfl) (by rfl) cc ?_ | refine callMo (by rfl) (by rfl) (by rfl) cc ?_); clear cc; rintro _ _ ⟨rfl, rfl⟩) | (refine callE (by rfl) cc (by rfl) ?_; clear cc))); simp (config := { maxSteps := 1000000 }) (disch := omega) only [go_sem, Int.reduceToNat, ↓reduceIte, Nat.reduceLT, Nat.reduceEqDiff, Nat.reduceAdd, Nat.reduceMul, Nat.reduceSub, Nat.reduceBEq, Nat.reduceLeDiff, reduceCtorEq, Nat.reduceLT, ↓Br_true, ↓Br_false, bind, pure, sc10, sb10]) | ((with_reducible show WidN _ _ _ _ _ _ _ _); (first | refine widL (by decide) (by with_reducible assumption) ?_ | refine widL (by decide) (FWok_nn (by with_reducible assumption)) ?_ | refine widN (by decide) (fun c hc => ?_)); simp (config := { maxSteps := 1000000 }) (disch := omega) only [go_sem, Int.reduceToNat, ↓reduceIte, Nat.reduceLT, Nat.reduceEqDiff, Nat.reduceAdd, Nat.reduceMul, Nat.reduceSub, Nat.reduceBEq, Nat.reduceLeDiff, reduceCtorEq, Nat.reduceLT, ↓Br_true, ↓Br_false, bind, pure, sc10, sb10]))
  · simp only [Bool.not_eq_true'] at hc
    simp [mapV, askC, hc]
  · simp only [Bool.not_eq_false'] at hc
    have hc : askC (vRoom r us n) true = 0 := by simp [askC, hc]
    obtain ⟨hz, h12, hw, _⟩ := room_asked hc
    have hv := (askC_zero hc).1
    have hle := tilesL_le hz
    have tin := fun k hk => tl_in hz (k := k) hk
    have emv : mapV r us n = mapG r us n (tilesL r).length := by simp [mapV, hv]
    rw [emv, hc]
    have cc := l03Tiles_cv r n cap f hz hcap; (first | refine callR (by rfl) (by rfl) (by rfl) cc ?_ | refine callM (by rfl) (by rfl) (by rfl) cc ?_ | refine callMo (by rfl) (by rfl) (by rfl) cc ?_ | refine callG (by rfl) (by rfl) (by rfl) cc ?_ | refine callW (by rfl) (by first | rfl | (simp [ofL, kpB, kpR, ofB, isOwnB, isDead, inL, hget]; done)) (by rfl) (by rfl) cc ?_); clear cc; rintro _ _ ⟨cap', g, hg, hcap', rfl, rfl⟩
    simp (config := { maxSteps := 1000000 }) (disch := omega) only [go_sem, Int.reduceToNat, ↓reduceIte, Nat.reduceLT, Nat.reduceEqDiff, Nat.reduceAdd, Nat.reduceMul, Nat.reduceSub, Nat.reduceBEq, Nat.reduceLeDiff, reduceCtorEq, Nat.reduceLT, ↓Br_true, ↓Br_false, bind, pure, sc10, sb10]
    have e0 : mapG r us n 0 = constF (.flt .f32 0) := rfl
    have eS := fun k => show mapG r us n (k + 1) = updC (mapG r us n k) ((tlN (tilesL r) k).2.toNat * 10 + (tlN (tilesL r) k).1.toNat) (.flt .f32 (litF r us (tlN (tilesL r) k) n)) from rfl
    generalize tilesL r = L at *
    refine ⟨Nat, fun k => k ≤ L.length, fun k => L.length - k, fun k => [(1, .ptr 1 0 0), (2, .ptr 2 0 0), (3, .f (.int .i64 0)), (4, .ptr 3 0 0), (5, .slc 4 0 L.length cap'), (6, .f (.int .i64 k))], fun k => [.rows n cap 3 f false, .lit [.f (.int .i8 r.wi), .f (.int .i8 r.hi), .slc 0 0 n cap] true, .cells 100 (constF (.flt .f32 0)) true, .cells 100 (mapG r us n k) true, .rows L.length cap' 2 g true], 0, (by intro _; simp), ?_, (by (try refine Or.inl ?_); simp [Cov, covE, covH, cb_dead, cb_lit, cb_rows, cb_cells, cd_lit, cd_rows, cd_cells, cd_dead, covRow, look, SV.known, SV.bd, bdL, e0, constF, hcap, hcap'] <;> omega), ?_⟩
    · omega
    · intro k hk
      by_cases hlt : k < L.length
      · have hd : decide ((k : Int) < L.length) = true := decide_eq_true (by omega)
        have e1 := hg k hlt
        have hI := tin k hlt
        have hJ := hI
        obtain ⟨⟨_, _⟩, _, _⟩ := hJ
        simp (config := { maxSteps := 1000000 }) (disch := omega) only [go_sem, Int.reduceToNat, ↓reduceIte, Nat.reduceLT, Nat.reduceEqDiff, Nat.reduceAdd, Nat.reduceMul, Nat.reduceSub, Nat.reduceBEq, Nat.reduceLeDiff, reduceCtorEq, Nat.reduceLT, ↓Br_true, ↓Br_false, bind, pure, sc10, sb10, hd, e1]
        repeat' (first | (with_reducible refine And.intro (by first | (unfold SOk; kernel_rfl) | (unfold SBOk; kernel_rfl) | (with_reducible assumption) | omega | assumption) ?_) | (with_reducible refine Br_intro (fun hc => ?_) (fun hc => ?_)) | ((have cc := l03Light_cv r us (tlN L k) n cap f H.hf hcap H.hn hz hw hI; (first | ((first | refine callR (by rfl) (by rfl) (by rfl) cc ?_ | refine callM (by rfl) (by rfl) (by rfl) cc ?_ | refine callMo (by rfl) (by rfl) (by rfl) cc ?_); clear cc; rintro _ _ ⟨rfl, rfl⟩) | (refine callE (by rfl) cc (by rfl) ?_; clear cc))); simp (config := { maxSteps := 1000000 }) (disch := omega) only [go_sem, Int.reduceToNat, ↓reduceIte, Nat.reduceLT, Nat.reduceEqDiff, Nat.reduceAdd, Nat.reduceMul, Nat.reduceSub, Nat.reduceBEq, Nat.reduceLeDiff, reduceCtorEq, Nat.reduceLT, ↓Br_true, ↓Br_false, bind, pure, sc10, sb10, hd, e1]) | ((with_reducible show WidN _ _ _ _ _ _ _ _); (first | refine widL (by decide) (by with_reducible assumption) ?_ | refine widL (by decide) (FWok_nn (by with_reducible assumption)) ?_ | refine widN (by decide) (fun c hc => ?_)); simp (config := { maxSteps := 1000000 }) (disch := omega) only [go_sem, Int.reduceToNat, ↓reduceIte, Nat.reduceLT, Nat.reduceEqDiff, Nat.reduceAdd, Nat.reduceMul, Nat.reduceSub, Nat.reduceBEq, Nat.reduceLeDiff, reduceCtorEq, Nat.reduceLT, ↓Br_true, ↓Br_false, bind, pure, sc10, sb10, hd, e1]))
        exact ⟨k + 1, by omega, by omega, by (try refine Or.inl ?_); simp [Cov, covE, covH, cb_dead, cb_lit, cb_rows, cb_cells, cd_lit, cd_rows, cd_cells, cd_dead, covRow, look, SV.known, SV.bd, bdL, eS, hcap, hcap'] <;> omega⟩
      · have hd : decide ((k : Int) < L.length) = false := decide_eq_false (by omega)
        obtain rfl : k = L.length := by omega
        simp (config := { maxSteps := 1000000 }) (disch := omega) only [go_sem, Int.reduceToNat, ↓reduceIte, Nat.reduceLT, Nat.reduceEqDiff, Nat.reduceAdd, Nat.reduceMul, Nat.reduceSub, Nat.reduceBEq, Nat.reduceLeDiff, reduceCtorEq, Nat.reduceLT, ↓Br_true, ↓Br_false, bind, pure, sc10, sb10, hd]
theorem mapG_nn {r : Rom} {us : Nat → Win} {n : Nat} (hr : r.sz) (hw : allW r us n = true) (j : Nat) : ∀ k, k ≤ (tilesL r).length → nn (fN (mapG r us n k j))
  | 0, _ => show nn 0 by decide
  | k + 1, h => by
    simp only [mapG, updC]
    split
    · exact (litF_P0 hr hw (tl_in hr (k := k) (by omega)) n (Nat.le_refl n)).1
    · exact mapG_nn hr hw j k (by omega)
theorem mapV_nn (r : Rom) (us : Nat → Win) (n : Nat) (j : Nat) : nn (fN (mapV r us n j)) := by
  unfold mapV
  split
  · rename_i h
    obtain ⟨hz, h12, hw⟩ := vRoom_at h
    exact mapG_nn hz hw j _ (Nat.le_refl _)
  · show nn 0
    decide
end Go.Proofs.YtjhddlkfkicpaaaGreatDoor.Vx
