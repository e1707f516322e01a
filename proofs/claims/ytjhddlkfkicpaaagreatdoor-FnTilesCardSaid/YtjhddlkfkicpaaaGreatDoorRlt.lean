/- Rooms, in the abstract: lit tiles. -/
import Derived.Test.YtjhddlkfkicpaaaGreatDoorRt
import Derived.Test.YtjhddlkfkicpaaaGreatDoorRy
namespace Go.Proofs.YtjhddlkfkicpaaaGreatDoor.Vx
open Go Go.RowKit Fl
set_option maxRecDepth 100000
set_option maxHeartbeats 2000000
set_option linter.unusedSimpArgs false
set_option linter.unusedVariables false

theorem l03NotNan_cv (a : Nat) : CV Tryz.prog 51 [.f (.flt .f32 a)] [] (fun v h => v = .f (.bool (feq a a)) ∧ h = []) := by
  refine cv_of_run 1000 sc51 sb51 6 [.tmp 2] tabOk (by kernel_rfl) Tryz.func51 rfl (by kernel_rfl) Tryz.ntmps51 rfl (by simp) rfl (by simp [bdL, SV.bd]) ?_
  simp (config := { maxSteps := 1000000 }) (disch := omega) only [go_sem, Int.reduceToNat, ↓reduceIte, Nat.reduceLT, Nat.reduceEqDiff, Nat.reduceAdd, Nat.reduceMul, Nat.reduceSub, Nat.reduceBEq, Nat.reduceLeDiff, reduceCtorEq, Nat.reduceLT, ↓Br_true, ↓Br_false, bind, pure, sc51, sb51]
def ltI (r : Rom) (us : Nat → Win) (n least : Nat) : Nat → Nat → Int
  | 0 => fun _ => 0
  | k + 1 => fun j => if fle least (litF r us (tlN (tilesL r) k) n) then (if j = (tlN (tilesL r) k).2.toNat then bitI .or .u16 (ltI r us n least k j) (shlI .u16 1 (tlN (tilesL r) k).1) else ltI r us n least k j) else ltI r us n least k j
def ltV (r : Rom) (us : Nat → Win) (n least : Nat) : Nat → Int := if askC (vRoom r us n) (feq least least) = 0 then ltI r us n least (tilesL r).length else fun _ => 0
theorem LitTiles_cv (r : Rom) (us : Nat → Win) (least : Nat) (n cap : Nat) (f : Nat → List FV) (H : RomH r us n cap f) :
    CV Tryz.prog 15 [romV r n cap, .f (.flt .f32 least)] [.rows n cap 3 f false] (fun v h => ∃ g : Nat → FV, (∀ j, j < 10 → g j = .int .u16 (ltV r us n least j)) ∧ v = .tup [.arr 10 g, .f (.int .i64 (askC (vRoom r us n) (feq least least)))] ∧ h = [.rows n cap 3 f false]) := by
  have hcap := H.hcap
  refine cv_of_run 1000 sc15 sb15 41 [.cell 4 45, .tmp 5] tabOk (by kernel_rfl) Tryz.func15 rfl (by kernel_rfl) Tryz.ntmps15 rfl (by simp) rfl (by simp [bdL, SV.bd]) ?_
  simp (config := { maxSteps := 1000000 }) (disch := omega) only [go_sem, Int.reduceToNat, ↓reduceIte, Nat.reduceLT, Nat.reduceEqDiff, Nat.reduceAdd, Nat.reduceMul, Nat.reduceSub, Nat.reduceBEq, Nat.reduceLeDiff, reduceCtorEq, Nat.reduceLT, ↓Br_true, ↓Br_false, bind, pure, sc15, sb15]
  repeat' (first | (with_reducible refine And.intro (by first | (unfold SOk; kernel_rfl) | (unfold SBOk; kernel_rfl) | (with_reducible assumption) | omega | assumption) ?_) | (with_reducible refine Br_intro (fun hc => ?_) (fun hc => ?_)) | ((first | (refine callR (by rfl) (by rfl) (by rfl) (roomCode_cv r us n cap f _ H) ?_; rintro _ _ ⟨rfl, rfl⟩) | (refine callM (by rfl) (by rfl) (by rfl) (roomCode_cv r us n cap f _ H) ?_; rintro _ _ ⟨rfl, rfl⟩) | (refine callMo (by rfl) (by rfl) (by rfl) (roomCode_cv r us n cap f _ H) ?_; rintro _ _ ⟨rfl, rfl⟩) | (refine callE (by rfl) (roomCode_cv r us n cap f _ H) (by rfl) ?_)); simp (config := { maxSteps := 1000000 }) (disch := omega) only [go_sem, Int.reduceToNat, ↓reduceIte, Nat.reduceLT, Nat.reduceEqDiff, Nat.reduceAdd, Nat.reduceMul, Nat.reduceSub, Nat.reduceBEq, Nat.reduceLeDiff, reduceCtorEq, Nat.reduceLT, ↓Br_true, ↓Br_false, bind, pure, sc15, sb15]) | ((with_reducible show WidN _ _ _ _ _ _ _ _); (first | refine widL (by decide) (by with_reducible assumption) ?_ | refine widL (by decide) (FWok_nn (by with_reducible assumption)) ?_ | refine widN (by decide) (fun c hc => ?_)); simp (config := { maxSteps := 1000000 }) (disch := omega) only [go_sem, Int.reduceToNat, ↓reduceIte, Nat.reduceLT, Nat.reduceEqDiff, Nat.reduceAdd, Nat.reduceMul, Nat.reduceSub, Nat.reduceBEq, Nat.reduceLeDiff, reduceCtorEq, Nat.reduceLT, ↓Br_true, ↓Br_false, bind, pure, sc15, sb15]))
  · simp only [Bool.not_eq_true', decide_eq_false_iff_not] at hc
    exact ⟨constF (.int .u16 0), fun j _ => by simp [ltV, hc, constF], rfl⟩
  · simp only [Bool.not_eq_false', decide_eq_true_eq] at hc
    obtain ⟨hz, h12, hw, _⟩ := room_asked hc
    have hle := tilesL_le hz
    have tin := fun k hk => tl_in hz (k := k) hk
    have emv : ltV r us n least = ltI r us n least (tilesL r).length := by simp [ltV, hc]
    simp only [emv, hc]
    have cc := tiles_cv r n cap f hz hcap; (first | refine callR (by rfl) (by rfl) (by rfl) cc ?_ | refine callM (by rfl) (by rfl) (by rfl) cc ?_ | refine callMo (by rfl) (by rfl) (by rfl) cc ?_ | refine callG (by rfl) (by rfl) (by rfl) cc ?_ | refine callW (by rfl) (by first | rfl | (simp [ofL, kpB, kpR, ofB, isOwnB, isDead, inL, hget]; done)) (by rfl) (by rfl) cc ?_); clear cc; rintro _ _ ⟨cap', g, hg, hcap', rfl, rfl⟩
    simp (config := { maxSteps := 1000000 }) (disch := omega) only [go_sem, Int.reduceToNat, ↓reduceIte, Nat.reduceLT, Nat.reduceEqDiff, Nat.reduceAdd, Nat.reduceMul, Nat.reduceSub, Nat.reduceBEq, Nat.reduceLeDiff, reduceCtorEq, Nat.reduceLT, ↓Br_true, ↓Br_false, bind, pure, sc15, sb15]
    have eS := fun k j => show ltI r us n least (k + 1) j = if fle least (litF r us (tlN (tilesL r) k) n) then (if j = (tlN (tilesL r) k).2.toNat then bitI .or .u16 (ltI r us n least k j) (shlI .u16 1 (tlN (tilesL r) k).1) else ltI r us n least k j) else ltI r us n least k j from rfl
    generalize tilesL r = L at *
    refine ⟨(Nat × (Nat → FV)), fun s => s.1 ≤ L.length ∧ ∀ j, j < 10 → s.2 j = .int .u16 (ltI r us n least s.1 j), fun s => L.length - s.1, fun s => [(1, .f (.flt .f32 least)), (2, .ptr 1 0 0), (4, .ptr 2 0 0), (5, .f (.int .i64 0)), (6, .ptr 3 0 0), (20, .slc 4 0 L.length cap'), (21, .f (.int .i64 L.length)), (22, .f (.int .i64 s.1))], fun s => [.rows n cap 3 f false, .lit [.f (.int .i8 r.wi), .f (.int .i8 r.hi), .slc 0 0 n cap] true, .cells 10 (constF (.int .u16 0)) true, .cells 10 s.2 true, .rows L.length cap' 2 g true], (0, constF (.int .u16 0)), (by intro _; simp), ?_, (by (try refine Or.inl ?_); simp [Cov, covE, covH, cb_dead, cb_lit, cb_rows, cb_cells, cd_lit, cd_rows, cd_cells, cd_dead, covRow, look, SV.known, SV.bd, bdL, constF, hcap, hcap'] <;> omega), ?_⟩
    · exact ⟨by omega, fun j _ => rfl⟩
    · rintro ⟨k, u⟩ ⟨hk, hu⟩
      simp only at hk hu
      by_cases hlt : k < L.length
      · have hd : decide ((k : Int) < L.length) = true := decide_eq_true (by omega)
        have e1 := hg k hlt
        have hI := tin k hlt
        have hJ := hI
        obtain ⟨⟨_, _⟩, _, _⟩ := hJ
        have e2 := hu (tlN L k).2.toNat (by omega)
        simp (config := { maxSteps := 1000000 }) (disch := omega) only [go_sem, Int.reduceToNat, ↓reduceIte, Nat.reduceLT, Nat.reduceEqDiff, Nat.reduceAdd, Nat.reduceMul, Nat.reduceSub, Nat.reduceBEq, Nat.reduceLeDiff, reduceCtorEq, Nat.reduceLT, ↓Br_true, ↓Br_false, bind, pure, sc15, sb15, hd, e1, e2]
        repeat' (first | (with_reducible refine And.intro (by first | (unfold SOk; kernel_rfl) | (unfold SBOk; kernel_rfl) | (with_reducible assumption) | omega | assumption) ?_) | (with_reducible refine Br_intro (fun hc => ?_) (fun hc => ?_)) | ((have cc := light_cv r us (tlN L k) n cap f H.hf hcap H.hn hz hw hI; (first | ((first | refine callR (by rfl) (by rfl) (by rfl) cc ?_ | refine callM (by rfl) (by rfl) (by rfl) cc ?_ | refine callMo (by rfl) (by rfl) (by rfl) cc ?_); clear cc; rintro _ _ ⟨rfl, rfl⟩) | (refine callE (by rfl) cc (by rfl) ?_; clear cc))); simp (config := { maxSteps := 1000000 }) (disch := omega) only [go_sem, Int.reduceToNat, ↓reduceIte, Nat.reduceLT, Nat.reduceEqDiff, Nat.reduceAdd, Nat.reduceMul, Nat.reduceSub, Nat.reduceBEq, Nat.reduceLeDiff, reduceCtorEq, Nat.reduceLT, ↓Br_true, ↓Br_false, bind, pure, sc15, sb15, hd, e1, e2]) | ((with_reducible show WidN _ _ _ _ _ _ _ _); (first | refine widL (by decide) (by with_reducible assumption) ?_ | refine widL (by decide) (FWok_nn (by with_reducible assumption)) ?_ | refine widN (by decide) (fun c hc => ?_)); simp (config := { maxSteps := 1000000 }) (disch := omega) only [go_sem, Int.reduceToNat, ↓reduceIte, Nat.reduceLT, Nat.reduceEqDiff, Nat.reduceAdd, Nat.reduceMul, Nat.reduceSub, Nat.reduceBEq, Nat.reduceLeDiff, reduceCtorEq, Nat.reduceLT, ↓Br_true, ↓Br_false, bind, pure, sc15, sb15, hd, e1, e2]))
        · refine ⟨(k + 1, updC u (tlN L k).2.toNat (.int .u16 (bitI .or .u16 (ltI r us n least k (tlN L k).2.toNat) (shlI .u16 1 (tlN L k).1)))), ⟨by omega, fun j hj => ?_⟩, by omega, by (try refine Or.inl ?_); simp [Cov, covE, covH, cb_dead, cb_lit, cb_rows, cb_cells, cd_lit, cd_rows, cd_cells, cd_dead, covRow, look, SV.known, SV.bd, bdL, e1, e2, hcap, hcap'] <;> omega⟩
          simp only [updC]
          rw [eS, if_pos hc]
          by_cases c : j = (tlN L k).2.toNat
          · subst c; rw [if_pos rfl, if_pos rfl]
          · rw [if_neg c, if_neg c]; exact hu j hj
        · refine ⟨(k + 1, u), ⟨by omega, fun j hj => ?_⟩, by omega, by (try refine Or.inl ?_); simp [Cov, covE, covH, cb_dead, cb_lit, cb_rows, cb_cells, cd_lit, cd_rows, cd_cells, cd_dead, covRow, look, SV.known, SV.bd, bdL, e1, e2, hcap, hcap'] <;> omega⟩
          simp only
          rw [eS, if_neg (by rw [hc]; simp)]
          exact hu j hj
      · have hd : decide ((k : Int) < L.length) = false := decide_eq_false (by omega)
        simp (config := { maxSteps := 1000000 }) (disch := omega) only [go_sem, Int.reduceToNat, ↓reduceIte, Nat.reduceLT, Nat.reduceEqDiff, Nat.reduceAdd, Nat.reduceMul, Nat.reduceSub, Nat.reduceBEq, Nat.reduceLeDiff, reduceCtorEq, Nat.reduceLT, ↓Br_true, ↓Br_false, bind, pure, sc15, sb15, hd]
        obtain rfl : k = L.length := by omega
        exact ⟨u, hu, rfl⟩
theorem sLitTiles_cv (r : Rom) (us : Nat → Win) (least : Nat) (n cap : Nat) (f : Nat → List FV) (H : RomH r us n cap f) :
    CV Tryz.prog 16 [romV r n cap, .f (.flt .f32 least)] [.rows n cap 3 f false] (fun v h => ∃ g : Nat → FV, (∀ j, j < 10 → g j = .int .u16 (ltV r us n least j)) ∧ v = .tup [.arr 10 g, .f (.int .i64 (askC (vRoom r us n) (feq least least)))] ∧ h = [.rows n cap 3 f false]) := by
  have hcap := H.hcap
  refine cv_of_run 1000 sc16 sb16 49 [.cell 4 45, .tmp 5] tabOk (by kernel_rfl) Tryz.func16 rfl (by kernel_rfl) Tryz.ntmps16 rfl (by simp) rfl (by simp [bdL, SV.bd]) ?_
  simp (config := { maxSteps := 1000000 }) (disch := omega) only [go_sem, Int.reduceToNat, ↓reduceIte, Nat.reduceLT, Nat.reduceEqDiff, Nat.reduceAdd, Nat.reduceMul, Nat.reduceSub, Nat.reduceBEq, Nat.reduceLeDiff, reduceCtorEq, Nat.reduceLT, ↓Br_true, ↓Br_false, bind, pure, sc16, sb16]
  repeat' (first | (with_reducible refine And.intro (by first | (unfold SOk; kernel_rfl) | (unfold SBOk; kernel_rfl) | (with_reducible assumption) | omega | assumption) ?_) | (with_reducible refine Br_intro (fun hc => ?_) (fun hc => ?_)) | ((first | (refine callR (by rfl) (by rfl) (by rfl) (l03NotNan_cv _) ?_; rintro _ _ ⟨rfl, rfl⟩) | (refine callM (by rfl) (by rfl) (by rfl) (l03NotNan_cv _) ?_; rintro _ _ ⟨rfl, rfl⟩) | (refine callMo (by rfl) (by rfl) (by rfl) (l03NotNan_cv _) ?_; rintro _ _ ⟨rfl, rfl⟩) | (refine callE (by rfl) (l03NotNan_cv _) (by rfl) ?_)); simp (config := { maxSteps := 1000000 }) (disch := omega) only [go_sem, Int.reduceToNat, ↓reduceIte, Nat.reduceLT, Nat.reduceEqDiff, Nat.reduceAdd, Nat.reduceMul, Nat.reduceSub, Nat.reduceBEq, Nat.reduceLeDiff, reduceCtorEq, Nat.reduceLT, ↓Br_true, ↓Br_false, bind, pure, sc16, sb16]) | ((first | (refine callR (by rfl) (by rfl) (by rfl) (l03Asked_cv r us n cap f _ H) ?_; rintro _ _ ⟨rfl, rfl⟩) | (refine callM (by rfl) (by rfl) (by rfl) (l03Asked_cv r us n cap f _ H) ?_; rintro _ _ ⟨rfl, rfl⟩) | (refine callMo (by rfl) (by rfl) (by rfl) (l03Asked_cv r us n cap f _ H) ?_; rintro _ _ ⟨rfl, rfl⟩) | (refine callE (by rfl) (l03Asked_cv r us n cap f _ H) (by rfl) ?_)); simp (config := { maxSteps := 1000000 }) (disch := omega) only [go_sem, Int.reduceToNat, ↓reduceIte, Nat.reduceLT, Nat.reduceEqDiff, Nat.reduceAdd, Nat.reduceMul, Nat.reduceSub, Nat.reduceBEq, Nat.reduceLeDiff, reduceCtorEq, Nat.reduceLT, ↓Br_true, ↓Br_false, bind, pure, sc16, sb16]) | ((with_reducible show WidN _ _ _ _ _ _ _ _); (first | refine widL (by decide) (by with_reducible assumption) ?_ | refine widL (by decide) (FWok_nn (by with_reducible assumption)) ?_ | refine widN (by decide) (fun c hc => ?_)); simp (config := { maxSteps := 1000000 }) (disch := omega) only [go_sem, Int.reduceToNat, ↓reduceIte, Nat.reduceLT, Nat.reduceEqDiff, Nat.reduceAdd, Nat.reduceMul, Nat.reduceSub, Nat.reduceBEq, Nat.reduceLeDiff, reduceCtorEq, Nat.reduceLT, ↓Br_true, ↓Br_false, bind, pure, sc16, sb16]))
  · simp only [Bool.not_eq_true', decide_eq_false_iff_not] at hc
    exact ⟨constF (.int .u16 0), fun j _ => by simp [ltV, hc, constF], rfl⟩
  · simp only [Bool.not_eq_false', decide_eq_true_eq] at hc
    obtain ⟨hz, h12, hw, _⟩ := room_asked hc
    have hle := tilesL_le hz
    have tin := fun k hk => tl_in hz (k := k) hk
    have emv : ltV r us n least = ltI r us n least (tilesL r).length := by simp [ltV, hc]
    simp only [emv, hc]
    have cc := l03Tiles_cv r n cap f hz hcap; (first | refine callR (by rfl) (by rfl) (by rfl) cc ?_ | refine callM (by rfl) (by rfl) (by rfl) cc ?_ | refine callMo (by rfl) (by rfl) (by rfl) cc ?_ | refine callG (by rfl) (by rfl) (by rfl) cc ?_ | refine callW (by rfl) (by first | rfl | (simp [ofL, kpB, kpR, ofB, isOwnB, isDead, inL, hget]; done)) (by rfl) (by rfl) cc ?_); clear cc; rintro _ _ ⟨cap', g, hg, hcap', rfl, rfl⟩
    simp (config := { maxSteps := 1000000 }) (disch := omega) only [go_sem, Int.reduceToNat, ↓reduceIte, Nat.reduceLT, Nat.reduceEqDiff, Nat.reduceAdd, Nat.reduceMul, Nat.reduceSub, Nat.reduceBEq, Nat.reduceLeDiff, reduceCtorEq, Nat.reduceLT, ↓Br_true, ↓Br_false, bind, pure, sc16, sb16]
    have eS := fun k j => show ltI r us n least (k + 1) j = if fle least (litF r us (tlN (tilesL r) k) n) then (if j = (tlN (tilesL r) k).2.toNat then bitI .or .u16 (ltI r us n least k j) (shlI .u16 1 (tlN (tilesL r) k).1) else ltI r us n least k j) else ltI r us n least k j from rfl
    generalize tilesL r = L at *
    refine ⟨(Nat × (Nat → FV)), fun s => s.1 ≤ L.length ∧ ∀ j, j < 10 → s.2 j = .int .u16 (ltI r us n least s.1 j), fun s => L.length - s.1, fun s => [(1, .f (.flt .f32 least)), (2, .ptr 1 0 0), (4, .ptr 2 0 0), (5, .f (.int .i64 0)), (6, .ptr 3 0 0), (8, .slc 4 0 L.length cap'), (9, .f (.int .i64 s.1))], fun s => [.rows n cap 3 f false, .lit [.f (.int .i8 r.wi), .f (.int .i8 r.hi), .slc 0 0 n cap] true, .cells 10 (constF (.int .u16 0)) true, .cells 10 s.2 true, .rows L.length cap' 2 g true], (0, constF (.int .u16 0)), (by intro _; simp), ?_, (by (try refine Or.inl ?_); simp [Cov, covE, covH, cb_dead, cb_lit, cb_rows, cb_cells, cd_lit, cd_rows, cd_cells, cd_dead, covRow, look, SV.known, SV.bd, bdL, constF, hcap, hcap'] <;> omega), ?_⟩
    · exact ⟨by omega, fun j _ => rfl⟩
    · rintro ⟨k, u⟩ ⟨hk, hu⟩
      simp only at hk hu
      by_cases hlt : k < L.length
      · have hd : decide ((k : Int) < L.length) = true := decide_eq_true (by omega)
        have e1 := hg k hlt
        have hI := tin k hlt
        have hJ := hI
        obtain ⟨⟨_, _⟩, _, _⟩ := hJ
        have e2 := hu (tlN L k).2.toNat (by omega)
        simp (config := { maxSteps := 1000000 }) (disch := omega) only [go_sem, Int.reduceToNat, ↓reduceIte, Nat.reduceLT, Nat.reduceEqDiff, Nat.reduceAdd, Nat.reduceMul, Nat.reduceSub, Nat.reduceBEq, Nat.reduceLeDiff, reduceCtorEq, Nat.reduceLT, ↓Br_true, ↓Br_false, bind, pure, sc16, sb16, hd, e1, e2]
        repeat' (first | (with_reducible refine And.intro (by first | (unfold SOk; kernel_rfl) | (unfold SBOk; kernel_rfl) | (with_reducible assumption) | omega | assumption) ?_) | (with_reducible refine Br_intro (fun hc => ?_) (fun hc => ?_)) | ((have cc := l03Light_cv r us (tlN L k) n cap f H.hf hcap H.hn hz hw hI; (first | ((first | refine callR (by rfl) (by rfl) (by rfl) cc ?_ | refine callM (by rfl) (by rfl) (by rfl) cc ?_ | refine callMo (by rfl) (by rfl) (by rfl) cc ?_); clear cc; rintro _ _ ⟨rfl, rfl⟩) | (refine callE (by rfl) cc (by rfl) ?_; clear cc))); simp (config := { maxSteps := 1000000 }) (disch := omega) only [go_sem, Int.reduceToNat, ↓reduceIte, Nat.reduceLT, Nat.reduceEqDiff, Nat.reduceAdd, Nat.reduceMul, Nat.reduceSub, Nat.reduceBEq, Nat.reduceLeDiff, reduceCtorEq, Nat.reduceLT, ↓Br_true, ↓Br_false, bind, pure, sc16, sb16, hd, e1, e2]) | ((with_reducible show WidN _ _ _ _ _ _ _ _); (first | refine widL (by decide) (by with_reducible assumption) ?_ | refine widL (by decide) (FWok_nn (by with_reducible assumption)) ?_ | refine widN (by decide) (fun c hc => ?_)); simp (config := { maxSteps := 1000000 }) (disch := omega) only [go_sem, Int.reduceToNat, ↓reduceIte, Nat.reduceLT, Nat.reduceEqDiff, Nat.reduceAdd, Nat.reduceMul, Nat.reduceSub, Nat.reduceBEq, Nat.reduceLeDiff, reduceCtorEq, Nat.reduceLT, ↓Br_true, ↓Br_false, bind, pure, sc16, sb16, hd, e1, e2]))
        · refine ⟨(k + 1, updC u (tlN L k).2.toNat (.int .u16 (bitI .or .u16 (ltI r us n least k (tlN L k).2.toNat) (shlI .u16 1 (tlN L k).1)))), ⟨by omega, fun j hj => ?_⟩, by omega, by (try refine Or.inl ?_); simp [Cov, covE, covH, cb_dead, cb_lit, cb_rows, cb_cells, cd_lit, cd_rows, cd_cells, cd_dead, covRow, look, SV.known, SV.bd, bdL, e1, e2, hcap, hcap'] <;> omega⟩
          simp only [updC]
          rw [eS, if_pos hc]
          by_cases c : j = (tlN L k).2.toNat
          · subst c; rw [if_pos rfl, if_pos rfl]
          · rw [if_neg c, if_neg c]; exact hu j hj
        · refine ⟨(k + 1, u), ⟨by omega, fun j hj => ?_⟩, by omega, by (try refine Or.inl ?_); simp [Cov, covE, covH, cb_dead, cb_lit, cb_rows, cb_cells, cd_lit, cd_rows, cd_cells, cd_dead, covRow, look, SV.known, SV.bd, bdL, e1, e2, hcap, hcap'] <;> omega⟩
          simp only
          rw [eS, if_neg (by rw [hc]; simp)]
          exact hu j hj
      · have hd : decide ((k : Int) < L.length) = false := decide_eq_false (by omega)
        simp (config := { maxSteps := 1000000 }) (disch := omega) only [go_sem, Int.reduceToNat, ↓reduceIte, Nat.reduceLT, Nat.reduceEqDiff, Nat.reduceAdd, Nat.reduceMul, Nat.reduceSub, Nat.reduceBEq, Nat.reduceLeDiff, reduceCtorEq, Nat.reduceLT, ↓Br_true, ↓Br_false, bind, pure, sc16, sb16, hd]
        obtain rfl : k = L.length := by omega
        exact ⟨u, hu, rfl⟩
end Go.Proofs.YtjhddlkfkicpaaaGreatDoor.Vx
