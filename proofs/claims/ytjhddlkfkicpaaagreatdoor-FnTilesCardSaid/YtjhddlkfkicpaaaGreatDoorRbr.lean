/- Rooms, in the abstract: the brightest tile. -/
import Derived.Test.YtjhddlkfkicpaaaGreatDoorRt
import Derived.Test.YtjhddlkfkicpaaaGreatDoorRy
namespace Go.Proofs.YtjhddlkfkicpaaaGreatDoor.Vx
open Go Go.RowKit Fl
set_option maxRecDepth 100000
set_option maxHeartbeats 2000000
set_option linter.unusedSimpArgs false
set_option linter.unusedVariables false

/-- The first with the greatest number, of so many behind the first. -/
def mxN (V : Nat → Nat) : Nat → Nat × Nat
  | 0 => (0, V 0)
  | k + 1 => if flt (mxN V k).2 (V (k + 1)) then (k + 1, V (k + 1)) else mxN V k
theorem mxN_le (V : Nat → Nat) : ∀ k, (mxN V k).1 ≤ k
  | 0 => Nat.le_refl 0
  | k + 1 => by have := mxN_le V k; simp only [mxN]; split; exact Nat.le_refl _; omega
theorem mxN_eq (V : Nat → Nat) : ∀ k, (mxN V k).2 = V (mxN V k).1
  | 0 => rfl
  | k + 1 => by simp only [mxN]; split; rfl; exact mxN_eq V k
abbrev rmB2 (r : Rom) (n cap : Nat) : Blk := .lit [.f (.int .i8 r.wi), .f (.int .i8 r.hi), .slc 2 0 n cap] false
theorem bright1_cv (r : Rom) (us : Nat → Win) (L : List (Int × Int)) (k n cap m cap' : Nat) (f g : Nat → List FV) (H : RomH r us n cap f) (hz : r.sz) (hw : allW r us n = true) (hm : m = L.length) (hg : TilAt L g) (hcap' : m ≤ cap') (hk : k < m) (hI : inR (tlN L k)) (hm2 : m ≤ 100) :
    CV Tryz.prog 49 [.f (.int .i64 k), .ptr 0 0 0, .ptr 1 0 0] [rmB2 r n cap, .lit [.slc 3 0 m cap'] false, .rows n cap 3 f false, .rows m cap' 2 g false] (fun v h => v = .f (.flt .f32 (litF r us (tlN L k) n)) ∧ h = [rmB2 r n cap, .lit [.slc 3 0 m cap'] false, .rows n cap 3 f false, .rows m cap' 2 g false]) := by
  have hcap := H.hcap
  have e1 := hg k (by omega)
  refine cv_of_run 1000 sc49 sb49 10 [.tmp 4] tabOk (by kernel_rfl) Tryz.func49 rfl (by kernel_rfl) Tryz.ntmps49 rfl (by simp) rfl (by simp [bdL, SV.bd]) ?_
  simp (config := { maxSteps := 1000000 }) (disch := omega) only [go_sem, Int.reduceToNat, ↓reduceIte, Nat.reduceLT, Nat.reduceEqDiff, Nat.reduceAdd, Nat.reduceMul, Nat.reduceSub, Nat.reduceBEq, Nat.reduceLeDiff, reduceCtorEq, Nat.reduceLT, ↓Br_true, ↓Br_false, bind, pure, sc49, sb49, e1]
  repeat' (first | (with_reducible refine And.intro (by first | (unfold SOk; kernel_rfl) | (unfold SBOk; kernel_rfl) | (with_reducible assumption) | omega | assumption) ?_) | (with_reducible refine Br_intro (fun hc => ?_) (fun hc => ?_)) | ((have cc := light_cv r us (tlN L k) n cap f H.hf hcap H.hn hz hw hI; (first | ((first | refine callR (by rfl) (by rfl) (by rfl) cc ?_ | refine callM (by rfl) (by rfl) (by rfl) cc ?_ | refine callMo (by rfl) (by rfl) (by rfl) cc ?_); clear cc; rintro _ _ ⟨rfl, rfl⟩) | (refine callE (by rfl) cc (by rfl) ?_; clear cc))); simp (config := { maxSteps := 1000000 }) (disch := omega) only [go_sem, Int.reduceToNat, ↓reduceIte, Nat.reduceLT, Nat.reduceEqDiff, Nat.reduceAdd, Nat.reduceMul, Nat.reduceSub, Nat.reduceBEq, Nat.reduceLeDiff, reduceCtorEq, Nat.reduceLT, ↓Br_true, ↓Br_false, bind, pure, sc49, sb49, e1]) | ((with_reducible show WidN _ _ _ _ _ _ _ _); (first | refine widL (by decide) (by with_reducible assumption) ?_ | refine widL (by decide) (FWok_nn (by with_reducible assumption)) ?_ | refine widN (by decide) (fun c hc => ?_)); simp (config := { maxSteps := 1000000 }) (disch := omega) only [go_sem, Int.reduceToNat, ↓reduceIte, Nat.reduceLT, Nat.reduceEqDiff, Nat.reduceAdd, Nat.reduceMul, Nat.reduceSub, Nat.reduceBEq, Nat.reduceLeDiff, reduceCtorEq, Nat.reduceLT, ↓Br_true, ↓Br_false, bind, pure, sc49, sb49, e1]))
theorem greatest_cv (r : Rom) (us : Nat → Win) (L : List (Int × Int)) (n cap m cap' : Nat) (f g : Nat → List FV) (H : RomH r us n cap f) (hz : r.sz) (hw : allW r us n = true) (hm : m = L.length) (hg : TilAt L g) (hcap' : m ≤ cap') (hI : ∀ k, k < m → inR (tlN L k)) (h1 : 1 ≤ m) (hm2 : m ≤ 100) :
    CV Tryz.prog 48 [.f (.int .i64 m), .fn 49 [] [.ptr 0 0 0, .ptr 1 0 0]] [rmB2 r n cap, .lit [.slc 3 0 m cap'] false, .rows n cap 3 f false, .rows m cap' 2 g false] (fun v h => v = .tup [.f (.int .i64 (mxN (fun k => litF r us (tlN L k) n) (m - 1)).1), .f (.flt .f32 (mxN (fun k => litF r us (tlN L k) n) (m - 1)).2)] ∧ h = [rmB2 r n cap, .lit [.slc 3 0 m cap'] false, .rows n cap 3 f false, .rows m cap' 2 g false]) := by
  have hcap := H.hcap
  have ca := fun k hk => bright1_cv r us L k n cap m cap' f g H hz hw hm hg hcap' hk (hI k hk) hm2
  have hV : ∃ V : Nat → Nat, V = fun k => litF r us (tlN L k) n := ⟨_, rfl⟩
  obtain ⟨V, hV⟩ := hV
  have hv : ∀ k, litF r us (tlN L k) n = V k := fun t => by rw [hV]
  simp only [← hV]
  simp only [hv] at ca
  have e0 : mxN V 0 = (0, V 0) := rfl
  have c0 := ca 0 (by omega)
  refine cv_of_run 1000 sc48 sb48 27 [.tmp 4, .tmp 5] tabOk (by kernel_rfl) Tryz.func48 rfl (by kernel_rfl) Tryz.ntmps48 rfl (by simp) rfl (by simp [bdL, SV.bd]) ?_
  simp (config := { maxSteps := 1000000 }) (disch := omega) only [go_sem, Int.reduceToNat, ↓reduceIte, Nat.reduceLT, Nat.reduceEqDiff, Nat.reduceAdd, Nat.reduceMul, Nat.reduceSub, Nat.reduceBEq, Nat.reduceLeDiff, reduceCtorEq, Nat.reduceLT, ↓Br_true, ↓Br_false, bind, pure, sc48, sb48]
  (have cc := c0; (first | ((first | refine callR (by rfl) (by rfl) (by rfl) cc ?_ | refine callM (by rfl) (by rfl) (by rfl) cc ?_ | refine callMo (by rfl) (by rfl) (by rfl) cc ?_); clear cc; rintro _ _ ⟨rfl, rfl⟩) | (refine callE (by rfl) cc (by rfl) ?_; clear cc)))
  simp (config := { maxSteps := 1000000 }) (disch := omega) only [go_sem, Int.reduceToNat, ↓reduceIte, Nat.reduceLT, Nat.reduceEqDiff, Nat.reduceAdd, Nat.reduceMul, Nat.reduceSub, Nat.reduceBEq, Nat.reduceLeDiff, reduceCtorEq, Nat.reduceLT, ↓Br_true, ↓Br_false, bind, pure, sc48, sb48]
  refine ⟨Nat, fun k => k + 1 ≤ m, fun k => m - k, fun k => [(0, .f (.int .i64 m)), (1, .fn 49 [] [.ptr 0 0 0, .ptr 1 0 0]), (4, .f (.int .i64 0)), (5, .f (.flt .f32 0)), (6, .f (.int .i64 (mxN V k).1)), (7, .f (.flt .f32 (mxN V k).2)), (8, .f (.int .i64 ((k + 1 : Nat) : Int)))], fun _ => [rmB2 r n cap, .lit [.slc 3 0 m cap'] false, .rows n cap 3 f false, .rows m cap' 2 g false], 0, (by intro _; simp), ?_, (by (try refine Or.inl ?_); simp [Cov, covE, covH, cb_dead, cb_lit, cb_rows, cb_cells, cd_lit, cd_rows, cd_cells, cd_dead, covRow, look, SV.known, SV.bd, bdL, e0] <;> omega), ?_⟩
  · omega
  · intro k hk
    by_cases hlt : k + 1 < m
    · have hd : decide (((k + 1 : Nat) : Int) < m) = true := decide_eq_true (by omega)
      simp (config := { maxSteps := 1000000 }) (disch := omega) only [go_sem, Int.reduceToNat, ↓reduceIte, Nat.reduceLT, Nat.reduceEqDiff, Nat.reduceAdd, Nat.reduceMul, Nat.reduceSub, Nat.reduceBEq, Nat.reduceLeDiff, reduceCtorEq, Nat.reduceLT, ↓Br_true, ↓Br_false, bind, pure, sc48, sb48, hd]
      (have cc := ca (k + 1) hlt; (first | ((first | refine callR (by rfl) (by rfl) (by rfl) cc ?_ | refine callM (by rfl) (by rfl) (by rfl) cc ?_ | refine callMo (by rfl) (by rfl) (by rfl) cc ?_); clear cc; rintro _ _ ⟨rfl, rfl⟩) | (refine callE (by rfl) cc (by rfl) ?_; clear cc)))
      simp (config := { maxSteps := 1000000 }) (disch := omega) only [go_sem, Int.reduceToNat, ↓reduceIte, Nat.reduceLT, Nat.reduceEqDiff, Nat.reduceAdd, Nat.reduceMul, Nat.reduceSub, Nat.reduceBEq, Nat.reduceLeDiff, reduceCtorEq, Nat.reduceLT, ↓Br_true, ↓Br_false, bind, pure, sc48, sb48, hd]
      refine ⟨fun hc => ?_, fun hc => ?_⟩
      · have e : mxN V (k + 1) = (k + 1, V (k + 1)) := by rw [mxN, if_pos hc]
        repeat' (first | (with_reducible refine And.intro (by first | (unfold SOk; kernel_rfl) | (unfold SBOk; kernel_rfl) | (with_reducible assumption) | omega | assumption) ?_) | (with_reducible refine Br_intro (fun hc => ?_) (fun hc => ?_)) | ((with_reducible show WidN _ _ _ _ _ _ _ _); (first | refine widL (by decide) (by with_reducible assumption) ?_ | refine widL (by decide) (FWok_nn (by with_reducible assumption)) ?_ | refine widN (by decide) (fun c hc => ?_)); simp (config := { maxSteps := 1000000 }) (disch := omega) only [go_sem, Int.reduceToNat, ↓reduceIte, Nat.reduceLT, Nat.reduceEqDiff, Nat.reduceAdd, Nat.reduceMul, Nat.reduceSub, Nat.reduceBEq, Nat.reduceLeDiff, reduceCtorEq, Nat.reduceLT, ↓Br_true, ↓Br_false, bind, pure, sc48, sb48]))
        exact ⟨k + 1, by omega, by omega, by (try refine Or.inl ?_); simp [Cov, covE, covH, cb_dead, cb_lit, cb_rows, cb_cells, cd_lit, cd_rows, cd_cells, cd_dead, covRow, look, SV.known, SV.bd, bdL, e] <;> omega⟩
      · have e : mxN V (k + 1) = mxN V k := by rw [mxN, if_neg (by simp [hc])]
        repeat' (first | (with_reducible refine And.intro (by first | (unfold SOk; kernel_rfl) | (unfold SBOk; kernel_rfl) | (with_reducible assumption) | omega | assumption) ?_) | (with_reducible refine Br_intro (fun hc => ?_) (fun hc => ?_)) | ((with_reducible show WidN _ _ _ _ _ _ _ _); (first | refine widL (by decide) (by with_reducible assumption) ?_ | refine widL (by decide) (FWok_nn (by with_reducible assumption)) ?_ | refine widN (by decide) (fun c hc => ?_)); simp (config := { maxSteps := 1000000 }) (disch := omega) only [go_sem, Int.reduceToNat, ↓reduceIte, Nat.reduceLT, Nat.reduceEqDiff, Nat.reduceAdd, Nat.reduceMul, Nat.reduceSub, Nat.reduceBEq, Nat.reduceLeDiff, reduceCtorEq, Nat.reduceLT, ↓Br_true, ↓Br_false, bind, pure, sc48, sb48]))
        exact ⟨k + 1, by omega, by omega, by (try refine Or.inl ?_); simp [Cov, covE, covH, cb_dead, cb_lit, cb_rows, cb_cells, cd_lit, cd_rows, cd_cells, cd_dead, covRow, look, SV.known, SV.bd, bdL, e] <;> omega⟩
    · have hd : decide (((k + 1 : Nat) : Int) < m) = false := decide_eq_false (by omega)
      simp (config := { maxSteps := 1000000 }) (disch := omega) only [go_sem, Int.reduceToNat, ↓reduceIte, Nat.reduceLT, Nat.reduceEqDiff, Nat.reduceAdd, Nat.reduceMul, Nat.reduceSub, Nat.reduceBEq, Nat.reduceLeDiff, reduceCtorEq, Nat.reduceLT, ↓Br_true, ↓Br_false, bind, pure, sc48, sb48, hd]
      obtain rfl : m = k + 1 := by omega
      rfl
def brP (r : Rom) (us : Nat → Win) (n : Nat) : (Int × Int) × Nat :=
  if vRoom r us n then (tlN (tilesL r) (mxN (fun k => litF r us (tlN (tilesL r) k) n) ((tilesL r).length - 1)).1, (mxN (fun k => litF r us (tlN (tilesL r) k) n) ((tilesL r).length - 1)).2) else ((0, 0), 0)
abbrev brV (r : Rom) (us : Nat → Win) (n : Nat) : SV := .tup [tilV (brP r us n).1, .f (.flt .f32 (brP r us n).2), .f (.int .i64 (askC (vRoom r us n) true))]
theorem Brightest_cv (r : Rom) (us : Nat → Win) (n cap : Nat) (f : Nat → List FV) (H : RomH r us n cap f) :
    CV Tryz.prog 13 [romV r n cap] [.rows n cap 3 f false] (fun v h => v = brV r us n ∧ h = [.rows n cap 3 f false]) := by
  have hcap := H.hcap
  refine cv_of_run 1000 sc13 sb13 28 [.cell 2 41, .tmp 3, .tmp 4] tabOk (by kernel_rfl) Tryz.func13 rfl (by kernel_rfl) Tryz.ntmps13 rfl (by simp) rfl (by simp [bdL, SV.bd]) ?_
  simp (config := { maxSteps := 1000000 }) (disch := omega) only [go_sem, Int.reduceToNat, ↓reduceIte, Nat.reduceLT, Nat.reduceEqDiff, Nat.reduceAdd, Nat.reduceMul, Nat.reduceSub, Nat.reduceBEq, Nat.reduceLeDiff, reduceCtorEq, Nat.reduceLT, ↓Br_true, ↓Br_false, bind, pure, sc13, sb13]
  repeat' (first | (with_reducible refine And.intro (by first | (unfold SOk; kernel_rfl) | (unfold SBOk; kernel_rfl) | (with_reducible assumption) | omega | assumption) ?_) | (with_reducible refine Br_intro (fun hc => ?_) (fun hc => ?_)) | ((have cc := roomCode_cv r us n cap f true H; (first | ((first | refine callR (by rfl) (by rfl) (by rfl) cc ?_ | refine callM (by rfl) (by rfl) (by rfl) cc ?_ | refine callMo (by rfl) (by rfl) (by rfl) cc ?_); clear cc; rintro _ _ ⟨rfl, rfl⟩) | (refine callE (by rfl) cc (by rfl) ?_; clear cc))); simp (config := { maxSteps := 1000000 }) (disch := omega) only [go_sem, Int.reduceToNat, ↓reduceIte, Nat.reduceLT, Nat.reduceEqDiff, Nat.reduceAdd, Nat.reduceMul, Nat.reduceSub, Nat.reduceBEq, Nat.reduceLeDiff, reduceCtorEq, Nat.reduceLT, ↓Br_true, ↓Br_false, bind, pure, sc13, sb13]) | ((with_reducible show WidN _ _ _ _ _ _ _ _); (first | refine widL (by decide) (by with_reducible assumption) ?_ | refine widL (by decide) (FWok_nn (by with_reducible assumption)) ?_ | refine widN (by decide) (fun c hc => ?_)); simp (config := { maxSteps := 1000000 }) (disch := omega) only [go_sem, Int.reduceToNat, ↓reduceIte, Nat.reduceLT, Nat.reduceEqDiff, Nat.reduceAdd, Nat.reduceMul, Nat.reduceSub, Nat.reduceBEq, Nat.reduceLeDiff, reduceCtorEq, Nat.reduceLT, ↓Br_true, ↓Br_false, bind, pure, sc13, sb13]))
  · simp only [Bool.not_eq_true', decide_eq_false_iff_not] at hc
    have : vRoom r us n = false := by cases h : vRoom r us n <;> simp_all [askC]
    simp [brV, brP, askC, this]
  · simp only [Bool.not_eq_false', decide_eq_true_eq] at hc
    obtain ⟨hz, h12, hw, _⟩ := room_asked hc
    have hv := (askC_zero hc).1
    have hle := tilesL_le hz
    have tin := fun k hk => tl_in hz (k := k) hk
    have emv : brP r us n = (tlN (tilesL r) (mxN (fun k => litF r us (tlN (tilesL r) k) n) ((tilesL r).length - 1)).1, (mxN (fun k => litF r us (tlN (tilesL r) k) n) ((tilesL r).length - 1)).2) := by simp [brP, hv]
    unfold brV
    rw [emv, hc]
    have cc := tiles_cv r n cap f hz hcap; (first | refine callR (by rfl) (by rfl) (by rfl) cc ?_ | refine callM (by rfl) (by rfl) (by rfl) cc ?_ | refine callMo (by rfl) (by rfl) (by rfl) cc ?_ | refine callG (by rfl) (by rfl) (by rfl) cc ?_ | refine callW (by rfl) (by first | rfl | (simp [ofL, kpB, kpR, ofB, isOwnB, isDead, inL, hget]; done)) (by rfl) (by rfl) cc ?_); clear cc; rintro _ _ ⟨cap', g, hg, hcap', rfl, rfl⟩
    simp (config := { maxSteps := 1000000 }) (disch := omega) only [go_sem, Int.reduceToNat, ↓reduceIte, Nat.reduceLT, Nat.reduceEqDiff, Nat.reduceAdd, Nat.reduceMul, Nat.reduceSub, Nat.reduceBEq, Nat.reduceLeDiff, reduceCtorEq, Nat.reduceLT, ↓Br_true, ↓Br_false, bind, pure, sc13, sb13]
    generalize tilesL r = L at *
    have cg := greatest_cv r us L n cap L.length cap' f g H hz hw rfl hg hcap' tin hle.1 hle.2
    have hb := mxN_le (fun k => litF r us (tlN L k) n) (L.length - 1)
    generalize mxN (fun k => litF r us (tlN L k) n) (L.length - 1) = q at *
    have e1 := hg q.1 (by omega)
    (have cc := cg; (first | ((first | refine callR (by rfl) (by rfl) (by rfl) cc ?_ | refine callM (by rfl) (by rfl) (by rfl) cc ?_ | refine callMo (by rfl) (by rfl) (by rfl) cc ?_); clear cc; rintro _ _ ⟨rfl, rfl⟩) | (refine callE (by rfl) cc (by rfl) ?_; clear cc)))
    simp (config := { maxSteps := 1000000 }) (disch := omega) only [go_sem, Int.reduceToNat, ↓reduceIte, Nat.reduceLT, Nat.reduceEqDiff, Nat.reduceAdd, Nat.reduceMul, Nat.reduceSub, Nat.reduceBEq, Nat.reduceLeDiff, reduceCtorEq, Nat.reduceLT, ↓Br_true, ↓Br_false, bind, pure, sc13, sb13, e1]
    repeat' (first | (with_reducible refine And.intro (by first | (unfold SOk; kernel_rfl) | (unfold SBOk; kernel_rfl) | (with_reducible assumption) | omega | assumption) ?_) | (with_reducible refine Br_intro (fun hc => ?_) (fun hc => ?_)) | ((with_reducible show WidN _ _ _ _ _ _ _ _); (first | refine widL (by decide) (by with_reducible assumption) ?_ | refine widL (by decide) (FWok_nn (by with_reducible assumption)) ?_ | refine widN (by decide) (fun c hc => ?_)); simp (config := { maxSteps := 1000000 }) (disch := omega) only [go_sem, Int.reduceToNat, ↓reduceIte, Nat.reduceLT, Nat.reduceEqDiff, Nat.reduceAdd, Nat.reduceMul, Nat.reduceSub, Nat.reduceBEq, Nat.reduceLeDiff, reduceCtorEq, Nat.reduceLT, ↓Br_true, ↓Br_false, bind, pure, sc13, sb13, e1]))
    all_goals omega
theorem sBrightest_cv (r : Rom) (us : Nat → Win) (n cap : Nat) (f : Nat → List FV) (H : RomH r us n cap f) :
    CV Tryz.prog 14 [romV r n cap] [.rows n cap 3 f false] (fun v h => v = brV r us n ∧ h = [.rows n cap 3 f false]) := by
  have hcap := H.hcap
  refine cv_of_run 1000 sc14 sb14 40 [.cell 2 41, .tmp 3, .tmp 4] tabOk (by kernel_rfl) Tryz.func14 rfl (by kernel_rfl) Tryz.ntmps14 rfl (by simp) rfl (by simp [bdL, SV.bd]) ?_
  simp (config := { maxSteps := 1000000 }) (disch := omega) only [go_sem, Int.reduceToNat, ↓reduceIte, Nat.reduceLT, Nat.reduceEqDiff, Nat.reduceAdd, Nat.reduceMul, Nat.reduceSub, Nat.reduceBEq, Nat.reduceLeDiff, reduceCtorEq, Nat.reduceLT, ↓Br_true, ↓Br_false, bind, pure, sc14, sb14]
  repeat' (first | (with_reducible refine And.intro (by first | (unfold SOk; kernel_rfl) | (unfold SBOk; kernel_rfl) | (with_reducible assumption) | omega | assumption) ?_) | (with_reducible refine Br_intro (fun hc => ?_) (fun hc => ?_)) | ((have cc := l03Ok_cv r us n cap f H; (first | ((first | refine callR (by rfl) (by rfl) (by rfl) cc ?_ | refine callM (by rfl) (by rfl) (by rfl) cc ?_ | refine callMo (by rfl) (by rfl) (by rfl) cc ?_); clear cc; rintro _ _ ⟨rfl, rfl⟩) | (refine callE (by rfl) cc (by rfl) ?_; clear cc))); simp (config := { maxSteps := 1000000 }) (disch := omega) only [go_sem, Int.reduceToNat, ↓reduceIte, Nat.reduceLT, Nat.reduceEqDiff, Nat.reduceAdd, Nat.reduceMul, Nat.reduceSub, Nat.reduceBEq, Nat.reduceLeDiff, reduceCtorEq, Nat.reduceLT, ↓Br_true, ↓Br_false, bind, pure, sc14, sb14]) | ((with_reducible show WidN _ _ _ _ _ _ _ _); (first | refine widL (by decide) (by with_reducible assumption) ?_ | refine widL (by decide) (FWok_nn (by with_reducible assumption)) ?_ | refine widN (by decide) (fun c hc => ?_)); simp (config := { maxSteps := 1000000 }) (disch := omega) only [go_sem, Int.reduceToNat, ↓reduceIte, Nat.reduceLT, Nat.reduceEqDiff, Nat.reduceAdd, Nat.reduceMul, Nat.reduceSub, Nat.reduceBEq, Nat.reduceLeDiff, reduceCtorEq, Nat.reduceLT, ↓Br_true, ↓Br_false, bind, pure, sc14, sb14]))
  · simp only [Bool.not_eq_true'] at hc
    simp [brV, brP, askC, hc]
  · simp only [Bool.not_eq_false'] at hc
    have hc : askC (vRoom r us n) true = 0 := by simp [askC, hc]
    obtain ⟨hz, h12, hw, _⟩ := room_asked hc
    have hv := (askC_zero hc).1
    have hle := tilesL_le hz
    have tin := fun k hk => tl_in hz (k := k) hk
    have emv : brP r us n = (tlN (tilesL r) (mxN (fun k => litF r us (tlN (tilesL r) k) n) ((tilesL r).length - 1)).1, (mxN (fun k => litF r us (tlN (tilesL r) k) n) ((tilesL r).length - 1)).2) := by simp [brP, hv]
    unfold brV
    rw [emv, hc]
    have cc := l03Tiles_cv r n cap f hz hcap; (first | refine callR (by rfl) (by rfl) (by rfl) cc ?_ | refine callM (by rfl) (by rfl) (by rfl) cc ?_ | refine callMo (by rfl) (by rfl) (by rfl) cc ?_ | refine callG (by rfl) (by rfl) (by rfl) cc ?_ | refine callW (by rfl) (by first | rfl | (simp [ofL, kpB, kpR, ofB, isOwnB, isDead, inL, hget]; done)) (by rfl) (by rfl) cc ?_); clear cc; rintro _ _ ⟨cap', g, hg, hcap', rfl, rfl⟩
    simp (config := { maxSteps := 1000000 }) (disch := omega) only [go_sem, Int.reduceToNat, ↓reduceIte, Nat.reduceLT, Nat.reduceEqDiff, Nat.reduceAdd, Nat.reduceMul, Nat.reduceSub, Nat.reduceBEq, Nat.reduceLeDiff, reduceCtorEq, Nat.reduceLT, ↓Br_true, ↓Br_false, bind, pure, sc14, sb14, hg 0 (by omega)]
    generalize tilesL r = L at *
    have e1 := hg 0 (by omega)
    repeat' (first | (with_reducible refine And.intro (by first | (unfold SOk; kernel_rfl) | (unfold SBOk; kernel_rfl) | (with_reducible assumption) | omega | assumption) ?_) | (with_reducible refine Br_intro (fun hc => ?_) (fun hc => ?_)) | ((have cc := l03Light_cv r us (tlN L 0) n cap f H.hf hcap H.hn hz hw (tin 0 (by omega)); (first | ((first | refine callR (by rfl) (by rfl) (by rfl) cc ?_ | refine callM (by rfl) (by rfl) (by rfl) cc ?_ | refine callMo (by rfl) (by rfl) (by rfl) cc ?_); clear cc; rintro _ _ ⟨rfl, rfl⟩) | (refine callE (by rfl) cc (by rfl) ?_; clear cc))); simp (config := { maxSteps := 1000000 }) (disch := omega) only [go_sem, Int.reduceToNat, ↓reduceIte, Nat.reduceLT, Nat.reduceEqDiff, Nat.reduceAdd, Nat.reduceMul, Nat.reduceSub, Nat.reduceBEq, Nat.reduceLeDiff, reduceCtorEq, Nat.reduceLT, ↓Br_true, ↓Br_false, bind, pure, sc14, sb14, e1]) | ((with_reducible show WidN _ _ _ _ _ _ _ _); (first | refine widL (by decide) (by with_reducible assumption) ?_ | refine widL (by decide) (FWok_nn (by with_reducible assumption)) ?_ | refine widN (by decide) (fun c hc => ?_)); simp (config := { maxSteps := 1000000 }) (disch := omega) only [go_sem, Int.reduceToNat, ↓reduceIte, Nat.reduceLT, Nat.reduceEqDiff, Nat.reduceAdd, Nat.reduceMul, Nat.reduceSub, Nat.reduceBEq, Nat.reduceLeDiff, reduceCtorEq, Nat.reduceLT, ↓Br_true, ↓Br_false, bind, pure, sc14, sb14, e1]))
    have hV : ∃ V : Nat → Nat, V = fun k => litF r us (tlN L k) n := ⟨_, rfl⟩
    obtain ⟨V, hV⟩ := hV
    have hv : ∀ k, litF r us (tlN L k) n = V k := fun t => by rw [hV]
    simp only [← hV]
    have e0 : mxN V 0 = (0, V 0) := rfl
    have ca := fun k hk => l03Light_cv r us (tlN L k) n cap f H.hf hcap H.hn hz hw (tin k hk)
    simp only [hv] at ca ⊢
    refine ⟨Nat, fun k => k + 1 ≤ L.length, fun k => L.length - k, fun k => [(1, .ptr 1 0 0), (2, .ptr 2 0 0), (3, .f (.flt .f32 0)), (4, .f (.int .i64 0)), (5, .slc 3 0 L.length cap'), (6, .ptr 4 0 0), (7, .f (.flt .f32 (mxN V k).2)), (8, .f (.int .i64 ((k + 1 : Nat) : Int)))], fun k => [.rows n cap 3 f false, .lit [.f (.int .i8 r.wi), .f (.int .i8 r.hi), .slc 0 0 n cap] true, .lit [.f (.int .i8 0), .f (.int .i8 0)] true, .rows L.length cap' 2 g true, .lit [.f (.int .i8 (tlN L (mxN V k).1).1), .f (.int .i8 (tlN L (mxN V k).1).2)] true], 0, (by intro _; simp), ?_, (by (try refine Or.inl ?_); simp [Cov, covE, covH, cb_dead, cb_lit, cb_rows, cb_cells, cd_lit, cd_rows, cd_cells, cd_dead, covRow, look, SV.known, SV.bd, bdL, e0] <;> omega), ?_⟩
    · omega
    · intro k hk
      by_cases hlt : k + 1 < L.length
      · have hd : decide (((k + 1 : Nat) : Int) < L.length) = true := decide_eq_true (by omega)
        have e1 := hg (k + 1) hlt
        simp (config := { maxSteps := 1000000 }) (disch := omega) only [go_sem, Int.reduceToNat, ↓reduceIte, Nat.reduceLT, Nat.reduceEqDiff, Nat.reduceAdd, Nat.reduceMul, Nat.reduceSub, Nat.reduceBEq, Nat.reduceLeDiff, reduceCtorEq, Nat.reduceLT, ↓Br_true, ↓Br_false, bind, pure, sc14, sb14, hd, e1]
        repeat' (first | (with_reducible refine And.intro (by first | (unfold SOk; kernel_rfl) | (unfold SBOk; kernel_rfl) | (with_reducible assumption) | omega | assumption) ?_) | (with_reducible refine Br_intro (fun hc => ?_) (fun hc => ?_)) | ((have cc := ca (k + 1) hlt; (first | ((first | refine callR (by rfl) (by rfl) (by rfl) cc ?_ | refine callM (by rfl) (by rfl) (by rfl) cc ?_ | refine callMo (by rfl) (by rfl) (by rfl) cc ?_); clear cc; rintro _ _ ⟨rfl, rfl⟩) | (refine callE (by rfl) cc (by rfl) ?_; clear cc))); simp (config := { maxSteps := 1000000 }) (disch := omega) only [go_sem, Int.reduceToNat, ↓reduceIte, Nat.reduceLT, Nat.reduceEqDiff, Nat.reduceAdd, Nat.reduceMul, Nat.reduceSub, Nat.reduceBEq, Nat.reduceLeDiff, reduceCtorEq, Nat.reduceLT, ↓Br_true, ↓Br_false, bind, pure, sc14, sb14, hd, e1]) | ((with_reducible show WidN _ _ _ _ _ _ _ _); (first | refine widL (by decide) (by with_reducible assumption) ?_ | refine widL (by decide) (FWok_nn (by with_reducible assumption)) ?_ | refine widN (by decide) (fun c hc => ?_)); simp (config := { maxSteps := 1000000 }) (disch := omega) only [go_sem, Int.reduceToNat, ↓reduceIte, Nat.reduceLT, Nat.reduceEqDiff, Nat.reduceAdd, Nat.reduceMul, Nat.reduceSub, Nat.reduceBEq, Nat.reduceLeDiff, reduceCtorEq, Nat.reduceLT, ↓Br_true, ↓Br_false, bind, pure, sc14, sb14, hd, e1]))
        · have e : mxN V (k + 1) = (k + 1, V (k + 1)) := by rw [mxN, if_pos (by assumption)]
          exact ⟨k + 1, by omega, by omega, by (try refine Or.inl ?_); simp [Cov, covE, covH, cb_dead, cb_lit, cb_rows, cb_cells, cd_lit, cd_rows, cd_cells, cd_dead, covRow, look, SV.known, SV.bd, bdL, e] <;> omega⟩
        · have e : mxN V (k + 1) = mxN V k := by rw [mxN, if_neg (by rw [hc]; simp)]
          exact ⟨k + 1, by omega, by omega, by (try refine Or.inl ?_); simp [Cov, covE, covH, cb_dead, cb_lit, cb_rows, cb_cells, cd_lit, cd_rows, cd_cells, cd_dead, covRow, look, SV.known, SV.bd, bdL, e] <;> omega⟩
      · have hd : decide (((k + 1 : Nat) : Int) < L.length) = false := decide_eq_false (by omega)
        simp (config := { maxSteps := 1000000 }) (disch := omega) only [go_sem, Int.reduceToNat, ↓reduceIte, Nat.reduceLT, Nat.reduceEqDiff, Nat.reduceAdd, Nat.reduceMul, Nat.reduceSub, Nat.reduceBEq, Nat.reduceLeDiff, reduceCtorEq, Nat.reduceLT, ↓Br_true, ↓Br_false, bind, pure, sc14, sb14, hd]
        have hL : L.length - 1 = k := by omega
        rw [hL]
theorem brP_nn (r : Rom) (us : Nat → Win) (n : Nat) : nn (brP r us n).2 := by
  unfold brP
  split
  · rename_i h
    obtain ⟨hz, h12, hw⟩ := vRoom_at h
    have hl := tilesL_le hz
    have hb := mxN_le (fun k => litF r us (tlN (tilesL r) k) n) ((tilesL r).length - 1)
    simp only [mxN_eq]
    exact (litF_P0 hz hw (tl_in hz (by omega)) n (Nat.le_refl n)).1
  · decide
end Go.Proofs.YtjhddlkfkicpaaaGreatDoor.Vx
