/- Rooms, in the abstract: rooms whose windows are changed; the mirrored room. -/
import Derived.Test.YtgepaaakleomeacRy
namespace Go.Proofs.Ytgepaaakleomeac.Vx
open Go Go.RowKit Fl
set_option maxRecDepth 100000
set_option maxHeartbeats 2000000
set_option linter.unusedSimpArgs false
set_option linter.unusedVariables false

/-- What has been appended: nil at first. -/
def chW (l k cap : Nat) : SV := match k with
  | 0 => .f .nils
  | k + 1 => .slc l 0 (k + 1) cap
def chB (k cap : Nat) (g : Nat → List FV) : List Blk := match k with
  | 0 => []
  | k + 1 => [.rows (k + 1) cap 3 g true]
theorem chW_z (l cap : Nat) : chW l 0 cap = .f .nils := rfl
theorem chW_s (l k cap : Nat) : chW l (k + 1) cap = .slc l 0 (k + 1) cap := rfl
theorem chB_z (cap : Nat) (g : Nat → List FV) : chB 0 cap g = [] := rfl
theorem chB_s (k cap : Nat) (g : Nat → List FV) : chB (k + 1) cap g = [.rows (k + 1) cap 3 g true] := rfl
theorem push_rows {us : Nat → Win} {g : Nat → List FV} {k : Nat} (h : ∀ i, i < k → g i = (us i).fv) {u : Win} (hu : us k = u) : ∀ i, i < k + 1 → catR g k (shR (nthR [u.fv]) 0) i = (us i).fv := fun i hi => by
  unfold catR
  by_cases c : i < k
  · rw [if_pos c, h i c]
  · obtain rfl : i = k := by omega
    rw [if_neg c, hu]
    simp [shR, nthR]
theorem one_row {us : Nat → Win} {u : Win} (hu : us 0 = u) : ∀ i, i < 0 + 1 → shR (nthR [u.fv]) 0 i = (us i).fv := fun i hi => by
  obtain rfl : i = 0 := by omega
  rw [hu]
  simp [shR, nthR]
theorem own_step {us vs : Nat → Win} {g : Nat → List FV} {k n : Nat} (hg1 : ∀ i, i < k → g i = (vs i).fv) (hg2 : ∀ i, k ≤ i → i < n → g i = (us i).fv) {row : List FV} (hr : row = (vs k).fv) :
    (∀ i, i < k + 1 → updW g k row i = (vs i).fv) ∧ ∀ i, k + 1 ≤ i → i < n → updW g k row i = (us i).fv := by
  refine ⟨fun i hi => ?_, fun i h1 h2 => ?_⟩
  · simp only [updW]
    by_cases c : i = k
    · subst c; rw [if_pos rfl]; exact hr
    · rw [if_neg c]; exact hg1 i (by omega)
  · simp only [updW]
    rw [if_neg (by omega)]; exact hg2 i (by omega) h2
def mirW (r : Rom) (u : Win) : Win := if u.w = 1 then ⟨3, u.a, u.l⟩ else if u.w = 3 then ⟨1, u.a, u.l⟩ else ⟨u.w, r.wi - 1 - u.a, u.l⟩
theorem l03Own_cv (r : Rom) (us : Nat → Win) (n cap : Nat) (f : Nat → List FV) (H : RomH r us n cap f) (h12 : n ≤ 12) :
    CV Try.prog 23 [.ptr 0 0 0] [romB r n cap false, .rows n cap 3 f false] (fun v h => ∃ cap' g, (∀ i, i < n → g i = (us i).fv) ∧ n ≤ cap' ∧ v = .agg [.f (.int .i8 r.wi), .f (.int .i8 r.hi), .slc 2 0 n cap'] ∧ h = [romB r n cap false, .rows n cap 3 f false, .rows n cap' 3 g true]) := by
  obtain ⟨hf, hcap, hn, _, _, hs⟩ := H
  rcases n with _ | n
  · refine cv_of_run 1000 sc23 sb23 18 [.cell 2 33] tabOk (by kernel_rfl) Try.func23 rfl (by kernel_rfl) Try.ntmps23 rfl (by simp) rfl (by simp [bdL, SV.bd]) ?_
    simp (config := { maxSteps := 1000000 }) (disch := omega) only [go_sem, Int.reduceToNat, ↓reduceIte, Nat.reduceLT, Nat.reduceEqDiff, Nat.reduceAdd, Nat.reduceMul, Nat.reduceSub, Nat.reduceBEq, Nat.reduceLeDiff, reduceCtorEq, Nat.reduceLT, ↓Br_true, ↓Br_false, bind, pure, sc23, sb23]
    repeat (with_reducible refine And.intro (by first | omega | assumption | (unfold SOk; kernel_rfl) | (unfold SBOk; kernel_rfl)) ?_)
    exact Or.inr ⟨0, noRow, fun i hi => by omega, Nat.le_refl 0, rfl, rfl⟩
  · refine cv_of_run 1000 sc23 sb23 18 [.cell 2 33] tabOk (by kernel_rfl) Try.func23 rfl (by kernel_rfl) Try.ntmps23 rfl (by simp) rfl (by simp [bdL, SV.bd]) ?_
    simp (config := { maxSteps := 1000000 }) (disch := omega) only [go_sem, Int.reduceToNat, ↓reduceIte, Nat.reduceLT, Nat.reduceEqDiff, Nat.reduceAdd, Nat.reduceMul, Nat.reduceSub, Nat.reduceBEq, Nat.reduceLeDiff, reduceCtorEq, Nat.reduceLT, ↓Br_true, ↓Br_false, bind, pure, sc23, sb23]
    repeat (with_reducible refine And.intro (by first | omega | assumption | (unfold SOk; kernel_rfl) | (unfold SBOk; kernel_rfl)) ?_)
    exact Or.inl ⟨by omega, fun cap' h => ⟨cap', catR noRow 0 (shR f 0), fun i hi => by simpa [catR, shR] using hf i hi, h, rfl, rfl⟩⟩
end Go.Proofs.Ytgepaaakleomeac.Vx
