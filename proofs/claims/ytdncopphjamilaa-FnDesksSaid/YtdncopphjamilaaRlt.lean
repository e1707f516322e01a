/- Rooms, in the abstract: lit tiles. -/
import Derived.Test.YtdncopphjamilaaRt
import Derived.Test.YtdncopphjamilaaRy
namespace Go.Proofs.Ytdncopphjamilaa.Vx
open Go Go.RowKit Fl
set_option maxRecDepth 100000
set_option maxHeartbeats 2000000
set_option linter.unusedSimpArgs false
set_option linter.unusedVariables false

theorem l03NotNan_cv (a : Nat) : CV Try.prog 89 [.f (.flt .f32 a)] [] (fun v h => v = .f (.bool (feq a a)) ∧ h = []) := by
  refine cv_of_run 1000 sc89 sb89 6 [.tmp 2] tabOk (by kernel_rfl) Try.func89 rfl (by kernel_rfl) Try.ntmps89 rfl (by simp) rfl (by simp [bdL, SV.bd]) ?_
  simp (config := { maxSteps := 1000000 }) (disch := omega) only [go_sem, Int.reduceToNat, ↓reduceIte, Nat.reduceLT, Nat.reduceEqDiff, Nat.reduceAdd, Nat.reduceMul, Nat.reduceSub, Nat.reduceBEq, Nat.reduceLeDiff, reduceCtorEq, Nat.reduceLT, ↓Br_true, ↓Br_false, bind, pure, sc89, sb89]
def ltI (r : Rom) (us : Nat → Win) (n least : Nat) : Nat → Nat → Int
  | 0 => fun _ => 0
  | k + 1 => fun j => if fle least (litF r us (tlN (tilesL r) k) n) then (if j = (tlN (tilesL r) k).2.toNat then bitI .or .u16 (ltI r us n least k j) (shlI .u16 1 (tlN (tilesL r) k).1) else ltI r us n least k j) else ltI r us n least k j
def ltV (r : Rom) (us : Nat → Win) (n least : Nat) : Nat → Int := if askC (vRoom r us n) (feq least least) = 0 then ltI r us n least (tilesL r).length else fun _ => 0
end Go.Proofs.Ytdncopphjamilaa.Vx
