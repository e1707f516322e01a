/- The law on tiles, in the abstract (all arguments). -/
import Derived.Test.YtjhddlkfkicpaaaGreatDoorUc
namespace Go.Proofs.YtjhddlkfkicpaaaGreatDoor.Vx
open Go Go.RowKit Fl
set_option maxRecDepth 100000
set_option maxHeartbeats 16000000
set_option linter.unusedSimpArgs false
set_option linter.unusedVariables false

theorem tilesbig1_cv (n cap : Nat) (f : Nat → List FV) (hcap : n ≤ cap) (n2 cap2 : Nat) (f2 : Nat → List FV) (hcap2 : n2 ≤ cap2) (hn : ¬ n ≤ 4096) :
    CV Tryz.prog 3 [.slc 0 0 n cap, .slc 1 0 n2 cap2] [.rows n cap 1 f false, .rows n2 cap2 1 f2 false] (fun v h => v = .f (.bool true) ∧ h = [.rows n cap 1 f false, .rows n2 cap2 1 f2 false]) := by
  have hd1 : decide ((4096 : Int) < n) = true := decide_eq_true (by omega)
  refine cv_of_run 6000 sc3 sb3 483 [.tmp 4] tabOk (by kernel_rfl) Tryz.func3 rfl (by kernel_rfl) Tryz.ntmps3 rfl (by simp) rfl (by simp [bdL, SV.bd]) ?_
  simp (config := { maxSteps := 1000000 }) (disch := omega) only [go_sem, Int.reduceToNat, ↓reduceIte, Nat.reduceLT, Nat.reduceEqDiff, Nat.reduceAdd, Nat.reduceMul, Nat.reduceSub, Nat.reduceBEq, Nat.reduceLeDiff, reduceCtorEq, Nat.reduceLT, ↓Br_true, ↓Br_false, bind, pure, sc3, sb3]
  repeat' (first | (with_reducible refine And.intro (by first | (unfold SOk; kernel_rfl) | (unfold SBOk; kernel_rfl) | (with_reducible assumption) | omega | assumption) ?_) | (with_reducible refine Br_intro (fun hc => ?_) (fun hc => ?_)) | ((have cc := tbig_cv n cap f hcap; (first | ((first | refine callR (by rfl) (by rfl) (by rfl) cc ?_ | refine callM (by rfl) (by rfl) (by rfl) cc ?_ | refine callMo (by rfl) (by rfl) (by rfl) cc ?_); clear cc; rintro _ _ ⟨rfl, rfl⟩) | (refine callE (by rfl) cc (by rfl) ?_; clear cc))); simp (config := { maxSteps := 1000000 }) (disch := omega) only [go_sem, Int.reduceToNat, ↓reduceIte, Nat.reduceLT, Nat.reduceEqDiff, Nat.reduceAdd, Nat.reduceMul, Nat.reduceSub, Nat.reduceBEq, Nat.reduceLeDiff, reduceCtorEq, Nat.reduceLT, ↓Br_true, ↓Br_false, bind, pure, sc3, sb3, hd1]) | ((with_reducible show WidN _ _ _ _ _ _ _ _); (first | refine widL (by decide) (by with_reducible assumption) ?_ | refine widL (by decide) (FWok_nn (by with_reducible assumption)) ?_ | refine widN (by decide) (fun c hc => ?_)); simp (config := { maxSteps := 1000000 }) (disch := omega) only [go_sem, Int.reduceToNat, ↓reduceIte, Nat.reduceLT, Nat.reduceEqDiff, Nat.reduceAdd, Nat.reduceMul, Nat.reduceSub, Nat.reduceBEq, Nat.reduceLeDiff, reduceCtorEq, Nat.reduceLT, ↓Br_true, ↓Br_false, bind, pure, sc3, sb3, hd1]))
theorem tilesbig2_cv (n cap : Nat) (f : Nat → List FV) (hcap : n ≤ cap) (n2 cap2 : Nat) (f2 : Nat → List FV) (hcap2 : n2 ≤ cap2) (h1 : n ≤ 4096) (hn : ¬ n2 ≤ 4096) :
    CV Tryz.prog 3 [.slc 0 0 n cap, .slc 1 0 n2 cap2] [.rows n cap 1 f false, .rows n2 cap2 1 f2 false] (fun v h => v = .f (.bool true) ∧ h = [.rows n cap 1 f false, .rows n2 cap2 1 f2 false]) := by
  have hd1 : decide ((4096 : Int) < n) = false := decide_eq_false (by omega)
  have hd2 : decide ((4096 : Int) < n2) = true := decide_eq_true (by omega)
  refine cv_of_run 6000 sc3 sb3 483 [.tmp 4] tabOk (by kernel_rfl) Tryz.func3 rfl (by kernel_rfl) Tryz.ntmps3 rfl (by simp) rfl (by simp [bdL, SV.bd]) ?_
  simp (config := { maxSteps := 1000000 }) (disch := omega) only [go_sem, Int.reduceToNat, ↓reduceIte, Nat.reduceLT, Nat.reduceEqDiff, Nat.reduceAdd, Nat.reduceMul, Nat.reduceSub, Nat.reduceBEq, Nat.reduceLeDiff, reduceCtorEq, Nat.reduceLT, ↓Br_true, ↓Br_false, bind, pure, sc3, sb3]
  repeat' (first | (with_reducible refine And.intro (by first | (unfold SOk; kernel_rfl) | (unfold SBOk; kernel_rfl) | (with_reducible assumption) | omega | assumption) ?_) | (with_reducible refine Br_intro (fun hc => ?_) (fun hc => ?_)) | ((have cc := tbig_cv n cap f hcap; (first | ((first | refine callR (by rfl) (by rfl) (by rfl) cc ?_ | refine callM (by rfl) (by rfl) (by rfl) cc ?_ | refine callMo (by rfl) (by rfl) (by rfl) cc ?_); clear cc; rintro _ _ ⟨rfl, rfl⟩) | (refine callE (by rfl) cc (by rfl) ?_; clear cc))); simp (config := { maxSteps := 1000000 }) (disch := omega) only [go_sem, Int.reduceToNat, ↓reduceIte, Nat.reduceLT, Nat.reduceEqDiff, Nat.reduceAdd, Nat.reduceMul, Nat.reduceSub, Nat.reduceBEq, Nat.reduceLeDiff, reduceCtorEq, Nat.reduceLT, ↓Br_true, ↓Br_false, bind, pure, sc3, sb3, hd1, hd2]) | ((have cc := tbig_cv n2 cap2 f2 hcap2; (first | ((first | refine callR (by rfl) (by rfl) (by rfl) cc ?_ | refine callM (by rfl) (by rfl) (by rfl) cc ?_ | refine callMo (by rfl) (by rfl) (by rfl) cc ?_); clear cc; rintro _ _ ⟨rfl, rfl⟩) | (refine callE (by rfl) cc (by rfl) ?_; clear cc))); simp (config := { maxSteps := 1000000 }) (disch := omega) only [go_sem, Int.reduceToNat, ↓reduceIte, Nat.reduceLT, Nat.reduceEqDiff, Nat.reduceAdd, Nat.reduceMul, Nat.reduceSub, Nat.reduceBEq, Nat.reduceLeDiff, reduceCtorEq, Nat.reduceLT, ↓Br_true, ↓Br_false, bind, pure, sc3, sb3, hd1, hd2]) | ((with_reducible show WidN _ _ _ _ _ _ _ _); (first | refine widL (by decide) (by with_reducible assumption) ?_ | refine widL (by decide) (FWok_nn (by with_reducible assumption)) ?_ | refine widN (by decide) (fun c hc => ?_)); simp (config := { maxSteps := 1000000 }) (disch := omega) only [go_sem, Int.reduceToNat, ↓reduceIte, Nat.reduceLT, Nat.reduceEqDiff, Nat.reduceAdd, Nat.reduceMul, Nat.reduceSub, Nat.reduceBEq, Nat.reduceLeDiff, reduceCtorEq, Nat.reduceLT, ↓Br_true, ↓Br_false, bind, pure, sc3, sb3, hd1, hd2]))
theorem FnTiles_c (v : Value) (n cap : Nat) (f : Nat → List FV) (v2 : Value) (n2 cap2 : Nat) (f2 : Nat → List FV) (W : World) (hg : Gl W) (hs : SlcArg W v n cap 1 f) (hk : ∀ i, i < n → RowK [.i .u8] (f i)) (hs2 : SlcArg W v2 n2 cap2 1 f2) (hk2 : ∀ i, i < n2 → RowK [.i .u8] (f2 i)) :
    Calls Tryz.prog 3 #[v, v2] W fun e w' => e = .returned (.bool true) ∧ Below W.heap.size W w' := by
  have hB := bytes_at hk
  have hB2 := bytes_at hk2
  obtain ⟨β, rfl, rfl, H, c1, c2⟩ := holdsN hs hs2 hg
  by_cases q1 : n ≤ 4096
  · by_cases q2 : n2 ≤ 4096
    · have := (tiles_law n cap f hB c1 q1 n2 cap2 f2 hB2 c2 q2).lawH H (fun l => by rcases l with _ | _ | l <;> rfl)
      simpa [denL, den, FV.val] using this
    · have := (tilesbig2_cv n cap f c1 n2 cap2 f2 c2 q1 q2).lawH H (fun l => by rcases l with _ | _ | l <;> rfl)
      simpa [denL, den, FV.val] using this
  · have := (tilesbig1_cv n cap f c1 n2 cap2 f2 c2 q1).lawH H (fun l => by rcases l with _ | _ | l <;> rfl)
    simpa [denL, den, FV.val] using this
end Go.Proofs.YtjhddlkfkicpaaaGreatDoor.Vx
