/- The law on the awning that is read. -/
import Derived.Test.YtpcnpmhpelbndaaDoorTv
namespace Go.Proofs.YtpcnpmhpelbndaaDoor.Vx
open Go Go.RowKit Fl Hex16
set_option maxRecDepth 100000
set_option maxHeartbeats 4000000
set_option linter.unusedSimpArgs false
set_option linter.unusedVariables false
/-- The four numbers that are read. -/
def rdN (t : List UInt8) (k : Nat) : Nat := if rdOk t then gd t k else 0
def rdC (t : List UInt8) : Int := if rdOk t then 0 else 5
theorem rdV_eq (t : List UInt8) : rdV t = .tup [tawnV (rdN t 0) (rdN t 1) (rdN t 2) (rdN t 3), .f (.int .i64 (rdC t))] := by
  unfold rdV rdN rdC
  cases rdOk t <;> rfl
theorem FnExactReadAwning_cv (t : List UInt8) :
    CV Tryd.prog 6 [.f (.str (bs t))] [] (fun v h => v = .f (.bool true) ∧ h = []) := by
  by_cases ht : t.length ≤ 1048576
  · have hl : decide ((1048576 : Int) < t.length) = false := decide_eq_false (by omega)
    have c1 := sReadAwning_cv t ht
    have c2 := ReadAwning_cv t ht
    rw [rdV_eq] at c1 c2
    have c3 := eqAwning_cv (rdN t 0) (rdN t 1) (rdN t 2) (rdN t 3)
    generalize rdN t 0 = a at *
    generalize rdN t 1 = b at *
    generalize rdN t 2 = c at *
    generalize rdN t 3 = d at *
    generalize rdC t = q at *
    refine cv_of_run 1000 sc6 sb6 29 [.tmp 2] tabOk (by kernel_rfl) Tryd.func6 rfl (by kernel_rfl) Tryd.ntmps6 rfl (by simp) rfl (by simp [bdL, SV.bd]) ?_
    simp (config := { maxSteps := 1000000 }) (disch := omega) only [go_sem, Int.reduceToNat, ↓reduceIte, Nat.reduceLT, Nat.reduceEqDiff, Nat.reduceAdd, Nat.reduceMul, Nat.reduceSub, Nat.reduceBEq, Nat.reduceLeDiff, reduceCtorEq, Nat.reduceLT, ↓Br_true, ↓Br_false, bind, pure, sc6, sb6, hl]
    repeat' (first | (with_reducible refine And.intro (by first | (unfold SOk; kernel_rfl) | (unfold SBOk; kernel_rfl) | (with_reducible assumption) | omega | assumption) ?_) | (with_reducible refine Br_intro (fun hc => ?_) (fun hc => ?_)) | ((have cc := c1; (first | ((first | refine callR (by rfl) (by rfl) (by rfl) cc ?_ | refine callM (by rfl) (by rfl) (by rfl) cc ?_ | refine callMo (by rfl) (by rfl) (by rfl) cc ?_); clear cc; rintro _ _ ⟨rfl, rfl⟩) | (refine callE (by rfl) cc (by rfl) ?_; clear cc))); simp (config := { maxSteps := 1000000 }) (disch := omega) only [go_sem, Int.reduceToNat, ↓reduceIte, Nat.reduceLT, Nat.reduceEqDiff, Nat.reduceAdd, Nat.reduceMul, Nat.reduceSub, Nat.reduceBEq, Nat.reduceLeDiff, reduceCtorEq, Nat.reduceLT, ↓Br_true, ↓Br_false, bind, pure, sc6, sb6, hl]) | ((have cc := c2; (first | ((first | refine callR (by rfl) (by rfl) (by rfl) cc ?_ | refine callM (by rfl) (by rfl) (by rfl) cc ?_ | refine callMo (by rfl) (by rfl) (by rfl) cc ?_); clear cc; rintro _ _ ⟨rfl, rfl⟩) | (refine callE (by rfl) cc (by rfl) ?_; clear cc))); simp (config := { maxSteps := 1000000 }) (disch := omega) only [go_sem, Int.reduceToNat, ↓reduceIte, Nat.reduceLT, Nat.reduceEqDiff, Nat.reduceAdd, Nat.reduceMul, Nat.reduceSub, Nat.reduceBEq, Nat.reduceLeDiff, reduceCtorEq, Nat.reduceLT, ↓Br_true, ↓Br_false, bind, pure, sc6, sb6, hl]) | ((have cc := c3; (first | ((first | refine callR (by rfl) (by rfl) (by rfl) cc ?_ | refine callM (by rfl) (by rfl) (by rfl) cc ?_ | refine callMo (by rfl) (by rfl) (by rfl) cc ?_); clear cc; rintro _ _ ⟨rfl, rfl⟩) | (refine callE (by rfl) cc (by rfl) ?_; clear cc))); simp (config := { maxSteps := 1000000 }) (disch := omega) only [go_sem, Int.reduceToNat, ↓reduceIte, Nat.reduceLT, Nat.reduceEqDiff, Nat.reduceAdd, Nat.reduceMul, Nat.reduceSub, Nat.reduceBEq, Nat.reduceLeDiff, reduceCtorEq, Nat.reduceLT, ↓Br_true, ↓Br_false, bind, pure, sc6, sb6, hl]) | ((with_reducible show WidN _ _ _ _ _ _ _ _); (first | refine widL (by decide) (by with_reducible assumption) ?_ | refine widL (by decide) (FWok_nn (by with_reducible assumption)) ?_ | refine widN (by decide) (fun c hc => ?_)); simp (config := { maxSteps := 1000000 }) (disch := omega) only [go_sem, Int.reduceToNat, ↓reduceIte, Nat.reduceLT, Nat.reduceEqDiff, Nat.reduceAdd, Nat.reduceMul, Nat.reduceSub, Nat.reduceBEq, Nat.reduceLeDiff, reduceCtorEq, Nat.reduceLT, ↓Br_true, ↓Br_false, bind, pure, sc6, sb6, hl]))
  · have hl : decide ((1048576 : Int) < t.length) = true := decide_eq_true (by omega)
    refine cv_of_run 1000 sc6 sb6 29 [.tmp 2] tabOk (by kernel_rfl) Tryd.func6 rfl (by kernel_rfl) Tryd.ntmps6 rfl (by simp) rfl (by simp [bdL, SV.bd]) ?_
    simp (config := { maxSteps := 1000000 }) (disch := omega) only [go_sem, Int.reduceToNat, ↓reduceIte, Nat.reduceLT, Nat.reduceEqDiff, Nat.reduceAdd, Nat.reduceMul, Nat.reduceSub, Nat.reduceBEq, Nat.reduceLeDiff, reduceCtorEq, Nat.reduceLT, ↓Br_true, ↓Br_false, bind, pure, sc6, sb6, hl]
theorem FnExactReadAwning_c (s : ByteArray) (w : World) (hg : Gl w) :
    Calls Tryd.prog 6 #[.string s] w fun e w' => e = .returned (.bool true) ∧ Below w.heap.size w w' := by
  have e : bs s.data.toList = s := by cases s; simp [bs]
  have := (FnExactReadAwning_cv s.data.toList).law w hg
  rw [e] at this
  exact this
end Go.Proofs.YtpcnpmhpelbndaaDoor.Vx
