/- Texts: plain facts; contracts of the shelf, in the abstract. -/
import Derived.Test.YtjhddlkfkicpaaaGreatDoorVs
import Derived.Test.YtjhddlkfkicpaaaGreatDoorTs
import Derived.Lib.ItoaLen
import Derived.Lib.AppendIntMem
namespace Go.Proofs.YtjhddlkfkicpaaaGreatDoor.Vx
set_option linter.unusedSimpArgs false
set_option linter.unusedVariables false
open Go Go.RowKit Fl
set_option maxRecDepth 100000
set_option maxHeartbeats 4000000
set_option linter.unusedSimpArgs false
set_option linter.unusedVariables false

abbrev bs (l : List UInt8) : ByteArray := ⟨l.toArray⟩
theorem bs_add (a b : List UInt8) : bs a ++ bs b = bs (a ++ b) := by
  apply ByteArray.ext
  rw [ByteArray.data_append]
  simp
theorem bs_size (l : List UInt8) : (bs l).size = l.length := by simp [bs, ByteArray.size]
theorem strEq_self (a : ByteArray) : strEq a a = true := by simp [strEq]
theorem BY_one {x : Int} (h0 : 0 ≤ x) (h1 : x ≤ 255) : BY (nthR [ [.int .u8 x] ]) 0 1 := fun k hk => by
  obtain rfl : k = 0 := by omega
  exact ⟨x, rfl, h0, h1⟩
theorem bs_one (x : Int) : bsOf (nthR [ [.int .u8 x] ]) 0 1 = bs [UInt8.ofNat x.toNat] := rfl
theorem tdiv10 (n : Nat) : (n : Int).tdiv 10 = ((n / 10 : Nat) : Int) := by
  rw [Int.tdiv_eq_ediv_of_nonneg (by omega)]; omega
theorem tmod10 (n : Nat) : (n : Int).tmod 10 = ((n % 10 : Nat) : Int) := by
  rw [Int.tmod_eq_emod_of_nonneg (by omega)]; omega
theorem decD_big {n : Nat} (h : ¬ n < 10) : Lib.decDigits n = Lib.decDigits (n / 10) ++ [UInt8.ofNat (48 + n % 10)] := by rw [Lib.decDigits, dif_neg h]

theorem decD_len {n : Nat} (h : n ≤ 9223372036854775807) : (Lib.decDigits n).length ≤ 21 := by
  have := Lib.itoa_length_le n (by omega) (by omega)
  rwa [Lib.itoa_nonneg] at this
/-- strconv.FormatInt at base 10. -/
theorem FormatInt_cv (n : Int) (h0 : -9223372036854775808 ≤ n) (h1 : n ≤ 9223372036854775807) :
    CV Tryz.prog 74 [.f (.int .i64 n), .f (.int .i64 10)] [] (fun v h => v = .f (.str (bs (Lib.itoa n))) ∧ h = []) :=
  CV.old trivial (enters_of Tryz.func74 (by kernel_rfl) (by kernel_rfl)) fun w β H => (Any.strconv_FormatInt_10 Tryz.laysM173 n h0 h1 w H.gl.2.pow).mono fun e w' ⟨h1, k, os, h2⟩ => ⟨h1, by rw [h2]; exact Lib.below_grow _ w (Nat.le_refl _) k os⟩
/-- strings.Repeat. -/
theorem Repeat_cv (l : List UInt8) (n : Nat) (hn : n ≤ 1000) (hl : l.length ≤ 1000) :
    CV Tryz.prog 77 [.f (.str (bs l)), .f (.int .i64 n)] [] (fun v h => v = .f (.str (bs (Lib.repeatL l n))) ∧ h = []) :=
  CV.old trivial (enters_of Tryz.func77 (by kernel_rfl) (by kernel_rfl)) fun w β H => (Any.strings_Repeat Tryz.lays105 Tryz.Builder_Extra_105 (bs l) n w (by omega) (by
    rw [bs_size]
    have := Nat.mul_le_mul hl hn
    omega)).mono fun e w' ⟨h1, h2⟩ => ⟨h1, h2⟩
theorem decimal_cv (n : Int) (h0 : -9223372036854775808 ≤ n) (h1 : n ≤ 9223372036854775807) :
    CV Tryz.prog 40 [.f (.int .i64 n)] [] (fun v h => v = .f (.str (bs (Lib.itoa n))) ∧ h = []) := by
  refine cv_of_run 1000 sc40 sb40 5 [.tmp 2] tabOk (by kernel_rfl) Tryz.func40 rfl (by kernel_rfl) Tryz.ntmps40 rfl (by simp) rfl (by simp [bdL, SV.bd]) ?_
  simp (config := { maxSteps := 1000000 }) (disch := omega) only [go_sem, Int.reduceToNat, ↓reduceIte, Nat.reduceLT, Nat.reduceEqDiff, Nat.reduceAdd, Nat.reduceMul, Nat.reduceSub, Nat.reduceBEq, Nat.reduceLeDiff, reduceCtorEq, Nat.reduceLT, ↓Br_true, ↓Br_false, bind, pure, sc40, sb40]
  repeat' (first | (with_reducible refine And.intro (by first | (unfold SOk; kernel_rfl) | (unfold SBOk; kernel_rfl) | (with_reducible assumption) | omega | assumption) ?_) | (with_reducible refine Br_intro (fun hc => ?_) (fun hc => ?_)) | ((have cc := FormatInt_cv n h0 h1; (first | ((first | refine callR (by rfl) (by rfl) (by rfl) cc ?_ | refine callM (by rfl) (by rfl) (by rfl) cc ?_ | refine callMo (by rfl) (by rfl) (by rfl) cc ?_); clear cc; rintro _ _ ⟨rfl, rfl⟩) | (refine callE (by rfl) cc (by rfl) ?_; clear cc))); simp (config := { maxSteps := 1000000 }) (disch := omega) only [go_sem, Int.reduceToNat, ↓reduceIte, Nat.reduceLT, Nat.reduceEqDiff, Nat.reduceAdd, Nat.reduceMul, Nat.reduceSub, Nat.reduceBEq, Nat.reduceLeDiff, reduceCtorEq, Nat.reduceLT, ↓Br_true, ↓Br_false, bind, pure, sc40, sb40]) | ((with_reducible show WidN _ _ _ _ _ _ _ _); (first | refine widL (by decide) (by with_reducible assumption) ?_ | refine widL (by decide) (FWok_nn (by with_reducible assumption)) ?_ | refine widN (by decide) (fun c hc => ?_)); simp (config := { maxSteps := 1000000 }) (disch := omega) only [go_sem, Int.reduceToNat, ↓reduceIte, Nat.reduceLT, Nat.reduceEqDiff, Nat.reduceAdd, Nat.reduceMul, Nat.reduceSub, Nat.reduceBEq, Nat.reduceLeDiff, reduceCtorEq, Nat.reduceLT, ↓Br_true, ↓Br_false, bind, pure, sc40, sb40]))
end Go.Proofs.YtjhddlkfkicpaaaGreatDoor.Vx
