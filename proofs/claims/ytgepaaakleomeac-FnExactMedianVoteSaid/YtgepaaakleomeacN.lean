/- Walks: small functions on single numbers, of the program and of the reference: each pair answers by one Lean function. -/
import Derived.Test.YtgepaaakleomeacB
namespace Go.Proofs.Ytgepaaakleomeac
set_option linter.unusedSimpArgs false
set_option linter.unusedVariables false
open Go.ChangeShapes Go.WideShapes Go.ChangeAt Go.RowKit Fl

/-- low ≤ a and a ≤ high, of floats. -/
def btw (a l h : Nat) : Bool := fle l a && fle a h
/-- low ≤ n and n ≤ high, of integers. -/
def inn (n l h : Int) : Bool := decide (l ≤ n) && decide (n ≤ h)
theorem inn_true {n l h : Int} : inn n l h = true ↔ l ≤ n ∧ n ≤ h := by simp [inn]
theorem inn_false {n l h : Int} : inn n l h = false ↔ ¬ (l ≤ n ∧ n ≤ h) := by rw [← inn_true]; simp
/-- The same number. -/
def sameF (a b : Nat) : Bool := if !feq a a || !feq b b then !feq a a && !feq b b else (a : Int) == (b : Int)
def isPart (a : Nat) : Bool := btw a 0 1065353216
def isPlain (a : Nat) : Bool := btw a 3380609024 1233125376
def isFineF (a : Nat) : Bool := isPlain a && fle 0 a

theorem isPart_nn {a : Nat} (h : isPart a = true) : nn a := by
  unfold isPart btw at h; simp only [Bool.and_eq_true] at h; exact (fle_nn h.2).1
theorem fle_flt {a b : Nat} (ha : isPart a = true) (hb : isPart b = true) : fle a b = !flt b a := by
  rw [fle_iff (isPart_nn ha) (isPart_nn hb), flt_iff (isPart_nn hb) (isPart_nn ha), Bool.eq_iff_iff]; simp

theorem within_c (n l h : Int) (w : World) :
    Calls Try.prog 49 #[.int .i64 n, .int .i64 l, .int .i64 h] w fun e w' => e = .returned (.bool (inn n l h)) ∧ w = w' := by
  by_cases c : l ≤ n
  · go_enter Try.func49, Try.ntmps49
    go_wp2
    all_goals (go_ret; exact ⟨by first | (simp [inn, *]; done) | (simp [inn, *]; omega), rfl⟩)
  · go_enter Try.func49, Try.ntmps49
    go_wp2
    all_goals (go_ret; exact ⟨by first | (simp [inn, *]; done) | (simp [inn, *]; omega), rfl⟩)
theorem l00In_c (n l h : Int) (w : World) :
    Calls Try.prog 44 #[.int .i64 n, .int .i64 l, .int .i64 h] w fun e w' => e = .returned (.bool (inn n l h)) ∧ w = w' := by
  by_cases c : l ≤ n
  · go_enter Try.func44, Try.ntmps44
    go_wp2
    all_goals (go_ret; exact ⟨by first | (simp [inn, *]; done) | (simp [inn, *]; omega), rfl⟩)
  · go_enter Try.func44, Try.ntmps44
    go_wp2
    all_goals (go_ret; exact ⟨by first | (simp [inn, *]; done) | (simp [inn, *]; omega), rfl⟩)
theorem IsPart_c (a : Nat) (w : World) :
    Calls Try.prog 58 #[.float .f32 a] w fun e w' => e = .returned (.bool (isPart a)) ∧ w = w' := by
  go_enter Try.func58, Try.ntmps58
  go_wp2
  all_goals (go_ret; exact ⟨by simp [isPart, btw, *], rfl⟩)
theorem l01Part_c (a : Nat) (w : World) :
    Calls Try.prog 55 #[.float .f32 a] w fun e w' => e = .returned (.bool (isPart a)) ∧ w = w' := by
  go_enter Try.func55, Try.ntmps55
  go_wp2
  all_goals (go_ret; exact ⟨by simp [isPart, btw, *], rfl⟩)
theorem isHour_c (n : Int) (w : World) :
    Calls Try.prog 30 #[.int .i64 n] w fun e w' => e = .returned (.bool (inn n 0 23)) ∧ w = w' := by
  go_enter Try.func30, Try.ntmps30
  go_wp2_with (go_at_call 49; refine (within_c _ _ _ _).mono ?_; rintro e w' ⟨rfl, rfl⟩)
  go_ret; exact ⟨rfl, rfl⟩
theorem l01Hour_c (n : Int) (w : World) :
    Calls Try.prog 21 #[.int .i64 n] w fun e w' => e = .returned (.bool (inn n 0 23)) ∧ w = w' := by
  go_enter Try.func21, Try.ntmps21
  go_wp2_with (go_at_call 44; refine (l00In_c _ _ _ _).mono ?_; rintro e w' ⟨rfl, rfl⟩)
  go_ret; exact ⟨rfl, rfl⟩
theorem isFacing_c (n : Int) (w : World) :
    Calls Try.prog 31 #[.int .i64 n] w fun e w' => e = .returned (.bool (inn n 0 255)) ∧ w = w' := by
  go_enter Try.func31, Try.ntmps31
  go_wp2_with (go_at_call 49; refine (within_c _ _ _ _).mono ?_; rintro e w' ⟨rfl, rfl⟩)
  go_ret; exact ⟨rfl, rfl⟩
theorem l01Faced_c (n : Int) (w : World) :
    Calls Try.prog 22 #[.int .i64 n] w fun e w' => e = .returned (.bool (inn n 0 255)) ∧ w = w' := by
  go_enter Try.func22, Try.ntmps22
  go_wp2_with (go_at_call 44; refine (l00In_c _ _ _ _).mono ?_; rintro e w' ⟨rfl, rfl⟩)
  go_ret; exact ⟨rfl, rfl⟩
theorem l01Height_c (n : Int) (w : World) :
    Calls Try.prog 46 #[.int .i64 n] w fun e w' => e = .returned (.bool (inn n (-64) 64)) ∧ w = w' := by
  go_enter Try.func46, Try.ntmps46
  go_wp2_with (go_at_call 44; refine (l00In_c _ _ _ _).mono ?_; rintro e w' ⟨rfl, rfl⟩)
  go_ret; exact ⟨rfl, rfl⟩

end Go.Proofs.Ytgepaaakleomeac
