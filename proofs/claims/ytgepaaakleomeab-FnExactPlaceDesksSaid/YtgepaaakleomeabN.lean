/- Walks: small functions on single numbers, of the program and of the reference: each pair answers by one Lean function. -/
import Derived.Test.YtgepaaakleomeabB
namespace Go.Proofs.Ytgepaaakleomeab
set_option linter.unusedSimpArgs false
set_option linter.unusedVariables false
open Go.ChangeShapes Go.WideShapes Go.ChangeAt Go.RowKit Fl

/-- low ≤ a and a ≤ high, of floats. -/
def btw (a l h : Nat) : Bool := fle l a && fle a h
/-- low ≤ n and n ≤ high, of integers. -/
def inn (n l h : Int) : Bool := decide (l ≤ n) && decide (n ≤ h)
theorem inn_true {n l h : Int} : inn n l h = true ↔ l ≤ n ∧ n ≤ h := by simp [inn]
theorem inn_false {n l h : Int} : inn n l h = false ↔ ¬ (l ≤ n ∧ n ≤ h) := by rw [← inn_true]; simp
/-- The same number. -/
def sameF (a b : Nat) : Bool := if !feq a a || !feq b b then !feq a a && !feq b b else (a : Int) == (b : Int)
def isPart (a : Nat) : Bool := btw a 0 1065353216
def isPlain (a : Nat) : Bool := btw a 3380609024 1233125376
def isFineF (a : Nat) : Bool := isPlain a && fle 0 a

theorem isPart_nn {a : Nat} (h : isPart a = true) : nn a := by
  unfold isPart btw at h; simp only [Bool.and_eq_true] at h; exact (fle_nn h.2).1
theorem fle_flt {a b : Nat} (ha : isPart a = true) (hb : isPart b = true) : fle a b = !flt b a := by
  rw [fle_iff (isPart_nn ha) (isPart_nn hb), flt_iff (isPart_nn hb) (isPart_nn ha), Bool.eq_iff_iff]; simp

theorem within_c (n l h : Int) (w : World) :
    Calls Try.prog 77 #[.int .i64 n, .int .i64 l, .int .i64 h] w fun e w' => e = .returned (.bool (inn n l h)) ∧ w = w' := by
  by_cases c : l ≤ n
  · go_enter Try.func77, Try.ntmps77
    go_wp2
    all_goals (go_ret; exact ⟨by first | (simp [inn, *]; done) | (simp [inn, *]; omega), rfl⟩)
  · go_enter Try.func77, Try.ntmps77
    go_wp2
    all_goals (go_ret; exact ⟨by first | (simp [inn, *]; done) | (simp [inn, *]; omega), rfl⟩)
theorem l00In_c (n l h : Int) (w : World) :
    Calls Try.prog 73 #[.int .i64 n, .int .i64 l, .int .i64 h] w fun e w' => e = .returned (.bool (inn n l h)) ∧ w = w' := by
  by_cases c : l ≤ n
  · go_enter Try.func73, Try.ntmps73
    go_wp2
    all_goals (go_ret; exact ⟨by first | (simp [inn, *]; done) | (simp [inn, *]; omega), rfl⟩)
  · go_enter Try.func73, Try.ntmps73
    go_wp2
    all_goals (go_ret; exact ⟨by first | (simp [inn, *]; done) | (simp [inn, *]; omega), rfl⟩)
theorem IsPart_c (a : Nat) (w : World) :
    Calls Try.prog 100 #[.float .f32 a] w fun e w' => e = .returned (.bool (isPart a)) ∧ w = w' := by
  go_enter Try.func100, Try.ntmps100
  go_wp2
  all_goals (go_ret; exact ⟨by simp [isPart, btw, *], rfl⟩)
theorem l01Part_c (a : Nat) (w : World) :
    Calls Try.prog 97 #[.float .f32 a] w fun e w' => e = .returned (.bool (isPart a)) ∧ w = w' := by
  go_enter Try.func97, Try.ntmps97
  go_wp2
  all_goals (go_ret; exact ⟨by simp [isPart, btw, *], rfl⟩)
theorem IsPlain_c (a : Nat) (w : World) :
    Calls Try.prog 98 #[.float .f32 a] w fun e w' => e = .returned (.bool (isPlain a)) ∧ w = w' := by
  go_enter Try.func98, Try.ntmps98
  go_wp2
  all_goals (go_ret; exact ⟨by simp [isPlain, btw, *], rfl⟩)
theorem l01Plain_c (a : Nat) (w : World) :
    Calls Try.prog 91 #[.float .f32 a] w fun e w' => e = .returned (.bool (isPlain a)) ∧ w = w' := by
  go_enter Try.func91, Try.ntmps91
  go_wp2
  all_goals (go_ret; exact ⟨by simp [isPlain, btw, *], rfl⟩)

end Go.Proofs.Ytgepaaakleomeab
