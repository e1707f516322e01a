/- Walks: small functions on single numbers, of the program and of the reference: each pair answers by one Lean function. -/
import Derived.Test.YtdncopphjamilaaB
namespace Go.Proofs.Ytdncopphjamilaa
set_option linter.unusedSimpArgs false
set_option linter.unusedVariables false
open Go.ChangeShapes Go.WideShapes Go.ChangeAt Go.RowKit Fl

/-- low ≤ a and a ≤ high, of floats. -/
def btw (a l h : Nat) : Bool := fle l a && fle a h
/-- low ≤ n and n ≤ high, of integers. -/
def inn (n l h : Int) : Bool := decide (l ≤ n) && decide (n ≤ h)
theorem inn_true {n l h : Int} : inn n l h = true ↔ l ≤ n ∧ n ≤ h := by simp [inn]
theorem inn_false {n l h : Int} : inn n l h = false ↔ ¬ (l ≤ n ∧ n ≤ h) := by rw [← inn_true]; simp
/-- The same number. -/
def sameF (a b : Nat) : Bool := if !feq a a || !feq b b then !feq a a && !feq b b else (a : Int) == (b : Int)
def isPart (a : Nat) : Bool := btw a 0 1065353216
def isPlain (a : Nat) : Bool := btw a 3380609024 1233125376
def isFineF (a : Nat) : Bool := isPlain a && fle 0 a

theorem isPart_nn {a : Nat} (h : isPart a = true) : nn a := by
  unfold isPart btw at h; simp only [Bool.and_eq_true] at h; exact (fle_nn h.2).1
theorem fle_flt {a b : Nat} (ha : isPart a = true) (hb : isPart b = true) : fle a b = !flt b a := by
  rw [fle_iff (isPart_nn ha) (isPart_nn hb), flt_iff (isPart_nn hb) (isPart_nn ha), Bool.eq_iff_iff]; simp

theorem within_c (n l h : Int) (w : World) :
    Calls Try.prog 102 #[.int .i64 n, .int .i64 l, .int .i64 h] w fun e w' => e = .returned (.bool (inn n l h)) ∧ w = w' := by
  by_cases c : l ≤ n
  · go_enter Try.func102, Try.ntmps102
    go_wp2
    all_goals (go_ret; exact ⟨by first | (simp [inn, *]; done) | (simp [inn, *]; omega), rfl⟩)
  · go_enter Try.func102, Try.ntmps102
    go_wp2
    all_goals (go_ret; exact ⟨by first | (simp [inn, *]; done) | (simp [inn, *]; omega), rfl⟩)
theorem l00In_c (n l h : Int) (w : World) :
    Calls Try.prog 106 #[.int .i64 n, .int .i64 l, .int .i64 h] w fun e w' => e = .returned (.bool (inn n l h)) ∧ w = w' := by
  by_cases c : l ≤ n
  · go_enter Try.func106, Try.ntmps106
    go_wp2
    all_goals (go_ret; exact ⟨by first | (simp [inn, *]; done) | (simp [inn, *]; omega), rfl⟩)
  · go_enter Try.func106, Try.ntmps106
    go_wp2
    all_goals (go_ret; exact ⟨by first | (simp [inn, *]; done) | (simp [inn, *]; omega), rfl⟩)
theorem isBetween_c (a l h : Nat) (w : World) :
    Calls Try.prog 171 #[.float .f32 a, .float .f32 l, .float .f32 h] w fun e w' => e = .returned (.bool (btw a l h)) ∧ w = w' := by
  go_enter Try.func171, Try.ntmps171
  go_wp2
  all_goals (go_ret; exact ⟨by simp [btw, *], rfl⟩)
theorem l04Between_c (a l h : Nat) (w : World) :
    Calls Try.prog 177 #[.float .f32 a, .float .f32 l, .float .f32 h] w fun e w' => e = .returned (.bool (btw a l h)) ∧ w = w' := by
  go_enter Try.func177, Try.ntmps177
  go_wp2
  all_goals (go_ret; exact ⟨by simp [btw, *], rfl⟩)
theorem IsPart_c (a : Nat) (w : World) :
    Calls Try.prog 182 #[.float .f32 a] w fun e w' => e = .returned (.bool (isPart a)) ∧ w = w' := by
  go_enter Try.func182, Try.ntmps182
  go_wp2
  all_goals (go_ret; exact ⟨by simp [isPart, btw, *], rfl⟩)
theorem l01Part_c (a : Nat) (w : World) :
    Calls Try.prog 183 #[.float .f32 a] w fun e w' => e = .returned (.bool (isPart a)) ∧ w = w' := by
  go_enter Try.func183, Try.ntmps183
  go_wp2
  all_goals (go_ret; exact ⟨by simp [isPart, btw, *], rfl⟩)
theorem IsPlain_c (a : Nat) (w : World) :
    Calls Try.prog 100 #[.float .f32 a] w fun e w' => e = .returned (.bool (isPlain a)) ∧ w = w' := by
  go_enter Try.func100, Try.ntmps100
  go_wp2
  all_goals (go_ret; exact ⟨by simp [isPlain, btw, *], rfl⟩)
theorem l01Plain_c (a : Nat) (w : World) :
    Calls Try.prog 157 #[.float .f32 a] w fun e w' => e = .returned (.bool (isPlain a)) ∧ w = w' := by
  go_enter Try.func157, Try.ntmps157
  go_wp2
  all_goals (go_ret; exact ⟨by simp [isPlain, btw, *], rfl⟩)
theorem isFine_c (a : Nat) (w : World) :
    Calls Try.prog 110 #[.float .f32 a] w fun e w' => e = .returned (.bool (isFineF a)) ∧ w = w' := by
  go_enter Try.func110, Try.ntmps110
  go_wp2_with (go_at_call 100; refine (IsPlain_c _ _).mono ?_; rintro e w' ⟨rfl, rfl⟩)
  all_goals (go_ret; exact ⟨by simp [isFineF, *], rfl⟩)
theorem l04Gust_c (a : Nat) (w : World) :
    Calls Try.prog 112 #[.float .f32 a] w fun e w' => e = .returned (.bool (isFineF a)) ∧ w = w' := by
  go_enter Try.func112, Try.ntmps112
  go_wp2_with (go_at_call 157; refine (l01Plain_c _ _).mono ?_; rintro e w' ⟨rfl, rfl⟩)
  all_goals (go_ret; exact ⟨by simp [isFineF, *], rfl⟩)
theorem isHour_c (n : Int) (w : World) :
    Calls Try.prog 131 #[.int .i64 n] w fun e w' => e = .returned (.bool (inn n 0 23)) ∧ w = w' := by
  go_enter Try.func131, Try.ntmps131
  go_wp2_with (go_at_call 102; refine (within_c _ _ _ _).mono ?_; rintro e w' ⟨rfl, rfl⟩)
  go_ret; exact ⟨rfl, rfl⟩
theorem l01Hour_c (n : Int) (w : World) :
    Calls Try.prog 134 #[.int .i64 n] w fun e w' => e = .returned (.bool (inn n 0 23)) ∧ w = w' := by
  go_enter Try.func134, Try.ntmps134
  go_wp2_with (go_at_call 106; refine (l00In_c _ _ _ _).mono ?_; rintro e w' ⟨rfl, rfl⟩)
  go_ret; exact ⟨rfl, rfl⟩
theorem isFacing_c (n : Int) (w : World) :
    Calls Try.prog 116 #[.int .i64 n] w fun e w' => e = .returned (.bool (inn n 0 255)) ∧ w = w' := by
  go_enter Try.func116, Try.ntmps116
  go_wp2_with (go_at_call 102; refine (within_c _ _ _ _).mono ?_; rintro e w' ⟨rfl, rfl⟩)
  go_ret; exact ⟨rfl, rfl⟩
theorem l01Faced_c (n : Int) (w : World) :
    Calls Try.prog 125 #[.int .i64 n] w fun e w' => e = .returned (.bool (inn n 0 255)) ∧ w = w' := by
  go_enter Try.func125, Try.ntmps125
  go_wp2_with (go_at_call 106; refine (l00In_c _ _ _ _).mono ?_; rintro e w' ⟨rfl, rfl⟩)
  go_ret; exact ⟨rfl, rfl⟩
theorem l01Height_c (n : Int) (w : World) :
    Calls Try.prog 178 #[.int .i64 n] w fun e w' => e = .returned (.bool (inn n (-64) 64)) ∧ w = w' := by
  go_enter Try.func178, Try.ntmps178
  go_wp2_with (go_at_call 106; refine (l00In_c _ _ _ _).mono ?_; rintro e w' ⟨rfl, rfl⟩)
  go_ret; exact ⟨rfl, rfl⟩
theorem f32bits_run (b : Nat) (w : World) : (callFunc 154 #[.float .f32 b]).run Try.prog w = .ok (.value (.int .u32 b)) w :=
  run_callFunc_extern (e := Extern.MathFloatBits.float32bits) Try.func154 (by kernel_rfl) (by kernel_rfl) (by kernel_rfl) (by kernel_rfl) #[.float .f32 b] w
theorem l01Same_c (a b : Nat) (w : World) :
    Calls Try.prog 99 #[.float .f32 a, .float .f32 b] w fun e w' => e = .returned (.bool (sameF a b)) ∧ w = w' := by
  have fb := f32bits_run
  go_enter Try.func99, Try.ntmps99
  go_wp2
  all_goals (go_ret; exact ⟨by simp [sameF, *], rfl⟩)

end Go.Proofs.Ytdncopphjamilaa
