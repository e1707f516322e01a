/- Walks: small functions on single numbers, of the program and of the reference: each pair answers by one Lean function. -/
import Derived.Test.YtlogdpcmahbdjaaB
namespace Go.Proofs.Ytlogdpcmahbdjaa
set_option linter.unusedSimpArgs false
set_option linter.unusedVariables false
open Go.ChangeShapes Go.WideShapes Go.ChangeAt Go.RowKit Fl

/-- low ≤ a and a ≤ high, of floats. -/
def btw (a l h : Nat) : Bool := fle l a && fle a h
/-- low ≤ n and n ≤ high, of integers. -/
def inn (n l h : Int) : Bool := decide (l ≤ n) && decide (n ≤ h)
theorem inn_true {n l h : Int} : inn n l h = true ↔ l ≤ n ∧ n ≤ h := by simp [inn]
theorem inn_false {n l h : Int} : inn n l h = false ↔ ¬ (l ≤ n ∧ n ≤ h) := by rw [← inn_true]; simp
/-- The same number. -/
def sameF (a b : Nat) : Bool := if !feq a a || !feq b b then !feq a a && !feq b b else (a : Int) == (b : Int)
def isPart (a : Nat) : Bool := btw a 0 1065353216
def isPlain (a : Nat) : Bool := btw a 3380609024 1233125376
def isFineF (a : Nat) : Bool := isPlain a && fle 0 a

theorem isPart_nn {a : Nat} (h : isPart a = true) : nn a := by
  unfold isPart btw at h; simp only [Bool.and_eq_true] at h; exact (fle_nn h.2).1
theorem fle_flt {a b : Nat} (ha : isPart a = true) (hb : isPart b = true) : fle a b = !flt b a := by
  rw [fle_iff (isPart_nn ha) (isPart_nn hb), flt_iff (isPart_nn hb) (isPart_nn ha), Bool.eq_iff_iff]; simp

theorem within_c (n l h : Int) (w : World) :
    Calls Try.prog 55 #[.int .i64 n, .int .i64 l, .int .i64 h] w fun e w' => e = .returned (.bool (inn n l h)) ∧ w = w' := by
  by_cases c : l ≤ n
  · go_enter Try.func55, Try.ntmps55
    go_wp2
    all_goals (go_ret; exact ⟨by first | (simp [inn, *]; done) | (simp [inn, *]; omega), rfl⟩)
  · go_enter Try.func55, Try.ntmps55
    go_wp2
    all_goals (go_ret; exact ⟨by first | (simp [inn, *]; done) | (simp [inn, *]; omega), rfl⟩)
theorem l00In_c (n l h : Int) (w : World) :
    Calls Try.prog 74 #[.int .i64 n, .int .i64 l, .int .i64 h] w fun e w' => e = .returned (.bool (inn n l h)) ∧ w = w' := by
  by_cases c : l ≤ n
  · go_enter Try.func74, Try.ntmps74
    go_wp2
    all_goals (go_ret; exact ⟨by first | (simp [inn, *]; done) | (simp [inn, *]; omega), rfl⟩)
  · go_enter Try.func74, Try.ntmps74
    go_wp2
    all_goals (go_ret; exact ⟨by first | (simp [inn, *]; done) | (simp [inn, *]; omega), rfl⟩)
theorem isBetween_c (a l h : Nat) (w : World) :
    Calls Try.prog 52 #[.float .f32 a, .float .f32 l, .float .f32 h] w fun e w' => e = .returned (.bool (btw a l h)) ∧ w = w' := by
  go_enter Try.func52, Try.ntmps52
  go_wp2
  all_goals (go_ret; exact ⟨by simp [btw, *], rfl⟩)
theorem l04Between_c (a l h : Nat) (w : World) :
    Calls Try.prog 72 #[.float .f32 a, .float .f32 l, .float .f32 h] w fun e w' => e = .returned (.bool (btw a l h)) ∧ w = w' := by
  go_enter Try.func72, Try.ntmps72
  go_wp2
  all_goals (go_ret; exact ⟨by simp [btw, *], rfl⟩)
theorem IsPart_c (a : Nat) (w : World) :
    Calls Try.prog 59 #[.float .f32 a] w fun e w' => e = .returned (.bool (isPart a)) ∧ w = w' := by
  go_enter Try.func59, Try.ntmps59
  go_wp2
  all_goals (go_ret; exact ⟨by simp [isPart, btw, *], rfl⟩)
theorem l01Part_c (a : Nat) (w : World) :
    Calls Try.prog 76 #[.float .f32 a] w fun e w' => e = .returned (.bool (isPart a)) ∧ w = w' := by
  go_enter Try.func76, Try.ntmps76
  go_wp2
  all_goals (go_ret; exact ⟨by simp [isPart, btw, *], rfl⟩)
theorem IsPlain_c (a : Nat) (w : World) :
    Calls Try.prog 75 #[.float .f32 a] w fun e w' => e = .returned (.bool (isPlain a)) ∧ w = w' := by
  go_enter Try.func75, Try.ntmps75
  go_wp2
  all_goals (go_ret; exact ⟨by simp [isPlain, btw, *], rfl⟩)
theorem l01Plain_c (a : Nat) (w : World) :
    Calls Try.prog 79 #[.float .f32 a] w fun e w' => e = .returned (.bool (isPlain a)) ∧ w = w' := by
  go_enter Try.func79, Try.ntmps79
  go_wp2
  all_goals (go_ret; exact ⟨by simp [isPlain, btw, *], rfl⟩)
theorem isFine_c (a : Nat) (w : World) :
    Calls Try.prog 57 #[.float .f32 a] w fun e w' => e = .returned (.bool (isFineF a)) ∧ w = w' := by
  go_enter Try.func57, Try.ntmps57
  go_wp2_with (go_at_call 75; refine (IsPlain_c _ _).mono ?_; rintro e w' ⟨rfl, rfl⟩)
  all_goals (go_ret; exact ⟨by simp [isFineF, *], rfl⟩)
theorem l04Gust_c (a : Nat) (w : World) :
    Calls Try.prog 64 #[.float .f32 a] w fun e w' => e = .returned (.bool (isFineF a)) ∧ w = w' := by
  go_enter Try.func64, Try.ntmps64
  go_wp2_with (go_at_call 79; refine (l01Plain_c _ _).mono ?_; rintro e w' ⟨rfl, rfl⟩)
  all_goals (go_ret; exact ⟨by simp [isFineF, *], rfl⟩)
theorem isTilt_c (n : Int) (w : World) :
    Calls Try.prog 54 #[.int .i64 n] w fun e w' => e = .returned (.bool (inn n (-64) 64)) ∧ w = w' := by
  go_enter Try.func54, Try.ntmps54
  go_wp2_with (go_at_call 55; refine (within_c _ _ _ _).mono ?_; rintro e w' ⟨rfl, rfl⟩)
  go_ret; exact ⟨rfl, rfl⟩
theorem l02Tilt_c (n : Int) (w : World) :
    Calls Try.prog 73 #[.int .i64 n] w fun e w' => e = .returned (.bool (inn n (-64) 64)) ∧ w = w' := by
  go_enter Try.func73, Try.ntmps73
  go_wp2_with (go_at_call 74; refine (l00In_c _ _ _ _).mono ?_; rintro e w' ⟨rfl, rfl⟩)
  go_ret; exact ⟨rfl, rfl⟩
theorem isHeight_c (n : Int) (w : World) :
    Calls Try.prog 60 #[.int .i64 n] w fun e w' => e = .returned (.bool (inn n 1 64)) ∧ w = w' := by
  go_enter Try.func60, Try.ntmps60
  go_wp2_with (go_at_call 55; refine (within_c _ _ _ _).mono ?_; rintro e w' ⟨rfl, rfl⟩)
  go_ret; exact ⟨rfl, rfl⟩
theorem l02Up_c (n : Int) (w : World) :
    Calls Try.prog 77 #[.int .i64 n] w fun e w' => e = .returned (.bool (inn n 1 64)) ∧ w = w' := by
  go_enter Try.func77, Try.ntmps77
  go_wp2_with (go_at_call 74; refine (l00In_c _ _ _ _).mono ?_; rintro e w' ⟨rfl, rfl⟩)
  go_ret; exact ⟨rfl, rfl⟩
theorem l01Faced_c (n : Int) (w : World) :
    Calls Try.prog 80 #[.int .i64 n] w fun e w' => e = .returned (.bool (inn n 0 255)) ∧ w = w' := by
  go_enter Try.func80, Try.ntmps80
  go_wp2_with (go_at_call 74; refine (l00In_c _ _ _ _).mono ?_; rintro e w' ⟨rfl, rfl⟩)
  go_ret; exact ⟨rfl, rfl⟩
theorem f32bits_run (b : Nat) (w : World) : (callFunc 78 #[.float .f32 b]).run Try.prog w = .ok (.value (.int .u32 b)) w :=
  run_callFunc_extern (e := Extern.MathFloatBits.float32bits) Try.func78 (by kernel_rfl) (by kernel_rfl) (by kernel_rfl) (by kernel_rfl) #[.float .f32 b] w
theorem SameNumber_c (a b : Nat) (w : World) :
    Calls Try.prog 62 #[.float .f32 a, .float .f32 b] w fun e w' => e = .returned (.bool (sameF a b)) ∧ w = w' := by
  have fb := f32bits_run
  go_enter Try.func62, Try.ntmps62
  go_wp2
  all_goals (go_ret; exact ⟨by simp [sameF, *], rfl⟩)
theorem l01Same_c (a b : Nat) (w : World) :
    Calls Try.prog 61 #[.float .f32 a, .float .f32 b] w fun e w' => e = .returned (.bool (sameF a b)) ∧ w = w' := by
  have fb := f32bits_run
  go_enter Try.func61, Try.ntmps61
  go_wp2
  all_goals (go_ret; exact ⟨by simp [sameF, *], rfl⟩)

end Go.Proofs.Ytlogdpcmahbdjaa
