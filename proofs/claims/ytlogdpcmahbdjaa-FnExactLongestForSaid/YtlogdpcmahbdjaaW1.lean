/- Walks: validity of awnings, states, keepers, ticks, controls, and sameness of awnings and controls; the laws on these. -/
import Derived.Test.YtlogdpcmahbdjaaN
import Derived.Test.YtlogdpcmahbdjaaReg
namespace Go.Proofs.Ytlogdpcmahbdjaa
set_option linter.unusedSimpArgs false
set_option linter.unusedVariables false
open Go.ChangeShapes Go.WideShapes Go.ChangeAt Go.RowKit Fl

theorem toAwning_c (a : Nat) (b : Nat) (c : Nat) (d : Nat) (w : World) :
    Calls Try.prog 16 #[.agg #[.float .f32 a, .float .f32 b, .float .f32 c, .float .f32 d]] w fun e w' => e = .returned (.agg #[.float .f32 a, .float .f32 b, .float .f32 c, .float .f32 d]) ∧ Below w.heap.size w w' := by
  go_enter Try.func16, Try.ntmps16
  go_wp2
  refine bodyPost_ret (v := .agg #[.float .f32 a, .float .f32 b, .float .f32 c, .float .f32 d]) (by simp [results, Try.results16, go_sem]) rfl ⟨rfl, ?_⟩
  (repeat (first | exact Below.refl _ _ | refine Below.alloc ?_ (by first | omega | (simp; done) | (simp; omega)) _ | refine Below.setCell ?_ (by first | omega | (simp; done) | (simp; omega)) _ | refine Below.drew ?_ | refine Below.trans ?_ (Below.mono (by assumption) (by first | omega | (simp; done) | (simp; omega)))))
def vAwning (a : Nat) (b : Nat) (c : Nat) (d : Nat) : Bool := btw a 0 1090519040 && btw b 0 1073741824 && btw c 0 1073741824 && btw d 1040187392 1082130432
theorem ValidAwning_c (a : Nat) (b : Nat) (c : Nat) (d : Nat) (w : World)  :
    Calls Try.prog 17 #[.agg #[.float .f32 a, .float .f32 b, .float .f32 c, .float .f32 d]] w fun e w' => e = .returned (.bool (vAwning a b c d)) ∧ Below w.heap.size w w' := by
  go_enter Try.func17, Try.ntmps17
  go_wp2_with ((go_at_call 52; refine (isBetween_c _ _ _ _).mono ?_; rintro e w' ⟨rfl, rfl⟩))
  all_goals (go_ret; exact ⟨by simp [vAwning, *], by (repeat (first | exact Below.refl _ _ | refine Below.alloc ?_ (by first | omega | (simp; done) | (simp; omega)) _ | refine Below.setCell ?_ (by first | omega | (simp; done) | (simp; omega)) _ | refine Below.drew ?_ | refine Below.trans ?_ (Below.mono (by assumption) (by first | omega | (simp; done) | (simp; omega)))))⟩)
theorem l04Ok_c (a : Nat) (b : Nat) (c : Nat) (d : Nat) (p o : Nat) (w : World)  (h0 : w.cell? ⟨p, o, none⟩ = some (.float .f32 a)) (h1 : w.cell? ⟨p, o + 1, none⟩ = some (.float .f32 b)) (h2 : w.cell? ⟨p, o + 2, none⟩ = some (.float .f32 c)) (h3 : w.cell? ⟨p, o + 3, none⟩ = some (.float .f32 d)) :
    Calls Try.prog 51 #[.pointer (some ⟨p, o, none⟩)] w fun e w' => e = .returned (.bool (vAwning a b c d)) ∧ w = w' := by
  go_enter Try.func51, Try.ntmps51
  go_wp2_with ((go_at_call 72; refine (l04Between_c _ _ _ _).mono ?_; rintro e w' ⟨rfl, rfl⟩))
  all_goals (go_ret; exact ⟨by simp [vAwning, *], rfl⟩)
theorem sValidAwning_c (a : Nat) (b : Nat) (c : Nat) (d : Nat) (w : World)  :
    Calls Try.prog 15 #[.agg #[.float .f32 a, .float .f32 b, .float .f32 c, .float .f32 d]] w fun e w' => e = .returned (.bool (vAwning a b c d)) ∧ Below w.heap.size w w' := by
  go_enter Try.func15, Try.ntmps15
  go_wp2_with (go_at_call 51; refine (l04Ok_c a b c d _ 0 _ (by go_simp) (by go_simp) (by go_simp) (by go_simp)).mono ?_; rintro e w' ⟨rfl, rfl⟩)
  all_goals (go_ret; exact ⟨rfl, by (repeat (first | exact Below.refl _ _ | refine Below.alloc ?_ (by first | omega | (simp; done) | (simp; omega)) _ | refine Below.setCell ?_ (by first | omega | (simp; done) | (simp; omega)) _ | refine Below.drew ?_ | refine Below.trans ?_ (Below.mono (by assumption) (by first | omega | (simp; done) | (simp; omega)))))⟩)
theorem FnExactValidAwning_c (a : Nat) (b : Nat) (c : Nat) (d : Nat) (w : World)  :
    Calls Try.prog 3 #[.agg #[.float .f32 a, .float .f32 b, .float .f32 c, .float .f32 d]] w fun e w' => e = .returned (.bool true) ∧ Below w.heap.size w w' := by
  go_enter Try.func3, Try.ntmps3
  go_wp2_with (first | (go_at_call 16; refine (toAwning_c _ _ _ _ _).mono ?_; rintro e w' ⟨rfl, hb⟩; obtain ⟨hc, hf, hz⟩ := bcell hb; (try simp at hz); (try have hz' := Nat.lt_of_succ_le hz); (try have z0 : w.heap.size < w'.heap.size := by omega)) | (go_at_call 15; refine (sValidAwning_c _ _ _ _ _).mono ?_; rintro e w' ⟨rfl, hb⟩; obtain ⟨hc, hf, hz⟩ := bcell hb; (try simp at hz); (try have hz' := Nat.lt_of_succ_le hz); (try have z0 : w.heap.size < w'.heap.size := by omega)) | (go_at_call 17; refine (ValidAwning_c _ _ _ _ _).mono ?_; rintro e w' ⟨rfl, hb⟩; obtain ⟨hc, hf, hz⟩ := bcell hb; (try simp at hz); (try have hz' := Nat.lt_of_succ_le hz); (try have z0 : w.heap.size < w'.heap.size := by omega)))
  go_ret
  refine ⟨rfl, ?_⟩
  (repeat (first | exact Below.refl _ _ | refine Below.alloc ?_ (by first | omega | (simp; done) | (simp; omega)) _ | refine Below.setCell ?_ (by first | omega | (simp; done) | (simp; omega)) _ | refine Below.drew ?_ | refine Below.trans ?_ (Below.mono (by assumption) (by first | omega | (simp; done) | (simp; omega)))))
theorem toState_c (a : Int) (b : Int) (c : Int) (w : World) :
    Calls Try.prog 19 #[.agg #[.int .i16 a, .int .i8 b, .int .i8 c]] w fun e w' => e = .returned (.agg #[.int .i16 a, .int .i8 b, .int .i8 c]) ∧ Below w.heap.size w w' := by
  go_enter Try.func19, Try.ntmps19
  go_wp2
  refine bodyPost_ret (v := .agg #[.int .i16 a, .int .i8 b, .int .i8 c]) (by simp [results, Try.results19, go_sem]) rfl ⟨rfl, ?_⟩
  (repeat (first | exact Below.refl _ _ | refine Below.alloc ?_ (by first | omega | (simp; done) | (simp; omega)) _ | refine Below.setCell ?_ (by first | omega | (simp; done) | (simp; omega)) _ | refine Below.drew ?_ | refine Below.trans ?_ (Below.mono (by assumption) (by first | omega | (simp; done) | (simp; omega)))))
def vState (a : Int) (b : Int) (c : Int) : Bool := inn a (-64) 64 && inn b 0 20 && inn c 0 20
theorem ValidState_c (a : Int) (b : Int) (c : Int) (w : World) (ba : -32768 ≤ a ∧ a ≤ 32767) (bb : -128 ≤ b ∧ b ≤ 127) (bc : -128 ≤ c ∧ c ≤ 127) :
    Calls Try.prog 20 #[.agg #[.int .i16 a, .int .i8 b, .int .i8 c]] w fun e w' => e = .returned (.bool (vState a b c)) ∧ Below w.heap.size w w' := by
  obtain ⟨ba1, ba2⟩ := ba
  obtain ⟨bb1, bb2⟩ := bb
  obtain ⟨bc1, bc2⟩ := bc
  go_enter Try.func20, Try.ntmps20
  go_wp2_with (first | (go_at_call 54; refine (isTilt_c _ _).mono ?_; rintro e w' ⟨rfl, rfl⟩) | (go_at_call 55; refine (within_c _ _ _ _).mono ?_; rintro e w' ⟨rfl, rfl⟩))
  all_goals (go_ret; exact ⟨by simp [vState, *], by (repeat (first | exact Below.refl _ _ | refine Below.alloc ?_ (by first | omega | (simp; done) | (simp; omega)) _ | refine Below.setCell ?_ (by first | omega | (simp; done) | (simp; omega)) _ | refine Below.drew ?_ | refine Below.trans ?_ (Below.mono (by assumption) (by first | omega | (simp; done) | (simp; omega)))))⟩)
theorem l05State_c (a : Int) (b : Int) (c : Int) (p o : Nat) (w : World) (ba : -32768 ≤ a ∧ a ≤ 32767) (bb : -128 ≤ b ∧ b ≤ 127) (bc : -128 ≤ c ∧ c ≤ 127) (h0 : w.cell? ⟨p, o, none⟩ = some (.int .i16 a)) (h1 : w.cell? ⟨p, o + 1, none⟩ = some (.int .i8 b)) (h2 : w.cell? ⟨p, o + 2, none⟩ = some (.int .i8 c)) :
    Calls Try.prog 53 #[.pointer (some ⟨p, o, none⟩)] w fun e w' => e = .returned (.bool (vState a b c)) ∧ w = w' := by
  obtain ⟨ba1, ba2⟩ := ba
  obtain ⟨bb1, bb2⟩ := bb
  obtain ⟨bc1, bc2⟩ := bc
  go_enter Try.func53, Try.ntmps53
  go_wp2_with (first | (go_at_call 73; refine (l02Tilt_c _ _).mono ?_; rintro e w' ⟨rfl, rfl⟩) | (go_at_call 74; refine (l00In_c _ _ _ _).mono ?_; rintro e w' ⟨rfl, rfl⟩))
  all_goals (go_ret; exact ⟨by simp [vState, *], rfl⟩)
theorem sValidState_c (a : Int) (b : Int) (c : Int) (w : World) (ba : -32768 ≤ a ∧ a ≤ 32767) (bb : -128 ≤ b ∧ b ≤ 127) (bc : -128 ≤ c ∧ c ≤ 127) :
    Calls Try.prog 18 #[.agg #[.int .i16 a, .int .i8 b, .int .i8 c]] w fun e w' => e = .returned (.bool (vState a b c)) ∧ Below w.heap.size w w' := by
  obtain ⟨ba1, ba2⟩ := ba
  obtain ⟨bb1, bb2⟩ := bb
  obtain ⟨bc1, bc2⟩ := bc
  go_enter Try.func18, Try.ntmps18
  go_wp2_with (go_at_call 53; refine (l05State_c a b c _ 0 _ (by omega) (by omega) (by omega) (by go_simp) (by go_simp) (by go_simp)).mono ?_; rintro e w' ⟨rfl, rfl⟩)
  all_goals (go_ret; exact ⟨rfl, by (repeat (first | exact Below.refl _ _ | refine Below.alloc ?_ (by first | omega | (simp; done) | (simp; omega)) _ | refine Below.setCell ?_ (by first | omega | (simp; done) | (simp; omega)) _ | refine Below.drew ?_ | refine Below.trans ?_ (Below.mono (by assumption) (by first | omega | (simp; done) | (simp; omega)))))⟩)
theorem FnExactValidState_c (a : Int) (b : Int) (c : Int) (w : World) (ba : -32768 ≤ a ∧ a ≤ 32767) (bb : -128 ≤ b ∧ b ≤ 127) (bc : -128 ≤ c ∧ c ≤ 127) :
    Calls Try.prog 4 #[.agg #[.int .i16 a, .int .i8 b, .int .i8 c]] w fun e w' => e = .returned (.bool true) ∧ Below w.heap.size w w' := by
  obtain ⟨ba1, ba2⟩ := ba
  obtain ⟨bb1, bb2⟩ := bb
  obtain ⟨bc1, bc2⟩ := bc
  go_enter Try.func4, Try.ntmps4
  go_wp2_with (first | (go_at_call 19; refine (toState_c _ _ _ _).mono ?_; rintro e w' ⟨rfl, hb⟩; obtain ⟨hc, hf, hz⟩ := bcell hb; (try simp at hz); (try have hz' := Nat.lt_of_succ_le hz); (try have z0 : w.heap.size < w'.heap.size := by omega)) | (go_at_call 18; refine (sValidState_c _ _ _ _ (by omega) (by omega) (by omega)).mono ?_; rintro e w' ⟨rfl, hb⟩; obtain ⟨hc, hf, hz⟩ := bcell hb; (try simp at hz); (try have hz' := Nat.lt_of_succ_le hz); (try have z0 : w.heap.size < w'.heap.size := by omega)) | (go_at_call 20; refine (ValidState_c _ _ _ _ (by omega) (by omega) (by omega)).mono ?_; rintro e w' ⟨rfl, hb⟩; obtain ⟨hc, hf, hz⟩ := bcell hb; (try simp at hz); (try have hz' := Nat.lt_of_succ_le hz); (try have z0 : w.heap.size < w'.heap.size := by omega)))
  go_ret
  refine ⟨rfl, ?_⟩
  (repeat (first | exact Below.refl _ _ | refine Below.alloc ?_ (by first | omega | (simp; done) | (simp; omega)) _ | refine Below.setCell ?_ (by first | omega | (simp; done) | (simp; omega)) _ | refine Below.drew ?_ | refine Below.trans ?_ (Below.mono (by assumption) (by first | omega | (simp; done) | (simp; omega)))))
theorem toTick_c (a : Nat) (b : Nat) (c : Int) (w : World) :
    Calls Try.prog 25 #[.agg #[.float .f32 a, .float .f32 b, .int .i8 c]] w fun e w' => e = .returned (.agg #[.float .f32 a, .float .f32 b, .int .i8 c]) ∧ Below w.heap.size w w' := by
  go_enter Try.func25, Try.ntmps25
  go_wp2
  refine bodyPost_ret (v := .agg #[.float .f32 a, .float .f32 b, .int .i8 c]) (by simp [results, Try.results25, go_sem]) rfl ⟨rfl, ?_⟩
  (repeat (first | exact Below.refl _ _ | refine Below.alloc ?_ (by first | omega | (simp; done) | (simp; omega)) _ | refine Below.setCell ?_ (by first | omega | (simp; done) | (simp; omega)) _ | refine Below.drew ?_ | refine Below.trans ?_ (Below.mono (by assumption) (by first | omega | (simp; done) | (simp; omega)))))
def vTick (a : Nat) (b : Nat) (c : Int) : Bool := isPart a && isPart b && inn c 1 64
theorem ValidTick_c (a : Nat) (b : Nat) (c : Int) (w : World) (bc : -128 ≤ c ∧ c ≤ 127) :
    Calls Try.prog 26 #[.agg #[.float .f32 a, .float .f32 b, .int .i8 c]] w fun e w' => e = .returned (.bool (vTick a b c)) ∧ Below w.heap.size w w' := by
  obtain ⟨bc1, bc2⟩ := bc
  go_enter Try.func26, Try.ntmps26
  go_wp2_with (first | (go_at_call 59; refine (IsPart_c _ _).mono ?_; rintro e w' ⟨rfl, rfl⟩) | (go_at_call 60; refine (isHeight_c _ _).mono ?_; rintro e w' ⟨rfl, rfl⟩))
  all_goals (go_ret; exact ⟨by simp [vTick, *], by (repeat (first | exact Below.refl _ _ | refine Below.alloc ?_ (by first | omega | (simp; done) | (simp; omega)) _ | refine Below.setCell ?_ (by first | omega | (simp; done) | (simp; omega)) _ | refine Below.drew ?_ | refine Below.trans ?_ (Below.mono (by assumption) (by first | omega | (simp; done) | (simp; omega)))))⟩)
theorem l05Tick_c (a : Nat) (b : Nat) (c : Int) (p o : Nat) (w : World) (bc : -128 ≤ c ∧ c ≤ 127) (h0 : w.cell? ⟨p, o, none⟩ = some (.float .f32 a)) (h1 : w.cell? ⟨p, o + 1, none⟩ = some (.float .f32 b)) (h2 : w.cell? ⟨p, o + 2, none⟩ = some (.int .i8 c)) :
    Calls Try.prog 58 #[.pointer (some ⟨p, o, none⟩)] w fun e w' => e = .returned (.bool (vTick a b c)) ∧ w = w' := by
  obtain ⟨bc1, bc2⟩ := bc
  go_enter Try.func58, Try.ntmps58
  go_wp2_with (first | (go_at_call 76; refine (l01Part_c _ _).mono ?_; rintro e w' ⟨rfl, rfl⟩) | (go_at_call 77; refine (l02Up_c _ _).mono ?_; rintro e w' ⟨rfl, rfl⟩))
  all_goals (go_ret; exact ⟨by simp [vTick, *], rfl⟩)
theorem sValidTick_c (a : Nat) (b : Nat) (c : Int) (w : World) (bc : -128 ≤ c ∧ c ≤ 127) :
    Calls Try.prog 24 #[.agg #[.float .f32 a, .float .f32 b, .int .i8 c]] w fun e w' => e = .returned (.bool (vTick a b c)) ∧ Below w.heap.size w w' := by
  obtain ⟨bc1, bc2⟩ := bc
  go_enter Try.func24, Try.ntmps24
  go_wp2_with (go_at_call 58; refine (l05Tick_c a b c _ 0 _ (by omega) (by go_simp) (by go_simp) (by go_simp)).mono ?_; rintro e w' ⟨rfl, rfl⟩)
  all_goals (go_ret; exact ⟨rfl, by (repeat (first | exact Below.refl _ _ | refine Below.alloc ?_ (by first | omega | (simp; done) | (simp; omega)) _ | refine Below.setCell ?_ (by first | omega | (simp; done) | (simp; omega)) _ | refine Below.drew ?_ | refine Below.trans ?_ (Below.mono (by assumption) (by first | omega | (simp; done) | (simp; omega)))))⟩)
theorem FnExactValidTick_c (a : Nat) (b : Nat) (c : Int) (w : World) (bc : -128 ≤ c ∧ c ≤ 127) :
    Calls Try.prog 6 #[.agg #[.float .f32 a, .float .f32 b, .int .i8 c]] w fun e w' => e = .returned (.bool true) ∧ Below w.heap.size w w' := by
  obtain ⟨bc1, bc2⟩ := bc
  go_enter Try.func6, Try.ntmps6
  go_wp2_with (first | (go_at_call 25; refine (toTick_c _ _ _ _).mono ?_; rintro e w' ⟨rfl, hb⟩; obtain ⟨hc, hf, hz⟩ := bcell hb; (try simp at hz); (try have hz' := Nat.lt_of_succ_le hz); (try have z0 : w.heap.size < w'.heap.size := by omega)) | (go_at_call 24; refine (sValidTick_c _ _ _ _ (by omega)).mono ?_; rintro e w' ⟨rfl, hb⟩; obtain ⟨hc, hf, hz⟩ := bcell hb; (try simp at hz); (try have hz' := Nat.lt_of_succ_le hz); (try have z0 : w.heap.size < w'.heap.size := by omega)) | (go_at_call 26; refine (ValidTick_c _ _ _ _ (by omega)).mono ?_; rintro e w' ⟨rfl, hb⟩; obtain ⟨hc, hf, hz⟩ := bcell hb; (try simp at hz); (try have hz' := Nat.lt_of_succ_le hz); (try have z0 : w.heap.size < w'.heap.size := by omega)))
  go_ret
  refine ⟨rfl, ?_⟩
  (repeat (first | exact Below.refl _ _ | refine Below.alloc ?_ (by first | omega | (simp; done) | (simp; omega)) _ | refine Below.setCell ?_ (by first | omega | (simp; done) | (simp; omega)) _ | refine Below.drew ?_ | refine Below.trans ?_ (Below.mono (by assumption) (by first | omega | (simp; done) | (simp; omega)))))
theorem toKeeper_c (a : Nat) (b : Nat) (c : Int) (w : World) :
    Calls Try.prog 22 #[.agg #[.float .f32 a, .float .f32 b, .int .i8 c]] w fun e w' => e = .returned (.agg #[.float .f32 a, .float .f32 b, .int .i8 c]) ∧ Below w.heap.size w w' := by
  go_enter Try.func22, Try.ntmps22
  go_wp2
  refine bodyPost_ret (v := .agg #[.float .f32 a, .float .f32 b, .int .i8 c]) (by simp [results, Try.results22, go_sem]) rfl ⟨rfl, ?_⟩
  (repeat (first | exact Below.refl _ _ | refine Below.alloc ?_ (by first | omega | (simp; done) | (simp; omega)) _ | refine Below.setCell ?_ (by first | omega | (simp; done) | (simp; omega)) _ | refine Below.drew ?_ | refine Below.trans ?_ (Below.mono (by assumption) (by first | omega | (simp; done) | (simp; omega)))))
def sameAwning (a : Nat) (b : Nat) (c : Nat) (d : Nat) (a' : Nat) (b' : Nat) (c' : Nat) (d' : Nat) : Bool := sameF a a' && sameF b b' && sameF c c' && sameF d d'
theorem SameAwning_c (a : Nat) (b : Nat) (c : Nat) (d : Nat) (a' : Nat) (b' : Nat) (c' : Nat) (d' : Nat) (w : World) :
    Calls Try.prog 28 #[.agg #[.float .f32 a, .float .f32 b, .float .f32 c, .float .f32 d], .agg #[.float .f32 a', .float .f32 b', .float .f32 c', .float .f32 d']] w fun e w' => e = .returned (.bool (sameAwning a b c d a' b' c' d')) ∧ Below w.heap.size w w' := by
  go_enter Try.func28, Try.ntmps28
  go_wp2_with ((go_at_call 62; refine (SameNumber_c _ _ _).mono ?_; rintro e w' ⟨rfl, rfl⟩))
  all_goals (go_ret; exact ⟨by first | (simp [sameAwning, *]; done) | (simp only [Bool.not_eq_true', Bool.not_eq_false'] at *; simp [sameAwning, *]), by (repeat (first | exact Below.refl _ _ | refine Below.alloc ?_ (by first | omega | (simp; done) | (simp; omega)) _ | refine Below.setCell ?_ (by first | omega | (simp; done) | (simp; omega)) _ | refine Below.drew ?_ | refine Below.trans ?_ (Below.mono (by assumption) (by first | omega | (simp; done) | (simp; omega)))))⟩)
theorem sSameAwning_c (a : Nat) (b : Nat) (c : Nat) (d : Nat) (a' : Nat) (b' : Nat) (c' : Nat) (d' : Nat) (w : World) :
    Calls Try.prog 27 #[.agg #[.float .f32 a, .float .f32 b, .float .f32 c, .float .f32 d], .agg #[.float .f32 a', .float .f32 b', .float .f32 c', .float .f32 d']] w fun e w' => e = .returned (.bool (sameAwning a b c d a' b' c' d')) ∧ Below w.heap.size w w' := by
  go_enter Try.func27, Try.ntmps27
  go_wp2_with ((go_at_call 61; refine (l01Same_c _ _ _).mono ?_; rintro e w' ⟨rfl, rfl⟩))
  all_goals (go_ret; exact ⟨by first | (simp [sameAwning, *]; done) | (simp only [Bool.not_eq_true', Bool.not_eq_false'] at *; simp [sameAwning, *]), by (repeat (first | exact Below.refl _ _ | refine Below.alloc ?_ (by first | omega | (simp; done) | (simp; omega)) _ | refine Below.setCell ?_ (by first | omega | (simp; done) | (simp; omega)) _ | refine Below.drew ?_ | refine Below.trans ?_ (Below.mono (by assumption) (by first | omega | (simp; done) | (simp; omega)))))⟩)
theorem FnExactSameAwning_c (a : Nat) (b : Nat) (c : Nat) (d : Nat) (a' : Nat) (b' : Nat) (c' : Nat) (d' : Nat) (w : World) :
    Calls Try.prog 7 #[.agg #[.float .f32 a, .float .f32 b, .float .f32 c, .float .f32 d], .agg #[.float .f32 a', .float .f32 b', .float .f32 c', .float .f32 d']] w fun e w' => e = .returned (.bool true) ∧ Below w.heap.size w w' := by
  go_enter Try.func7, Try.ntmps7
  go_wp2_with fail
  refine wp_region_E (by kernel_rfl) (show wpE _ _ _ _ 6 #[false, false, false, false, false, false] _ _ from ?_)
  refine' wpE_val (v := _) (i := 0) rfl (by kernel_rfl) (by kernel_rfl) (by kernel_rfl) (fun _ _ _ h => h) (by first | rfl | (simp [*]; done)) (fun w' hx => ?hy2) ?rest2
  case hy2 => obtain ⟨hc, hf, hz⟩ := bcell hx; go_simp; (try rfl)
  case' rest2 => simp only [Act.put, List.setIfInBounds_toArray, List.set_cons_zero, List.set_cons_succ]
  refine' wpE_call (v := _) (f := _) (args := _) (i := 1) rfl (by kernel_rfl) (by kernel_rfl) (by kernel_rfl) (fun _ _ _ h => h) (by first | rfl | (simp [*]; done)) (fun w' => ?he4) (fun w' hx => ?hy4) ?rest4
  case he4 => go_simp; exact And.intro (by rfl) (by rfl)
  case hy4 => obtain ⟨hc, hf, hz⟩ := bcell hx; exact toAwning_c _ _ _ _ _
  case' rest4 => simp only [Act.put, List.setIfInBounds_toArray, List.set_cons_zero, List.set_cons_succ]
  refine' wpE_val (v := _) (i := 2) rfl (by kernel_rfl) (by kernel_rfl) (by kernel_rfl) (fun _ _ _ h => h) (by first | rfl | (simp [*]; done)) (fun w' hx => ?hy6) ?rest6
  case hy6 => obtain ⟨hc, hf, hz⟩ := bcell hx; go_simp; (try rfl)
  case' rest6 => simp only [Act.put, List.setIfInBounds_toArray, List.set_cons_zero, List.set_cons_succ]
  refine' wpE_call (v := _) (f := _) (args := _) (i := 3) rfl (by kernel_rfl) (by kernel_rfl) (by kernel_rfl) (fun _ _ _ h => h) (by first | rfl | (simp [*]; done)) (fun w' => ?he8) (fun w' hx => ?hy8) ?rest8
  case he8 => go_simp; exact And.intro (by rfl) (by rfl)
  case hy8 => obtain ⟨hc, hf, hz⟩ := bcell hx; exact toAwning_c _ _ _ _ _
  case' rest8 => simp only [Act.put, List.setIfInBounds_toArray, List.set_cons_zero, List.set_cons_succ]
  refine' wpE_call (v := _) (f := _) (args := _) (i := 4) rfl (by kernel_rfl) (by kernel_rfl) (by kernel_rfl) (fun _ _ _ h => h) (by first | rfl | (simp [*]; done)) (fun w' => ?he10) (fun w' hx => ?hy10) ?rest10
  case he10 => go_simp; exact And.intro (by rfl) (by rfl)
  case hy10 => obtain ⟨hc, hf, hz⟩ := bcell hx; exact sSameAwning_c _ _ _ _ _ _ _ _ _
  case' rest10 => simp only [Act.put, List.setIfInBounds_toArray, List.set_cons_zero, List.set_cons_succ]
  refine' wpE_val (v := _) (i := 5) rfl (by kernel_rfl) (by kernel_rfl) (by kernel_rfl) (fun _ _ _ h => h) (by first | rfl | (simp [*]; done)) (fun w' hx => ?hy12) ?rest12
  case hy12 => obtain ⟨hc, hf, hz⟩ := bcell hx; go_simp; (try rfl)
  case' rest12 => simp only [Act.put, List.setIfInBounds_toArray, List.set_cons_zero, List.set_cons_succ]
  refine wpE_done (by kernel_rfl) (fun w' hx => ?_)
  obtain ⟨hc, hf, hz⟩ := bcell hx
  (try simp at hz); (try have hz' := Nat.lt_of_succ_le hz); (try have z0 : w.heap.size < w'.heap.size := by omega); (try have z1 : w.heap.size + 1 < w'.heap.size := by omega); (try have z2 : w.heap.size + 1 + 1 < w'.heap.size := by omega)
  go_wp2_with fail
  refine wp_region_E (by kernel_rfl) (show wpE _ _ _ _ 6 #[false, false, false, false, false, false] _ _ from ?_)
  refine' wpE_val (v := _) (i := 0) rfl (by kernel_rfl) (by kernel_rfl) (by kernel_rfl) (fun _ _ _ h => h) (by first | rfl | (simp [*]; done)) (fun w' hx => ?hy14) ?rest14
  case hy14 => obtain ⟨hc, hf, hz⟩ := bcell hx; go_simp; (try rfl)
  case' rest14 => simp only [Act.put, List.setIfInBounds_toArray, List.set_cons_zero, List.set_cons_succ]
  refine' wpE_call (v := _) (f := _) (args := _) (i := 1) rfl (by kernel_rfl) (by kernel_rfl) (by kernel_rfl) (fun _ _ _ h => h) (by first | rfl | (simp [*]; done)) (fun w' => ?he16) (fun w' hx => ?hy16) ?rest16
  case he16 => go_simp; exact And.intro (by rfl) (by rfl)
  case hy16 => obtain ⟨hc, hf, hz⟩ := bcell hx; exact toAwning_c _ _ _ _ _
  case' rest16 => simp only [Act.put, List.setIfInBounds_toArray, List.set_cons_zero, List.set_cons_succ]
  refine' wpE_val (v := _) (i := 2) rfl (by kernel_rfl) (by kernel_rfl) (by kernel_rfl) (fun _ _ _ h => h) (by first | rfl | (simp [*]; done)) (fun w' hx => ?hy18) ?rest18
  case hy18 => obtain ⟨hc, hf, hz⟩ := bcell hx; go_simp; (try rfl)
  case' rest18 => simp only [Act.put, List.setIfInBounds_toArray, List.set_cons_zero, List.set_cons_succ]
  refine' wpE_call (v := _) (f := _) (args := _) (i := 3) rfl (by kernel_rfl) (by kernel_rfl) (by kernel_rfl) (fun _ _ _ h => h) (by first | rfl | (simp [*]; done)) (fun w' => ?he20) (fun w' hx => ?hy20) ?rest20
  case he20 => go_simp; exact And.intro (by rfl) (by rfl)
  case hy20 => obtain ⟨hc, hf, hz⟩ := bcell hx; exact toAwning_c _ _ _ _ _
  case' rest20 => simp only [Act.put, List.setIfInBounds_toArray, List.set_cons_zero, List.set_cons_succ]
  refine' wpE_call (v := _) (f := _) (args := _) (i := 4) rfl (by kernel_rfl) (by kernel_rfl) (by kernel_rfl) (fun _ _ _ h => h) (by first | rfl | (simp [*]; done)) (fun w' => ?he22) (fun w' hx => ?hy22) ?rest22
  case he22 => go_simp; exact And.intro (by rfl) (by rfl)
  case hy22 => obtain ⟨hc, hf, hz⟩ := bcell hx; exact SameAwning_c _ _ _ _ _ _ _ _ _
  case' rest22 => simp only [Act.put, List.setIfInBounds_toArray, List.set_cons_zero, List.set_cons_succ]
  refine' wpE_val (v := _) (i := 5) rfl (by kernel_rfl) (by kernel_rfl) (by kernel_rfl) (fun _ _ _ h => h) (by first | rfl | (simp [*]; done)) (fun w' hx => ?hy24) ?rest24
  case hy24 => obtain ⟨hc, hf, hz⟩ := bcell hx; go_simp; (try rfl)
  case' rest24 => simp only [Act.put, List.setIfInBounds_toArray, List.set_cons_zero, List.set_cons_succ]
  refine wpE_done (by kernel_rfl) (fun w' hx => ?_)
  obtain ⟨hc, hf, hz⟩ := bcell hx
  (try simp at hz); (try have hz' := Nat.lt_of_succ_le hz); (try have z0 : w.heap.size < w'.heap.size := by omega); (try have z1 : w.heap.size + 1 < w'.heap.size := by omega); (try have z2 : w.heap.size + 1 + 1 < w'.heap.size := by omega)
  go_wp2
  go_ret
  refine ⟨rfl, ?_⟩
  (repeat (first | exact Below.refl _ _ | refine Below.alloc ?_ (by first | omega | (simp; done) | (simp; omega)) _ | refine Below.setCell ?_ (by first | omega | (simp; done) | (simp; omega)) _ | refine Below.drew ?_ | refine Below.trans ?_ (Below.mono (by assumption) (by first | omega | (simp; done) | (simp; omega)))))
def vKeeper (a : Nat) (b : Nat) (c : Int) : Bool := isFineF a && isFineF b && fle b a && inn c 1 24
theorem ValidKeeper_c (a : Nat) (b : Nat) (c : Int) (w : World) (bc : -128 ≤ c ∧ c ≤ 127) :
    Calls Try.prog 23 #[.agg #[.float .f32 a, .float .f32 b, .int .i8 c]] w fun e w' => e = .returned (.bool (vKeeper a b c)) ∧ Below w.heap.size w w' := by
  obtain ⟨bc1, bc2⟩ := bc
  go_enter Try.func23, Try.ntmps23
  go_wp2_with (first | (go_at_call 57; refine (isFine_c _ _).mono ?_; rintro e w' ⟨rfl, rfl⟩) | (go_at_call 55; refine (within_c _ _ _ _).mono ?_; rintro e w' ⟨rfl, rfl⟩))
  all_goals (go_ret; exact ⟨by simp [vKeeper, *], by (repeat (first | exact Below.refl _ _ | refine Below.alloc ?_ (by first | omega | (simp; done) | (simp; omega)) _ | refine Below.setCell ?_ (by first | omega | (simp; done) | (simp; omega)) _ | refine Below.drew ?_ | refine Below.trans ?_ (Below.mono (by assumption) (by first | omega | (simp; done) | (simp; omega)))))⟩)
theorem l04Keeper_c (a : Nat) (b : Nat) (c : Int) (w : World) (bc : -128 ≤ c ∧ c ≤ 127) :
    Calls Try.prog 56 #[.agg #[.float .f32 a, .float .f32 b, .int .i8 c]] w fun e w' => e = .returned (.bool (vKeeper a b c)) ∧ Below w.heap.size w w' := by
  obtain ⟨bc1, bc2⟩ := bc
  go_enter Try.func56, Try.ntmps56
  go_wp2_with (first | (go_at_call 64; refine (l04Gust_c _ _).mono ?_; rintro e w' ⟨rfl, rfl⟩) | (go_at_call 74; refine (l00In_c _ _ _ _).mono ?_; rintro e w' ⟨rfl, rfl⟩))
  all_goals (go_ret; exact ⟨by simp [vKeeper, *], by (repeat (first | exact Below.refl _ _ | refine Below.alloc ?_ (by first | omega | (simp; done) | (simp; omega)) _ | refine Below.setCell ?_ (by first | omega | (simp; done) | (simp; omega)) _ | refine Below.drew ?_ | refine Below.trans ?_ (Below.mono (by assumption) (by first | omega | (simp; done) | (simp; omega)))))⟩)
theorem sValidKeeper_c (a : Nat) (b : Nat) (c : Int) (w : World) (bc : -128 ≤ c ∧ c ≤ 127) :
    Calls Try.prog 21 #[.agg #[.float .f32 a, .float .f32 b, .int .i8 c]] w fun e w' => e = .returned (.bool (vKeeper a b c)) ∧ Below w.heap.size w w' := by
  obtain ⟨bc1, bc2⟩ := bc
  go_enter Try.func21, Try.ntmps21
  go_wp2_with (go_at_call 56; refine (l04Keeper_c _ _ _ _ (by omega)).mono ?_; rintro e w' ⟨rfl, hb⟩; obtain ⟨hc, hf, hz⟩ := bcell hb; (try simp at hz); (try have hz' := Nat.lt_of_succ_le hz); (try have z0 : w.heap.size < w'.heap.size := by omega))
  all_goals (go_ret; exact ⟨rfl, by (repeat (first | exact Below.refl _ _ | refine Below.alloc ?_ (by first | omega | (simp; done) | (simp; omega)) _ | refine Below.setCell ?_ (by first | omega | (simp; done) | (simp; omega)) _ | refine Below.drew ?_ | refine Below.trans ?_ (Below.mono (by assumption) (by first | omega | (simp; done) | (simp; omega)))))⟩)
theorem FnExactValidKeeper_c (a : Nat) (b : Nat) (c : Int) (w : World) (bc : -128 ≤ c ∧ c ≤ 127) :
    Calls Try.prog 5 #[.agg #[.float .f32 a, .float .f32 b, .int .i8 c]] w fun e w' => e = .returned (.bool true) ∧ Below w.heap.size w w' := by
  obtain ⟨bc1, bc2⟩ := bc
  go_enter Try.func5, Try.ntmps5
  go_wp2_with (first | (go_at_call 22; refine (toKeeper_c _ _ _ _).mono ?_; rintro e w' ⟨rfl, hb⟩; obtain ⟨hc, hf, hz⟩ := bcell hb; (try simp at hz); (try have hz' := Nat.lt_of_succ_le hz); (try have z0 : w.heap.size < w'.heap.size := by omega)) | (go_at_call 21; refine (sValidKeeper_c _ _ _ _ (by omega)).mono ?_; rintro e w' ⟨rfl, hb⟩; obtain ⟨hc, hf, hz⟩ := bcell hb; (try simp at hz); (try have hz' := Nat.lt_of_succ_le hz); (try have z0 : w.heap.size < w'.heap.size := by omega)) | (go_at_call 23; refine (ValidKeeper_c _ _ _ _ (by omega)).mono ?_; rintro e w' ⟨rfl, hb⟩; obtain ⟨hc, hf, hz⟩ := bcell hb; (try simp at hz); (try have hz' := Nat.lt_of_succ_le hz); (try have z0 : w.heap.size < w'.heap.size := by omega)))
  go_ret
  refine ⟨rfl, ?_⟩
  (repeat (first | exact Below.refl _ _ | refine Below.alloc ?_ (by first | omega | (simp; done) | (simp; omega)) _ | refine Below.setCell ?_ (by first | omega | (simp; done) | (simp; omega)) _ | refine Below.drew ?_ | refine Below.trans ?_ (Below.mono (by assumption) (by first | omega | (simp; done) | (simp; omega)))))

end Go.Proofs.Ytlogdpcmahbdjaa
