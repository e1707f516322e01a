/- Walks: validity of awnings, states, keepers, ticks, controls, and sameness of awnings and controls; the laws on these. -/
import Derived.Test.YtpcnpmhpelbndaaDoorN
import Derived.Test.YtpcnpmhpelbndaaDoorB
namespace Go.Proofs.YtpcnpmhpelbndaaDoor
set_option linter.unusedSimpArgs false
set_option linter.unusedVariables false
open Go.ChangeShapes Go.WideShapes Go.ChangeAt Go.RowKit Fl

theorem toAwning_c (a : Nat) (b : Nat) (c : Nat) (d : Nat) (w : World) :
    Calls Tryd.prog 11 #[.agg #[.float .f32 a, .float .f32 b, .float .f32 c, .float .f32 d]] w fun e w' => e = .returned (.agg #[.float .f32 a, .float .f32 b, .float .f32 c, .float .f32 d]) ∧ Below w.heap.size w w' := by
  go_enter Tryd.func11, Tryd.ntmps11
  go_wp2
  refine bodyPost_ret (v := .agg #[.float .f32 a, .float .f32 b, .float .f32 c, .float .f32 d]) (by simp [results, Tryd.results11, go_sem]) rfl ⟨rfl, ?_⟩
  (repeat (first | assumption | exact Below.refl _ _ | refine Below.alloc ?_ (by first | omega | (simp; done) | (simp; omega)) _ | refine Below.setCell ?_ (by first | omega | (simp; done) | (simp; omega)) _ | refine Below.drew ?_ | refine Below.trans ?_ (Below.mono (by assumption) (by first | omega | (simp; done) | (simp; omega)))))
def vAwning (a : Nat) (b : Nat) (c : Nat) (d : Nat) : Bool := btw a 0 1090519040 && btw b 0 1073741824 && btw c 0 1073741824 && btw d 1040187392 1082130432
theorem ValidAwning_c (a : Nat) (b : Nat) (c : Nat) (d : Nat) (w : World)  :
    Calls Tryd.prog 27 #[.agg #[.float .f32 a, .float .f32 b, .float .f32 c, .float .f32 d]] w fun e w' => e = .returned (.bool (vAwning a b c d)) ∧ Below w.heap.size w w' := by
  go_enter Tryd.func27, Tryd.ntmps27
  go_wp2_with ((go_at_call 50; refine (isBetween_c _ _ _ _).mono ?_; rintro e w' ⟨rfl, rfl⟩))
  all_goals (go_ret; exact ⟨by simp [vAwning, *], by (repeat (first | assumption | exact Below.refl _ _ | refine Below.alloc ?_ (by first | omega | (simp; done) | (simp; omega)) _ | refine Below.setCell ?_ (by first | omega | (simp; done) | (simp; omega)) _ | refine Below.drew ?_ | refine Below.trans ?_ (Below.mono (by assumption) (by first | omega | (simp; done) | (simp; omega)))))⟩)
theorem l04Ok_c (a : Nat) (b : Nat) (c : Nat) (d : Nat) (p o : Nat) (w : World)  (h0 : w.cell? ⟨p, o, none⟩ = some (.float .f32 a)) (h1 : w.cell? ⟨p, o + 1, none⟩ = some (.float .f32 b)) (h2 : w.cell? ⟨p, o + 2, none⟩ = some (.float .f32 c)) (h3 : w.cell? ⟨p, o + 3, none⟩ = some (.float .f32 d)) :
    Calls Tryd.prog 25 #[.pointer (some ⟨p, o, none⟩)] w fun e w' => e = .returned (.bool (vAwning a b c d)) ∧ w = w' := by
  go_enter Tryd.func25, Tryd.ntmps25
  go_wp2_with ((go_at_call 48; refine (l04Between_c _ _ _ _).mono ?_; rintro e w' ⟨rfl, rfl⟩))
  all_goals (go_ret; exact ⟨by simp [vAwning, *], rfl⟩)
theorem toState_c (a : Int) (b : Int) (c : Int) (w : World) :
    Calls Tryd.prog 8 #[.agg #[.int .i16 a, .int .i8 b, .int .i8 c]] w fun e w' => e = .returned (.agg #[.int .i16 a, .int .i8 b, .int .i8 c]) ∧ Below w.heap.size w w' := by
  go_enter Tryd.func8, Tryd.ntmps8
  go_wp2
  refine bodyPost_ret (v := .agg #[.int .i16 a, .int .i8 b, .int .i8 c]) (by simp [results, Tryd.results8, go_sem]) rfl ⟨rfl, ?_⟩
  (repeat (first | assumption | exact Below.refl _ _ | refine Below.alloc ?_ (by first | omega | (simp; done) | (simp; omega)) _ | refine Below.setCell ?_ (by first | omega | (simp; done) | (simp; omega)) _ | refine Below.drew ?_ | refine Below.trans ?_ (Below.mono (by assumption) (by first | omega | (simp; done) | (simp; omega)))))
def vState (a : Int) (b : Int) (c : Int) : Bool := inn a (-64) 64 && inn b 0 20 && inn c 0 20
theorem ValidState_c (a : Int) (b : Int) (c : Int) (w : World) (ba : -32768 ≤ a ∧ a ≤ 32767) (bb : -128 ≤ b ∧ b ≤ 127) (bc : -128 ≤ c ∧ c ≤ 127) :
    Calls Tryd.prog 23 #[.agg #[.int .i16 a, .int .i8 b, .int .i8 c]] w fun e w' => e = .returned (.bool (vState a b c)) ∧ Below w.heap.size w w' := by
  obtain ⟨ba1, ba2⟩ := ba
  obtain ⟨bb1, bb2⟩ := bb
  obtain ⟨bc1, bc2⟩ := bc
  go_enter Tryd.func23, Tryd.ntmps23
  go_wp2_with (first | (go_at_call 46; refine (isTilt_c _ _).mono ?_; rintro e w' ⟨rfl, rfl⟩) | (go_at_call 47; refine (within_c _ _ _ _).mono ?_; rintro e w' ⟨rfl, rfl⟩))
  all_goals (go_ret; exact ⟨by simp [vState, *], by (repeat (first | assumption | exact Below.refl _ _ | refine Below.alloc ?_ (by first | omega | (simp; done) | (simp; omega)) _ | refine Below.setCell ?_ (by first | omega | (simp; done) | (simp; omega)) _ | refine Below.drew ?_ | refine Below.trans ?_ (Below.mono (by assumption) (by first | omega | (simp; done) | (simp; omega)))))⟩)
theorem l05State_c (a : Int) (b : Int) (c : Int) (p o : Nat) (w : World) (ba : -32768 ≤ a ∧ a ≤ 32767) (bb : -128 ≤ b ∧ b ≤ 127) (bc : -128 ≤ c ∧ c ≤ 127) (h0 : w.cell? ⟨p, o, none⟩ = some (.int .i16 a)) (h1 : w.cell? ⟨p, o + 1, none⟩ = some (.int .i8 b)) (h2 : w.cell? ⟨p, o + 2, none⟩ = some (.int .i8 c)) :
    Calls Tryd.prog 21 #[.pointer (some ⟨p, o, none⟩)] w fun e w' => e = .returned (.bool (vState a b c)) ∧ w = w' := by
  obtain ⟨ba1, ba2⟩ := ba
  obtain ⟨bb1, bb2⟩ := bb
  obtain ⟨bc1, bc2⟩ := bc
  go_enter Tryd.func21, Tryd.ntmps21
  go_wp2_with (first | (go_at_call 42; refine (l02Tilt_c _ _).mono ?_; rintro e w' ⟨rfl, rfl⟩) | (go_at_call 43; refine (l00In_c _ _ _ _).mono ?_; rintro e w' ⟨rfl, rfl⟩))
  all_goals (go_ret; exact ⟨by simp [vState, *], rfl⟩)
def vTick (a : Nat) (b : Nat) (c : Int) : Bool := isPart a && isPart b && inn c 1 64
def sameAwning (a : Nat) (b : Nat) (c : Nat) (d : Nat) (a' : Nat) (b' : Nat) (c' : Nat) (d' : Nat) : Bool := sameF a a' && sameF b b' && sameF c c' && sameF d d'
def vKeeper (a : Nat) (b : Nat) (c : Int) : Bool := isFineF a && isFineF b && fle b a && inn c 1 24

end Go.Proofs.YtpcnpmhpelbndaaDoor
