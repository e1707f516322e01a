/- Walks: validity of awnings, states, keepers, ticks, controls, and sameness of awnings and controls; the laws on these. -/
import Derived.Test.YtpcnpmhpelbndaaGreatDoorN
import Derived.Test.YtpcnpmhpelbndaaGreatDoorB
namespace Go.Proofs.YtpcnpmhpelbndaaGreatDoor
set_option linter.unusedSimpArgs false
set_option linter.unusedVariables false
open Go.ChangeShapes Go.WideShapes Go.ChangeAt Go.RowKit Fl

def vAwning (a : Nat) (b : Nat) (c : Nat) (d : Nat) : Bool := btw a 0 1090519040 && btw b 0 1073741824 && btw c 0 1073741824 && btw d 1040187392 1082130432
theorem ValidAwning_c (a : Nat) (b : Nat) (c : Nat) (d : Nat) (w : World)  :
    Calls Tryz.prog 48 #[.agg #[.float .f32 a, .float .f32 b, .float .f32 c, .float .f32 d]] w fun e w' => e = .returned (.bool (vAwning a b c d)) ∧ Below w.heap.size w w' := by
  go_enter Tryz.func48, Tryz.ntmps48
  go_wp2_with ((go_at_call 117; refine (isBetween_c _ _ _ _).mono ?_; rintro e w' ⟨rfl, rfl⟩))
  all_goals (go_ret; exact ⟨by simp [vAwning, *], by (repeat (first | assumption | exact Below.refl _ _ | refine Below.alloc ?_ (by first | omega | (simp; done) | (simp; omega)) _ | refine Below.setCell ?_ (by first | omega | (simp; done) | (simp; omega)) _ | refine Below.drew ?_ | refine Below.trans ?_ (Below.mono (by assumption) (by first | omega | (simp; done) | (simp; omega)))))⟩)
theorem l04Ok_c (a : Nat) (b : Nat) (c : Nat) (d : Nat) (p o : Nat) (w : World)  (h0 : w.cell? ⟨p, o, none⟩ = some (.float .f32 a)) (h1 : w.cell? ⟨p, o + 1, none⟩ = some (.float .f32 b)) (h2 : w.cell? ⟨p, o + 2, none⟩ = some (.float .f32 c)) (h3 : w.cell? ⟨p, o + 3, none⟩ = some (.float .f32 d)) :
    Calls Tryz.prog 126 #[.pointer (some ⟨p, o, none⟩)] w fun e w' => e = .returned (.bool (vAwning a b c d)) ∧ w = w' := by
  go_enter Tryz.func126, Tryz.ntmps126
  go_wp2_with ((go_at_call 163; refine (l04Between_c _ _ _ _).mono ?_; rintro e w' ⟨rfl, rfl⟩))
  all_goals (go_ret; exact ⟨by simp [vAwning, *], rfl⟩)
def vState (a : Int) (b : Int) (c : Int) : Bool := inn a (-64) 64 && inn b 0 20 && inn c 0 20
def vTick (a : Nat) (b : Nat) (c : Int) : Bool := isPart a && isPart b && inn c 1 64
def sameAwning (a : Nat) (b : Nat) (c : Nat) (d : Nat) (a' : Nat) (b' : Nat) (c' : Nat) (d' : Nat) : Bool := sameF a a' && sameF b b' && sameF c c' && sameF d d'
theorem SameAwning_c (a : Nat) (b : Nat) (c : Nat) (d : Nat) (a' : Nat) (b' : Nat) (c' : Nat) (d' : Nat) (w : World) :
    Calls Tryz.prog 47 #[.agg #[.float .f32 a, .float .f32 b, .float .f32 c, .float .f32 d], .agg #[.float .f32 a', .float .f32 b', .float .f32 c', .float .f32 d']] w fun e w' => e = .returned (.bool (sameAwning a b c d a' b' c' d')) ∧ Below w.heap.size w w' := by
  go_enter Tryz.func47, Tryz.ntmps47
  go_wp2_with ((go_at_call 89; refine (SameNumber_c _ _ _).mono ?_; rintro e w' ⟨rfl, rfl⟩))
  all_goals (go_ret; exact ⟨by first | (simp [sameAwning, *]; done) | (simp only [Bool.not_eq_true', Bool.not_eq_false'] at *; simp [sameAwning, *]), by (repeat (first | assumption | exact Below.refl _ _ | refine Below.alloc ?_ (by first | omega | (simp; done) | (simp; omega)) _ | refine Below.setCell ?_ (by first | omega | (simp; done) | (simp; omega)) _ | refine Below.drew ?_ | refine Below.trans ?_ (Below.mono (by assumption) (by first | omega | (simp; done) | (simp; omega)))))⟩)
theorem sSameAwning_c (a : Nat) (b : Nat) (c : Nat) (d : Nat) (a' : Nat) (b' : Nat) (c' : Nat) (d' : Nat) (w : World) :
    Calls Tryz.prog 46 #[.agg #[.float .f32 a, .float .f32 b, .float .f32 c, .float .f32 d], .agg #[.float .f32 a', .float .f32 b', .float .f32 c', .float .f32 d']] w fun e w' => e = .returned (.bool (sameAwning a b c d a' b' c' d')) ∧ Below w.heap.size w w' := by
  go_enter Tryz.func46, Tryz.ntmps46
  go_wp2_with ((go_at_call 88; refine (l01Same_c _ _ _).mono ?_; rintro e w' ⟨rfl, rfl⟩))
  all_goals (go_ret; exact ⟨by first | (simp [sameAwning, *]; done) | (simp only [Bool.not_eq_true', Bool.not_eq_false'] at *; simp [sameAwning, *]), by (repeat (first | assumption | exact Below.refl _ _ | refine Below.alloc ?_ (by first | omega | (simp; done) | (simp; omega)) _ | refine Below.setCell ?_ (by first | omega | (simp; done) | (simp; omega)) _ | refine Below.drew ?_ | refine Below.trans ?_ (Below.mono (by assumption) (by first | omega | (simp; done) | (simp; omega)))))⟩)
def vKeeper (a : Nat) (b : Nat) (c : Int) : Bool := isFineF a && isFineF b && fle b a && inn c 1 24

end Go.Proofs.YtpcnpmhpelbndaaGreatDoor
