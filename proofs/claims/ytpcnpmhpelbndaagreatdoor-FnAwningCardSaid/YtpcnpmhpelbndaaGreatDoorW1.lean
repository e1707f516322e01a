/- Walks: validity of awnings, states, keepers, ticks, controls, and sameness of awnings and controls; the laws on these. -/
import Derived.Test.YtpcnpmhpelbndaaGreatDoorN
import Derived.Test.YtpcnpmhpelbndaaGreatDoorB
namespace Go.Proofs.YtpcnpmhpelbndaaGreatDoor
set_option linter.unusedSimpArgs false
set_option linter.unusedVariables false
open Go.ChangeShapes Go.WideShapes Go.ChangeAt Go.RowKit Fl

def vAwning (a : Nat) (b : Nat) (c : Nat) (d : Nat) : Bool := btw a 0 1090519040 && btw b 0 1073741824 && btw c 0 1073741824 && btw d 1040187392 1082130432
theorem ValidAwning_c (a : Nat) (b : Nat) (c : Nat) (d : Nat) (w : World)  :
    Calls Tryz.prog 48 #[.agg #[.float .f32 a, .float .f32 b, .float .f32 c, .float .f32 d]] w fun e w' => e = .returned (.bool (vAwning a b c d)) ∧ Below w.heap.size w w' := by
  go_enter Tryz.func48, Tryz.ntmps48
  go_wp2_with ((go_at_call 117; refine (isBetween_c _ _ _ _).mono ?_; rintro e w' ⟨rfl, rfl⟩))
  all_goals (go_ret; exact ⟨by simp [vAwning, *], by (repeat (first | assumption | exact Below.refl _ _ | refine Below.alloc ?_ (by first | omega | (simp; done) | (simp; omega)) _ | refine Below.setCell ?_ (by first | omega | (simp; done) | (simp; omega)) _ | refine Below.drew ?_ | refine Below.trans ?_ (Below.mono (by assumption) (by first | omega | (simp; done) | (simp; omega)))))⟩)
theorem l04Ok_c (a : Nat) (b : Nat) (c : Nat) (d : Nat) (p o : Nat) (w : World)  (h0 : w.cell? ⟨p, o, none⟩ = some (.float .f32 a)) (h1 : w.cell? ⟨p, o + 1, none⟩ = some (.float .f32 b)) (h2 : w.cell? ⟨p, o + 2, none⟩ = some (.float .f32 c)) (h3 : w.cell? ⟨p, o + 3, none⟩ = some (.float .f32 d)) :
    Calls Tryz.prog 126 #[.pointer (some ⟨p, o, none⟩)] w fun e w' => e = .returned (.bool (vAwning a b c d)) ∧ w = w' := by
  go_enter Tryz.func126, Tryz.ntmps126
  go_wp2_with ((go_at_call 163; refine (l04Between_c _ _ _ _).mono ?_; rintro e w' ⟨rfl, rfl⟩))
  all_goals (go_ret; exact ⟨by simp [vAwning, *], rfl⟩)
def vState (a : Int) (b : Int) (c : Int) : Bool := inn a (-64) 64 && inn b 0 20 && inn c 0 20
def vTick (a : Nat) (b : Nat) (c : Int) : Bool := isPart a && isPart b && inn c 1 64
def sameAwning (a : Nat) (b : Nat) (c : Nat) (d : Nat) (a' : Nat) (b' : Nat) (c' : Nat) (d' : Nat) : Bool := sameF a a' && sameF b b' && sameF c c' && sameF d d'
theorem SameAwning_c (a : Nat) (b : Nat) (c : Nat) (d : Nat) (a' : Nat) (b' : Nat) (c' : Nat) (d' : Nat) (w : World) :
    Calls Tryz.prog 47 #[.agg #[.float .f32 a, .float .f32 b, .float .f32 c, .float .f32 d], .agg #[.float .f32 a', .float .f32 b', .float .f32 c', .float .f32 d']] w fun e w' => e = .returned (.bool (sameAwning a b c d a' b' c' d')) ∧ Below w.heap.size w w' := by
  go_enter Tryz.func47, Tryz.ntmps47
  go_wp2_with ((go_at_call 89; refine (SameNumber_c _ _ _).mono ?_; rintro e w' ⟨rfl, rfl⟩))
  all_goals (go_ret; exact ⟨by first | (simp [sameAwning, *]; done) | (simp only [Bool.not_eq_true', Bool.not_eq_false'] at *; simp [sameAwning, *]), by (repeat (first | assumption | exact Below.refl _ _ | refine Below.alloc ?_ (by first | omega | (simp; done) | (simp; omega)) _ | refine Below.setCell ?_ (by first | omega | (simp; done) | (simp; omega)) _ | refine Below.drew ?_ | refine Below.trans ?_ (Below.mono (by assumption) (by first | omega | (simp; done) | (simp; omega)))))⟩)
theorem sSameAwning_c (a : Nat) (b : Nat) (c : Nat) (d : Nat) (a' : Nat) (b' : Nat) (c' : Nat) (d' : Nat) (w : World) :
    Calls Tryz.prog 46 #[.agg #[.float .f32 a, .float .f32 b, .float .f32 c, .float .f32 d], .agg #[.float .f32 a', .float .f32 b', .float .f32 c', .float .f32 d']] w fun e w' => e = .returned (.bool (sameAwning a b c d a' b' c' d')) ∧ Below w.heap.size w w' := by
  go_enter Tryz.func46, Tryz.ntmps46
  go_wp2_with ((go_at_call 88; refine (l01Same_c _ _ _).mono ?_; rintro e w' ⟨rfl, rfl⟩))
  all_goals (go_ret; exact ⟨by first | (simp [sameAwning, *]; done) | (simp only [Bool.not_eq_true', Bool.not_eq_false'] at *; simp [sameAwning, *]), by (repeat (first | assumption | exact Below.refl _ _ | refine Below.alloc ?_ (by first | omega | (simp; done) | (simp; omega)) _ | refine Below.setCell ?_ (by first | omega | (simp; done) | (simp; omega)) _ | refine Below.drew ?_ | refine Below.trans ?_ (Below.mono (by assumption) (by first | omega | (simp; done) | (simp; omega)))))⟩)
def vKeeper (a : Nat) (b : Nat) (c : Int) : Bool := isFineF a && isFineF b && fle b a && inn c 1 24

end Go.Proofs.YtpcnpmhpelbndaaGreatDoor

namespace Go.Proofs.YtpcnpmhpelbndaaGreatDoor
open Go.ChangeShapes Go.WideShapes Go.ChangeAt Go.RowKit Fl

def strainR (a b c d g : Nat) : Nat := if vAwning a b c d && isFineF g then strainF a g else 0
def strainC (a b c d g : Nat) : Int := if vAwning a b c d then (if isFineF g then 0 else 2) else 1
theorem vAwning_F0 {a b c d : Nat} (h : vAwning a b c d = true) : F0 a ∧ key a ≤ key 1090519040 := by
  unfold vAwning at h; simp only [Bool.and_eq_true] at h; exact btw_F0 h.1.1.1 (by decide)
theorem strainR_nn (a b c d g : Nat) : nn (strainR a b c d g) := by
  unfold strainR
  split
  · rename_i h; simp only [Bool.and_eq_true] at h
    exact (strain_ok (vAwning_F0 h.1).1 (vAwning_F0 h.1).2 (isFine_F0 h.2)).2.2
  · decide

/-! ### LongestFor -/
/-- n eighths. -/
def eighth (n : Nat) : Nat := fdiv (fofInt n) 1090519040
def eighthB (n : Nat) : Bool := (S.div (fofInt n) 1090519040).isSome && decide (fin (eighth n)) && decide (0 ≤ key (eighth n)) && decide (key (eighth n) ≤ key 1090519040)
theorem eighth_all : (List.range 65).all eighthB = true := by decide +kernel
theorem eighth_ok {n : Nat} (h : n ≤ 64) : DivOk (fofInt n) 1090519040 ∧ F0 (eighth n) ∧ key (eighth n) ≤ key 1090519040 := by
  have := List.all_eq_true.1 eighth_all n (by simp; omega)
  simp only [eighthB, Bool.and_eq_true, decide_eq_true_eq] at this
  obtain ⟨⟨⟨h1, h2⟩, h3⟩, h4⟩ := this
  exact ⟨Option.isSome_iff_exists.1 h1, ⟨h2, h3⟩, h4⟩
/-- The longest of n eighths. -/
def longest (g b : Nat) : Nat → Nat
  | 0 => 0
  | n + 1 => if fle (strainF (eighth (n + 1)) g) b then eighth (n + 1) else longest g b n
theorem longest_nn (g b : Nat) : ∀ n, n ≤ 64 → nn (longest g b n)
  | 0, _ => by unfold longest; decide
  | n + 1, h => by
    unfold longest; split
    · exact (eighth_ok h).2.1.1.nn
    · exact longest_nn g b n (by omega)
def longR (g b : Nat) : Nat := if isFineF g && isFineF b then longest g b 64 else 0
def longC (g b : Nat) : Int := if isFineF g && isFineF b then 0 else 2
theorem longR_nn (g b : Nat) : nn (longR g b) := by
  unfold longR; split
  · exact longest_nn g b 64 (by omega)
  · decide
theorem ret_f32i {a b : Nat} {c : Int} (h : a = b) : Ending.returned (.tuple #[.float .f32 a, .int .i64 c]) = .returned (.tuple #[.float .f32 b, .int .i64 c]) := by rw [h]

/-- The best before number n of the program's loop. -/
def bestTo (g b : Nat) : Nat → Nat
  | 0 => 0
  | n + 1 => longest g b n
theorem bestTo_step (g b : Nat) : ∀ n, bestTo g b (n + 1) = if fle (strainF (eighth n) g) b then eighth n else bestTo g b n
  | 0 => by
    have h : eighth 0 = 0 := by decide
    simp only [bestTo, longest, h]
    split <;> rfl
  | n + 1 => rfl

end Go.Proofs.YtpcnpmhpelbndaaGreatDoor
