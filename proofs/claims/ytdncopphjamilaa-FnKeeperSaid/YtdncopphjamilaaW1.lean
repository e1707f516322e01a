/- Walks: validity of awnings, states, keepers, ticks, controls, and sameness of awnings and controls; the laws on these. -/
import Derived.Test.YtdncopphjamilaaN
import Derived.Test.YtdncopphjamilaaB
namespace Go.Proofs.Ytdncopphjamilaa
set_option linter.unusedSimpArgs false
set_option linter.unusedVariables false
open Go.ChangeShapes Go.WideShapes Go.ChangeAt Go.RowKit Fl

def vAwning (a : Nat) (b : Nat) (c : Nat) (d : Nat) : Bool := btw a 0 1090519040 && btw b 0 1073741824 && btw c 0 1073741824 && btw d 1040187392 1082130432
theorem ValidAwning_c (a : Nat) (b : Nat) (c : Nat) (d : Nat) (w : World)  :
    Calls Try.prog 137 #[.agg #[.float .f32 a, .float .f32 b, .float .f32 c, .float .f32 d]] w fun e w' => e = .returned (.bool (vAwning a b c d)) ∧ Below w.heap.size w w' := by
  go_enter Try.func137, Try.ntmps137
  go_wp2_with ((go_at_call 171; refine (isBetween_c _ _ _ _).mono ?_; rintro e w' ⟨rfl, rfl⟩))
  all_goals (go_ret; exact ⟨by simp [vAwning, *], by (repeat (first | assumption | exact Below.refl _ _ | refine Below.alloc ?_ (by first | omega | (simp; done) | (simp; omega)) _ | refine Below.setCell ?_ (by first | omega | (simp; done) | (simp; omega)) _ | refine Below.drew ?_ | refine Below.trans ?_ (Below.mono (by assumption) (by first | omega | (simp; done) | (simp; omega)))))⟩)
theorem l04Ok_c (a : Nat) (b : Nat) (c : Nat) (d : Nat) (p o : Nat) (w : World)  (h0 : w.cell? ⟨p, o, none⟩ = some (.float .f32 a)) (h1 : w.cell? ⟨p, o + 1, none⟩ = some (.float .f32 b)) (h2 : w.cell? ⟨p, o + 2, none⟩ = some (.float .f32 c)) (h3 : w.cell? ⟨p, o + 3, none⟩ = some (.float .f32 d)) :
    Calls Try.prog 163 #[.pointer (some ⟨p, o, none⟩)] w fun e w' => e = .returned (.bool (vAwning a b c d)) ∧ w = w' := by
  go_enter Try.func163, Try.ntmps163
  go_wp2_with ((go_at_call 177; refine (l04Between_c _ _ _ _).mono ?_; rintro e w' ⟨rfl, rfl⟩))
  all_goals (go_ret; exact ⟨by simp [vAwning, *], rfl⟩)
def vState (a : Int) (b : Int) (c : Int) : Bool := inn a (-64) 64 && inn b 0 20 && inn c 0 20
def vTick (a : Nat) (b : Nat) (c : Int) : Bool := isPart a && isPart b && inn c 1 64
def sameAwning (a : Nat) (b : Nat) (c : Nat) (d : Nat) (a' : Nat) (b' : Nat) (c' : Nat) (d' : Nat) : Bool := sameF a a' && sameF b b' && sameF c c' && sameF d d'
def vKeeper (a : Nat) (b : Nat) (c : Int) : Bool := isFineF a && isFineF b && fle b a && inn c 1 24
theorem ValidKeeper_c (a : Nat) (b : Nat) (c : Int) (w : World) (bc : -128 ≤ c ∧ c ≤ 127) :
    Calls Try.prog 50 #[.agg #[.float .f32 a, .float .f32 b, .int .i8 c]] w fun e w' => e = .returned (.bool (vKeeper a b c)) ∧ Below w.heap.size w w' := by
  obtain ⟨bc1, bc2⟩ := bc
  go_enter Try.func50, Try.ntmps50
  go_wp2_with (first | (go_at_call 110; refine (isFine_c _ _).mono ?_; rintro e w' ⟨rfl, rfl⟩) | (go_at_call 102; refine (within_c _ _ _ _).mono ?_; rintro e w' ⟨rfl, rfl⟩))
  all_goals (go_ret; exact ⟨by simp [vKeeper, *], by (repeat (first | assumption | exact Below.refl _ _ | refine Below.alloc ?_ (by first | omega | (simp; done) | (simp; omega)) _ | refine Below.setCell ?_ (by first | omega | (simp; done) | (simp; omega)) _ | refine Below.drew ?_ | refine Below.trans ?_ (Below.mono (by assumption) (by first | omega | (simp; done) | (simp; omega)))))⟩)
theorem l04Keeper_c (a : Nat) (b : Nat) (c : Int) (w : World) (bc : -128 ≤ c ∧ c ≤ 127) :
    Calls Try.prog 111 #[.agg #[.float .f32 a, .float .f32 b, .int .i8 c]] w fun e w' => e = .returned (.bool (vKeeper a b c)) ∧ Below w.heap.size w w' := by
  obtain ⟨bc1, bc2⟩ := bc
  go_enter Try.func111, Try.ntmps111
  go_wp2_with (first | (go_at_call 112; refine (l04Gust_c _ _).mono ?_; rintro e w' ⟨rfl, rfl⟩) | (go_at_call 106; refine (l00In_c _ _ _ _).mono ?_; rintro e w' ⟨rfl, rfl⟩))
  all_goals (go_ret; exact ⟨by simp [vKeeper, *], by (repeat (first | assumption | exact Below.refl _ _ | refine Below.alloc ?_ (by first | omega | (simp; done) | (simp; omega)) _ | refine Below.setCell ?_ (by first | omega | (simp; done) | (simp; omega)) _ | refine Below.drew ?_ | refine Below.trans ?_ (Below.mono (by assumption) (by first | omega | (simp; done) | (simp; omega)))))⟩)

end Go.Proofs.Ytdncopphjamilaa

namespace Go.Proofs.Ytdncopphjamilaa
set_option linter.unusedSimpArgs false
set_option linter.unusedVariables false
open Go.ChangeShapes Go.WideShapes Go.ChangeAt Go.RowKit Fl

def strainR (a b c d g : Nat) : Nat := if vAwning a b c d && isFineF g then strainF a g else 0
def strainC (a b c d g : Nat) : Int := if vAwning a b c d then (if isFineF g then 0 else 2) else 1
theorem vAwning_F0 {a b c d : Nat} (h : vAwning a b c d = true) : F0 a ∧ key a ≤ key 1090519040 := by
  unfold vAwning at h; simp only [Bool.and_eq_true] at h; exact btw_F0 h.1.1.1 (by decide)
theorem strainR_nn (a b c d g : Nat) : nn (strainR a b c d g) := by
  unfold strainR
  split
  · rename_i h; simp only [Bool.and_eq_true] at h
    exact (strain_ok (vAwning_F0 h.1).1 (vAwning_F0 h.1).2 (isFine_F0 h.2)).2.2
  · decide
theorem StrainOf_c (a b c d g : Nat) (w : World) :
    Calls Try.prog 69 #[.agg #[.float .f32 a, .float .f32 b, .float .f32 c, .float .f32 d], .float .f32 g] w fun e w' => e = .returned (.tuple #[.float .f32 (strainR a b c d g), .int .i64 (strainC a b c d g)]) ∧ Below w.heap.size w w' := by
  cases hv : vAwning a b c d
  · go_enter Try.func69, Try.ntmps69
    go_wp2_with (go_at_call 137; refine (ValidAwning_c _ _ _ _ _).mono ?_; rintro e w' ⟨rfl, hb⟩; obtain ⟨hc, hf, hz⟩ := bcell hb; (try simp at hz); (try have hz' := Nat.lt_of_succ_le hz); (try have z0 : w.heap.size < w'.heap.size := by omega))
    go_ret2
    exact ⟨by simp [strainR, strainC, hv], by (repeat (first | assumption | exact Below.refl _ _ | refine Below.alloc ?_ (by first | omega | (simp; done) | (simp; omega)) _ | refine Below.setCell ?_ (by first | omega | (simp; done) | (simp; omega)) _ | refine Below.drew ?_ | refine Below.trans ?_ (Below.mono (by assumption) (by first | omega | (simp; done) | (simp; omega)))))⟩
  · cases hg : isFineF g
    · go_enter Try.func69, Try.ntmps69
      go_wp2_with (first | (go_at_call 137; refine (ValidAwning_c _ _ _ _ _).mono ?_; rintro e w' ⟨rfl, hb⟩; obtain ⟨hc, hf, hz⟩ := bcell hb; (try simp at hz); (try have hz' := Nat.lt_of_succ_le hz); (try have z0 : w.heap.size < w'.heap.size := by omega)) | (go_at_call 110; refine (isFine_c _ _).mono ?_; rintro e w' ⟨rfl, rfl⟩))
      go_ret2
      exact ⟨by simp [strainR, strainC, hv, hg], by (repeat (first | assumption | exact Below.refl _ _ | refine Below.alloc ?_ (by first | omega | (simp; done) | (simp; omega)) _ | refine Below.setCell ?_ (by first | omega | (simp; done) | (simp; omega)) _ | refine Below.drew ?_ | refine Below.trans ?_ (Below.mono (by assumption) (by first | omega | (simp; done) | (simp; omega)))))⟩
    · obtain ⟨m1, m2, _⟩ := strain_ok (vAwning_F0 hv).1 (vAwning_F0 hv).2 (isFine_F0 hg)
      go_enter Try.func69, Try.ntmps69
      go_wp2_with (first | (go_at_call 137; refine (ValidAwning_c _ _ _ _ _).mono ?_; rintro e w' ⟨rfl, hb⟩; obtain ⟨hc, hf, hz⟩ := bcell hb; (try simp at hz); (try have hz' := Nat.lt_of_succ_le hz); (try have z0 : w.heap.size < w'.heap.size := by omega)) | (go_at_call 110; refine (isFine_c _ _).mono ?_; rintro e w' ⟨rfl, rfl⟩) | (go_at_call 135; refine (strain_c _ _ _ m1 m2).mono ?_; rintro e w' ⟨rfl, rfl⟩))
      go_ret2
      exact ⟨by simp [strainR, strainC, hv, hg], by (repeat (first | assumption | exact Below.refl _ _ | refine Below.alloc ?_ (by first | omega | (simp; done) | (simp; omega)) _ | refine Below.setCell ?_ (by first | omega | (simp; done) | (simp; omega)) _ | refine Below.drew ?_ | refine Below.trans ?_ (Below.mono (by assumption) (by first | omega | (simp; done) | (simp; omega)))))⟩

/-! ### LongestFor -/
/-- n eighths. -/
def eighth (n : Nat) : Nat := fdiv (fofInt n) 1090519040
def eighthB (n : Nat) : Bool := (S.div (fofInt n) 1090519040).isSome && decide (fin (eighth n)) && decide (0 ≤ key (eighth n)) && decide (key (eighth n) ≤ key 1090519040)
theorem eighth_all : (List.range 65).all eighthB = true := by decide +kernel
theorem eighth_ok {n : Nat} (h : n ≤ 64) : DivOk (fofInt n) 1090519040 ∧ F0 (eighth n) ∧ key (eighth n) ≤ key 1090519040 := by
  have := List.all_eq_true.1 eighth_all n (by simp; omega)
  simp only [eighthB, Bool.and_eq_true, decide_eq_true_eq] at this
  obtain ⟨⟨⟨h1, h2⟩, h3⟩, h4⟩ := this
  exact ⟨Option.isSome_iff_exists.1 h1, ⟨h2, h3⟩, h4⟩
/-- The longest of n eighths. -/
def longest (g b : Nat) : Nat → Nat
  | 0 => 0
  | n + 1 => if fle (strainF (eighth (n + 1)) g) b then eighth (n + 1) else longest g b n
theorem longest_nn (g b : Nat) : ∀ n, n ≤ 64 → nn (longest g b n)
  | 0, _ => by unfold longest; decide
  | n + 1, h => by
    unfold longest; split
    · exact (eighth_ok h).2.1.1.nn
    · exact longest_nn g b n (by omega)
def longR (g b : Nat) : Nat := if isFineF g && isFineF b then longest g b 64 else 0
def longC (g b : Nat) : Int := if isFineF g && isFineF b then 0 else 2
theorem longR_nn (g b : Nat) : nn (longR g b) := by
  unfold longR; split
  · exact longest_nn g b 64 (by omega)
  · decide
theorem ret_f32i {a b : Nat} {c : Int} (h : a = b) : Ending.returned (.tuple #[.float .f32 a, .int .i64 c]) = .returned (.tuple #[.float .f32 b, .int .i64 c]) := by rw [h]

/-- The best before number n of the program's loop. -/
def bestTo (g b : Nat) : Nat → Nat
  | 0 => 0
  | n + 1 => longest g b n
theorem bestTo_step (g b : Nat) : ∀ n, bestTo g b (n + 1) = if fle (strainF (eighth n) g) b then eighth n else bestTo g b n
  | 0 => by
    have h : eighth 0 = 0 := by decide
    simp only [bestTo, longest, h]
    split <;> rfl
  | n + 1 => rfl
set_option maxHeartbeats 1000000 in
theorem LongestFor_c (g b : Nat) (w : World) :
    Calls Try.prog 67 #[.float .f32 g, .float .f32 b] w fun e w' => e = .returned (.tuple #[.float .f32 (longR g b), .int .i64 (longC g b)]) ∧ w = w' := by
  cases hg : isFineF g
  · go_enter Try.func67, Try.ntmps67
    go_wp2_with (go_at_call 110; refine (isFine_c _ _).mono ?_; rintro e w' ⟨rfl, rfl⟩)
    go_ret2
    exact ⟨by simp [longR, longC, hg], rfl⟩
  · cases hb : isFineF b
    · go_enter Try.func67, Try.ntmps67
      go_wp2_with (go_at_call 110; refine (isFine_c _ _).mono ?_; rintro e w' ⟨rfl, rfl⟩)
      go_ret2
      exact ⟨by simp [longR, longC, hg, hb], rfl⟩
    · have fg := isFine_F0 hg
      go_enter Try.func67, Try.ntmps67
      go_wp2_with (go_at_call 110; refine (isFine_c _ _).mono ?_; rintro e w' ⟨rfl, rfl⟩)
      go_loop [6, 17] (fun s i => ∃ n : Nat, n ≤ 65 ∧ i = .int .i64 n ∧ s = .float .f32 (bestTo g b n)) (fun _ i => (65 - intOf i).toNat)
      case atStart => exact ⟨0, by omega, rfl, rfl⟩
      case round =>
        obtain ⟨n, hn, rfl, rfl⟩ := hrel
        by_cases hlt : n < 65
        · obtain ⟨dk, f0, kk⟩ := eighth_ok (n := n) (by omega)
          obtain ⟨m1, m2, m3⟩ := strain_ok f0 kk fg; clear m3
          have HS := Lib.hid (bestTo_step g b n)
          clear f0 kk
          cases hf : fle (strainF (eighth n) g) b
          all_goals
            unfold eighth at *
            go_wp2_with (go_at_call 135; refine (strain_c _ _ _ m1 m2).mono ?_; rintro e w' ⟨rfl, rfl⟩)
            go_round
            case rel => exact ⟨n + 1, by omega, by go_num, by rw [HS.out]; simp [hf]⟩
            case measure => simp [intOf]; omega
        · obtain rfl : n = 65 := by omega
          go_wp2
          go_ret2
          exact ⟨by simp [longR, longC, hg, hb, bestTo], rfl⟩
set_option maxHeartbeats 1000000 in
theorem sLongestFor_c (g b : Nat) (w : World) :
    Calls Try.prog 68 #[.float .f32 g, .float .f32 b] w fun e w' => e = .returned (.tuple #[.float .f32 (longR g b), .int .i64 (longC g b)]) ∧ w = w' := by
  cases hg : isFineF g
  · go_enter Try.func68, Try.ntmps68
    go_wp2_with (go_at_call 112; refine (l04Gust_c _ _).mono ?_; rintro e w' ⟨rfl, rfl⟩)
    go_ret2
    exact ⟨by simp [longR, longC, hg], rfl⟩
  · cases hb : isFineF b
    · go_enter Try.func68, Try.ntmps68
      go_wp2_with (go_at_call 112; refine (l04Gust_c _ _).mono ?_; rintro e w' ⟨rfl, rfl⟩)
      go_ret2
      exact ⟨by simp [longR, longC, hg, hb], rfl⟩
    · have fg := isFine_F0 hg
      go_enter Try.func68, Try.ntmps68
      go_wp2_with (go_at_call 112; refine (l04Gust_c _ _).mono ?_; rintro e w' ⟨rfl, rfl⟩)
      go_loop [6, 7] (fun s i => ∃ n : Nat, n ≤ 64 ∧ i = .int .i64 ((n : Int) + 1) ∧ s = .float .f32 (longest g b n)) (fun _ i => (65 - intOf i).toNat)
      case atStart => exact ⟨0, by omega, rfl, rfl⟩
      case round =>
        obtain ⟨n, hn, rfl, rfl⟩ := hrel
        by_cases hlt : n < 64
        · obtain ⟨dk, f0, kk⟩ := eighth_ok (n := n + 1) (by omega)
          obtain ⟨m1, m2, m3⟩ := strain_ok f0 kk fg; clear m3
          have HS := Lib.hid (show longest g b (n + 1) = if fle (strainF (eighth (n + 1)) g) b then eighth (n + 1) else longest g b n from rfl)
          clear f0 kk
          cases hf : fle (strainF (eighth (n + 1)) g) b
          all_goals
            unfold eighth at *
            rw [show ((n + 1 : Nat) : Int) = (n : Int) + 1 from by omega] at dk m1 m2 hf HS
            go_wp2_with (go_at_call 136; refine (l04Strain_c _ _ _ m1 m2).mono ?_; rintro e w' ⟨rfl, rfl⟩)
            go_round
            case rel => exact ⟨n + 1, by omega, by go_num, by rw [HS.out]; simp [hf]⟩
            case measure => simp [intOf]; omega
        · obtain rfl : n = 64 := by omega
          go_wp2
          go_ret2
          exact ⟨by simp [longR, longC, hg, hb], rfl⟩

end Go.Proofs.Ytdncopphjamilaa
