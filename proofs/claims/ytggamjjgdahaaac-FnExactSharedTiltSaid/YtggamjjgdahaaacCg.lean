/- The least number over all tilts. -/
import Derived.Test.YtggamjjgdahaaacCb
namespace Go.Proofs.Ytggamjjgdahaaac.Vx
open Go Go.RowKit Fl
set_option maxRecDepth 100000
set_option maxHeartbeats 2000000
set_option linter.unusedSimpArgs false
set_option linter.unusedVariables false

/-- The first tilt with the least number, among so many and one more. -/
def bestN (V : Int → Nat) : Nat → Int × Nat
  | 0 => (-64, V (-64))
  | k + 1 => if flt (V (-63 + k)) (bestN V k).2 then (-63 + k, V (-63 + k)) else bestN V k
theorem bestN_P0 {V : Int → Nat} (h : ∀ t, -64 ≤ t → t ≤ 64 → P0 (V t)) : ∀ k, k ≤ 128 → P0 (bestN V k).2
  | 0, _ => h _ (by omega) (by omega)
  | k + 1, hk => by
    unfold bestN
    split
    · exact h _ (by omega) (by omega)
    · exact bestN_P0 h k (by omega)
/-- The best, as it goes, from nothing. -/
def besS (V : Int → Nat) : Nat → Int × Nat
  | 0 => (0, 3212836864)
  | k + 1 => bestN V k
theorem besS_yes {V : Int → Nat} (h : ∀ t, -64 ≤ t → t ≤ 64 → P0 (V t)) {k : Nat} (hk : k ≤ 128) (hc : flt (besS V k).2 0 = true) : besS V (k + 1) = (-64 + (k : Int), V (-64 + k)) := by
  cases k with
  | zero => rfl
  | succ j =>
    have := (flt_key hc).2.2
    rw [key_z] at this
    have := (bestN_P0 h j (by omega)).2
    simp only [besS] at *
    omega
theorem besS_less {V : Int → Nat} {k : Nat} (hz : flt (besS V k).2 0 = false) (hc : flt (V (-64 + k)) (besS V k).2 = true) : besS V (k + 1) = (-64 + (k : Int), V (-64 + k)) := by
  cases k with
  | zero => rfl
  | succ j =>
    have e : -64 + ((j + 1 : Nat) : Int) = -63 + j := by omega
    rw [e] at hc ⊢
    simp only [besS] at *
    rw [bestN, if_pos hc]
theorem besS_no {V : Int → Nat} {k : Nat} (hz : flt (besS V k).2 0 = false) (hc : flt (V (-64 + k)) (besS V k).2 = false) : besS V (k + 1) = besS V k := by
  cases k with
  | zero => exact absurd hz (show ¬flt 3212836864 0 = false by decide)
  | succ j =>
    have e : -64 + ((j + 1 : Nat) : Int) = -63 + j := by omega
    rw [e] at hc
    simp only [besS] at *
    rw [bestN, if_neg (by simp [hc])]
abbrev hB (h : Int) : Blk := .lit [.f (.int .i64 h)] false
end Go.Proofs.Ytggamjjgdahaaac.Vx
