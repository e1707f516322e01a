/- Bits of the hours. Plain law. -/
import Derived.Test.YtgdidmcbonkhfaaVc
namespace Go.Proofs.Ytgdidmcbonkhfaa.Vx
open Go Go.RowKit Fl
set_option linter.unusedVariables false

/-- The number with these bits. -/
def nBits (g : Nat → Bool) : Nat → Nat
  | 0 => 0
  | k + 1 => nBits g k + (if g k then 2 ^ k else 0)
theorem nBits_lt (g : Nat → Bool) : ∀ k, nBits g k < 2 ^ k
  | 0 => show 0 < 2 ^ 0 by decide
  | k + 1 => by
    have := nBits_lt g k
    have e : 2 ^ (k + 1) = 2 ^ k + 2 ^ k := by rw [Nat.pow_succ]; omega
    unfold nBits
    split <;> omega
theorem nBits_at (g : Nat → Bool) {h : Nat} : ∀ k, h < k → nBits g k / 2 ^ h % 2 = if g h then 1 else 0
  | 0, hk => by omega
  | k + 1, hk => by
    have hp : 0 < 2 ^ h := Nat.two_pow_pos h
    by_cases c : h = k
    · subst c
      have := nBits_lt g h
      unfold nBits
      split
      · rw [Nat.add_div_right _ hp, Nat.div_eq_of_lt this]
      · rw [Nat.add_zero, Nat.div_eq_of_lt this]
    · have ih := nBits_at g (h := h) k (by omega)
      unfold nBits
      split
      · obtain ⟨j, hj⟩ : ∃ j, k = h + (j + 1) := ⟨k - h - 1, by omega⟩
        have e : 2 ^ k = 2 ^ h * (2 * 2 ^ j) := by rw [hj, Nat.pow_add, Nat.pow_succ]; congr 1; omega
        rw [e, Nat.add_mul_div_left _ _ hp]
        omega
      · rw [Nat.add_zero]; exact ih
theorem wrap_u32 {n : Nat} (h : n < 4294967296) : IntKind.u32.wrap (n : Int) = n := by
  have : IntKind.u32.wrap (n : Int) = (n : Int) % 4294967296 := by
    simp [IntKind.wrap, IntKind.bits, IntKind.signed]
  rw [this]; omega
theorem ofI (n : Nat) : BitVec.ofInt 32 (n : Int) = BitVec.ofNat 32 n := by
  apply BitVec.eq_of_toNat_eq
  simp
theorem shl_one {k : Nat} (hk : k < 32) : shlI .u32 1 k = ((2 ^ k : Nat) : Int) := by
  have : 2 ^ k < 2 ^ 32 := Nat.pow_lt_pow_right (by decide) hk
  unfold shlI
  have e : min (k : Int).toNat IntKind.u32.bits = k := by
    have : IntKind.u32.bits = 32 := rfl
    rw [this, Int.toNat_natCast]; omega
  rw [e, Int.one_mul]
  have e2 : ((2 : Int) ^ k) = ((2 ^ k : Nat) : Int) := by simp
  rw [e2]
  exact wrap_u32 (by omega)
theorem or_bit {n k : Nat} (hn : n < 2 ^ k) (hk : k < 32) : bitI .or .u32 (n : Int) (shlI .u32 1 k) = ((n + 2 ^ k : Nat) : Int) := by
  have h1 : 2 ^ (k + 1) ≤ 2 ^ 32 := Nat.pow_le_pow_right (by decide) (by omega)
  have e : 2 ^ (k + 1) = 2 ^ k + 2 ^ k := by rw [Nat.pow_succ]; omega
  rw [shl_one hk]
  show IntKind.u32.wrap ((BitVec.ofInt 32 (n : Int) ||| BitVec.ofInt 32 ((2 ^ k : Nat) : Int)).toNat : Int) = _
  rw [ofI, ofI, BitVec.toNat_or, BitVec.toNat_ofNat, BitVec.toNat_ofNat, Nat.mod_eq_of_lt (by omega), Nat.mod_eq_of_lt (by omega)]
  have e2 : n ||| 2 ^ k = n + 2 ^ k := by have := Nat.two_pow_add_eq_or_of_lt hn 1; rw [Nat.mul_one] at this; rw [Nat.or_comm, ← this, Nat.add_comm]
  rw [e2]
  exact wrap_u32 (by omega)
theorem and_bit {n h : Nat} (hn : n < 4294967296) (hh : h < 32) : bitI .and .u32 (shrI .u32 (n : Int) h) 1 = ((n / 2 ^ h % 2 : Nat) : Int) := by
  have e : min (h : Int).toNat IntKind.u32.bits = h := by
    have : IntKind.u32.bits = 32 := rfl
    rw [this, Int.toNat_natCast]; omega
  have e2 : ((2 : Int) ^ h) = ((2 ^ h : Nat) : Int) := by simp
  have e3 : shrI .u32 (n : Int) h = ((n / 2 ^ h : Nat) : Int) := by
    unfold shrI
    rw [e, e2]
    rw [Int.fdiv_eq_ediv_of_nonneg _ (Int.natCast_nonneg _)]; rfl
  have hl : n / 2 ^ h < 4294967296 := Nat.lt_of_le_of_lt (Nat.div_le_self _ _) hn
  rw [e3]
  show IntKind.u32.wrap ((BitVec.ofInt 32 ((n / 2 ^ h : Nat) : Int) &&& BitVec.ofInt 32 ((1 : Nat) : Int)).toNat : Int) = _
  rw [ofI, ofI, BitVec.toNat_and, BitVec.toNat_ofNat, BitVec.toNat_ofNat, Nat.mod_eq_of_lt (by omega), Nat.mod_eq_of_lt (by omega), Nat.and_one_is_mod]
  exact wrap_u32 (by omega)
end Go.Proofs.Ytgdidmcbonkhfaa.Vx
