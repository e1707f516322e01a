/- Whole numbers as float32, and their quotients. -/
import Derived.Test.YtpcnpmhpelbndaaGreatDoorVs
import Derived.Test.YtpcnpmhpelbndaaGreatDoorVt
namespace Go.Proofs.YtpcnpmhpelbndaaGreatDoor.Vx
open Go Go.RowKit Fl
set_option linter.unusedSimpArgs false
set_option linter.unusedVariables false

theorem ofInt_key (n : Int) : key (fofInt n) = KR 0 n ∧ nn (fofInt n) := by
  have e : fofInt n = S.write (.number (decide (n < 0)) n.natAbs 0) := rfl
  rw [e]
  refine ⟨?_, write_nn _ _ _⟩
  rw [write_key]
  congr 1
  by_cases h : n < 0
  · simp only [h, decide_true, sg, if_true]; omega
  · simp only [h, decide_false, sg, Bool.false_eq_true, if_false]; omega
theorem ofInt_mono {a b : Int} (h : a ≤ b) : key (fofInt a) ≤ key (fofInt b) := by
  rw [(ofInt_key a).1, (ofInt_key b).1]; exact KR_mono 0 h
theorem ofInt_F0 {n : Int} (h0 : 0 ≤ n) (h1 : n ≤ 16777216) : F0 (fofInt n) := by
  have a := ofInt_mono h0
  have b := ofInt_mono h1
  have z : key (fofInt 0) = 0 := by decide
  have t : key (fofInt 16777216) < 2139095040 := by decide
  exact ⟨fin_of_key (ofInt_key n).2 (by omega) (by omega), by omega⟩
theorem quo_ok {n m : Int} {d : Nat} {T : Int} (h0 : 0 ≤ n) (h1 : n ≤ m) (hm : m ≤ 16777216) (hd : fin d) (hp : 0 < key d) (hT : key (fdiv (fofInt m) d) ≤ T) (hi : T < 2139095040) :
    DivOk (fofInt n) d ∧ F0 (fdiv (fofInt n) d) ∧ key (fdiv (fofInt n) d) ≤ T := by
  have a := ofInt_F0 h0 (by omega)
  have b := ofInt_F0 (n := m) (by omega) hm
  obtain ⟨c1, c2⟩ := div_F0 a hd hp
  have k := div_mono a.1 b.1 hd hp (ofInt_mono h1)
  exact ⟨c1, ⟨fin_of_key c2.1 (by omega) (by have := c2.2; omega), c2.2⟩, by omega⟩
/-- A part: from 0 to 1. -/
def Prt (x : Nat) : Prop := F0 x ∧ key x ≤ key 1065353216
theorem part16 {n : Int} (h0 : 0 ≤ n) (h1 : n < 17) : DivOk (fofInt n) 1098907648 ∧ Prt (fdiv (fofInt n) 1098907648) := by
  obtain ⟨a, b, c⟩ := quo_ok (m := 16) (d := 1098907648) (T := key 1065353216) h0 (by omega) (by omega) (by decide) (by decide) (by decide) (by decide)
  exact ⟨a, b, c⟩
theorem part1000 {n : Int} (h0 : 0 ≤ n) (h1 : n < 1001) : DivOk (fofInt n) 1148846080 ∧ Prt (fdiv (fofInt n) 1148846080) := by
  obtain ⟨a, b, c⟩ := quo_ok (m := 1000) (d := 1148846080) (T := key 1065353216) h0 (by omega) (by omega) (by decide) (by decide) (by decide) (by decide)
  exact ⟨a, b, c⟩
theorem part24 {n : Int} (h0 : 0 ≤ n) (h1 : n ≤ 16777216) : DivOk (fofInt n) 1266679808 ∧ Prt (fdiv (fofInt n) 1266679808) := by
  obtain ⟨a, b, c⟩ := quo_ok (m := 16777216) (d := 1266679808) (T := key 1065353216) h0 h1 (by omega) (by decide) (by decide) (by decide) (by decide)
  exact ⟨a, b, c⟩
theorem raw24 (x y : Int) : 0 ≤ shrI .u32 (bitI .or .u32 x y) 8 ∧ shrI .u32 (bitI .or .u32 x y) 8 ≤ 16777216 := by
  have h : (BitVec.ofInt 32 x ||| BitVec.ofInt 32 y).toNat < 4294967296 := (BitVec.ofInt 32 x ||| BitVec.ofInt 32 y).isLt
  have e : bitI .or .u32 x y = IntKind.u32.wrap ((BitVec.ofInt 32 x ||| BitVec.ofInt 32 y).toNat : Int) := rfl
  rw [e]
  generalize (BitVec.ofInt 32 x ||| BitVec.ofInt 32 y).toNat = z at *
  have w : IntKind.u32.wrap (z : Int) = z := wr_u32 _ (by omega) (by omega)
  rw [w]
  have e2 : (2 : Int) ^ min (8 : Int).toNat IntKind.u32.bits = 256 := by decide
  unfold shrI
  rw [e2, Int.fdiv_eq_ediv_of_nonneg _ (by omega)]
  omega
theorem tm_ok {b k : Int} (hb : 0 ≤ b) (hk : 0 < k) : 0 ≤ b.tmod k ∧ b.tmod k < k := ⟨Int.tmod_nonneg k hb, Int.tmod_lt_of_pos b hk⟩
end Go.Proofs.YtpcnpmhpelbndaaGreatDoor.Vx
