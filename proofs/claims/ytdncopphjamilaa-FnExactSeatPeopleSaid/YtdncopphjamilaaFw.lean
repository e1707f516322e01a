/- Float32 words: a word is its sign and its rung; comparisons compare signed rungs; sum, difference, product and quotient are rounded exact integers; no program in sight. -/
import Derived.Test.YtdncopphjamilaaFl
namespace Go.Proofs.Ytdncopphjamilaa.Fl
open Ieee

abbrev S : Format := single

def rung (x : Nat) : Nat := x % 2147483648
def sgn (x : Nat) : Bool := x / 2147483648 % 2 == 1
def sg (s : Bool) (n : Nat) : Int := if s then -(n : Int) else n
def key (x : Nat) : Int := sg (sgn x) (rung x)
/-- Not a NaN. -/
def nn (x : Nat) : Prop := rung x ≤ 2139095040
/-- Finite. -/
def fin (x : Nat) : Prop := rung x < 2139095040
/-- The magnitude of a rung, in units of 2^-149. -/
def MAG (r : Nat) : Nat := if r < 2 ^ 23 then r else (2 ^ 23 + r % 2 ^ 23) * 2 ^ (r / 2 ^ 23 - 1)
def V (x : Nat) : Int := sg (sgn x) (MAG (rung x))

instance (x : Nat) : Decidable (nn x) := inferInstanceAs (Decidable (_ ≤ _))
instance (x : Nat) : Decidable (fin x) := inferInstanceAs (Decidable (_ < _))

theorem fin.nn {x : Nat} (h : fin x) : nn x := Nat.le_of_lt h

theorem R_MAG {r : Nat} (h : r < 2139095040) : R (MAG r) (-149) = r := by
  unfold MAG
  by_cases c : r < 2 ^ 23
  · rw [if_pos c]
    by_cases r0 : r = 0
    · rw [r0, R_zero]
    · have hl : r.log2 < 23 := (Nat.log2_lt r0).2 c
      unfold R
      rw [if_neg r0]
      have e : lastOf r (-149) = -149 := by unfold lastOf; omega
      rw [e, show ((-149 : Int) + 149).toNat = 0 from rfl, show ((-149 : Int) - -149).toNat = 0 from rfl, rnd_zero, Nat.pow_zero]
      omega
  · rw [if_neg c, R_scale]
    have m0 : 2 ^ 23 + r % 2 ^ 23 ≠ 0 := by omega
    have hl : (2 ^ 23 + r % 2 ^ 23).log2 = 23 := by
      rw [Nat.log2_eq_iff m0]; omega
    unfold R
    rw [if_neg m0]
    have e : lastOf (2 ^ 23 + r % 2 ^ 23) (-149 + ((r / 2 ^ 23 - 1 : Nat) : Int)) = -149 + ((r / 2 ^ 23 - 1 : Nat) : Int) := by
      unfold lastOf; rw [hl]; omega
    rw [e]
    generalize hk : r / 2 ^ 23 - 1 = k
    rw [show (-149 + (k : Int) + 149).toNat = k from by omega, show (-149 + (k : Int) - (-149 + (k : Int))).toNat = 0 from by omega, rnd_zero, Nat.pow_zero]
    omega

theorem sg_neg (s : Bool) (n : Nat) : sg (!s) n = -sg s n := by cases s <;> simp [sg]
theorem sg_le_neg {n m : Nat} (s : Bool) (h : n ≤ m) : -(m : Int) ≤ sg s n ∧ sg s n ≤ m := by cases s <;> simp [sg] <;> omega

/-- The signed rung of z * 2^B. -/
def KR (B : Int) (z : Int) : Int := if z < 0 then -(R z.natAbs B : Int) else R z.natAbs B

theorem KR_zero (B : Int) : KR B 0 = 0 := by simp [KR, R_zero]

theorem KR_sg (B : Int) (s : Bool) (n : Nat) : KR B (sg s n) = sg s (R n B) := by
  unfold KR
  cases s
  · simp only [sg, Bool.false_eq_true, if_false, Int.natAbs_natCast]
    rw [if_neg (by omega)]
  · by_cases h : n = 0
    · simp [sg, h, R_zero]
    · simp only [sg, if_true, Int.natAbs_neg, Int.natAbs_natCast]
      rw [if_pos (by omega)]

theorem KR_scale (B : Int) (z : Int) (k : Nat) : KR B (z * 2 ^ k) = KR (B + k) z := by
  have hk : (0 : Int) < 2 ^ k := Int.pow_pos (by omega)
  have e : (z * 2 ^ k).natAbs = z.natAbs * 2 ^ k := by rw [Int.natAbs_mul, Int.natAbs_pow]; rfl
  unfold KR
  rw [e, R_scale]
  by_cases h : z < 0
  · rw [if_pos h, if_pos (Int.mul_neg_of_neg_of_pos h hk)]
  · rw [if_neg h, if_neg (by have := Int.mul_nonneg (by omega : 0 ≤ z) (Int.le_of_lt hk); omega)]

theorem KR_mono (B : Int) {y z : Int} (h : y ≤ z) : KR B y ≤ KR B z := by
  unfold KR
  split <;> split
  · have := R_mono B (show z.natAbs ≤ y.natAbs by omega); omega
  · omega
  · omega
  · have := R_mono B (show y.natAbs ≤ z.natAbs by omega); omega

theorem KR_abs (B z : Int) : -2139095040 ≤ KR B z ∧ KR B z ≤ 2139095040 := by
  have := R_le z.natAbs B
  unfold KR; split <;> omega

/-! ### words -/
theorem word_eq (s : Bool) (r : Nat) : S.word s r = if s then 2147483648 + r else r := by
  show (if s then S.signWeight + r else r) = _
  have : S.signWeight = 2147483648 := by decide
  rw [this]

theorem sgn_word (s : Bool) {r : Nat} (h : r < 2147483648) : sgn (S.word s r) = s := by
  rw [word_eq]; unfold sgn
  cases s
  · simp [Nat.div_eq_of_lt h]
  · have : (2147483648 + r) / 2147483648 = 1 := by omega
    simp [this]

theorem rung_word (s : Bool) {r : Nat} (h : r < 2147483648) : rung (S.word s r) = r := by
  rw [word_eq]; unfold rung; cases s <;> simp <;> omega

theorem key_word (s : Bool) {r : Nat} (h : r < 2147483648) : key (S.word s r) = sg s r := by
  unfold key; rw [sgn_word s h, rung_word s h]

theorem write_number (s : Bool) (m : Nat) (e : Int) : S.write (.number s m e) = S.word s (R m e) := nearest_eq s m e

theorem write_key (s : Bool) (m : Nat) (e : Int) : key (S.write (.number s m e)) = KR e (sg s m) := by
  rw [write_number, key_word _ (by have := R_le m e; omega), KR_sg]

theorem write_nn (s : Bool) (m : Nat) (e : Int) : nn (S.write (.number s m e)) := by
  have := R_le m e
  rw [write_number]; unfold nn; rw [rung_word _ (by omega)]; exact this

theorem read_fin {x : Nat} (h : fin x) : ∃ (m : Nat) (p : Nat), S.read x = .number (sgn x) m (-149 + p) ∧ p ≤ 253 ∧ m * 2 ^ p = MAG (rung x) ∧ m < 2 ^ 24 := by
  have h1 : S.signWeight = 2147483648 := by decide
  have h2 : S.binade = 2 ^ 23 := by decide
  have h3 : S.infRung = 2139095040 := by decide
  have h4 : S.leastPlace = -149 := by decide
  unfold fin at h
  unfold Format.read
  simp only [h1, h2, h3, h4]
  change rung x < _ at h
  show ∃ m p, (if rung x < 2 ^ 23 then Datum.number (sgn x) (rung x) (-149) else if rung x < 2139095040 then Datum.number (sgn x) (2 ^ 23 + rung x % 2 ^ 23) (-149 + (rung x / 2 ^ 23 - 1 : Nat)) else _) = _ ∧ _
  by_cases c : rung x < 2 ^ 23
  · exact ⟨rung x, 0, by rw [if_pos c]; rfl, by omega, by simp [MAG, c], by omega⟩
  · refine ⟨2 ^ 23 + rung x % 2 ^ 23, rung x / 2 ^ 23 - 1, by rw [if_neg c, if_pos h], by omega, by simp [MAG, c], by omega⟩

theorem read_inf {x : Nat} (h : rung x = 2139095040) : S.read x = .infinity (sgn x) := by
  have h1 : S.signWeight = 2147483648 := by decide
  have h2 : S.binade = 2 ^ 23 := by decide
  have h3 : S.infRung = 2139095040 := by decide
  unfold Format.read
  simp only [h1, h2, h3]
  show (if rung x < 2 ^ 23 then _ else if rung x < 2139095040 then _ else if rung x = 2139095040 then Datum.infinity (sgn x) else _) = _
  rw [if_neg (by omega), if_neg (by omega), if_pos h]

theorem read_nan {x : Nat} (h : ¬ nn x) : ∃ a b, S.read x = .nan a b := by
  have h1 : S.signWeight = 2147483648 := by decide
  have h2 : S.binade = 2 ^ 23 := by decide
  have h3 : S.infRung = 2139095040 := by decide
  unfold nn at h
  unfold Format.read
  simp only [h1, h2, h3]
  refine ⟨sgn x, rung x - 2139095040, ?_⟩
  show (if rung x < 2 ^ 23 then _ else if rung x < 2139095040 then _ else if rung x = 2139095040 then _ else Datum.nan (sgn x) (rung x - 2139095040)) = _
  rw [if_neg (by omega), if_neg (by omega), if_neg (by omega)]

theorem signed_eq (s : Bool) (m up : Nat) : signed s m up = sg s (m * 2 ^ up) := by
  unfold signed sg; rw [Nat.shiftLeft_eq]

theorem sg_mul (s : Bool) (m k : Nat) : sg s m * (2 : Int) ^ k = sg s (m * 2 ^ k) := by
  cases s <;> simp [sg, Int.natCast_pow, Int.neg_mul]

/-- Rungs are ordered as their magnitudes. -/
theorem MAG_le {a b : Nat} (ha : a < 2139095040) (hb : b < 2139095040) : MAG a ≤ MAG b ↔ a ≤ b := by
  constructor
  · intro h
    have := R_mono (-149) h
    rwa [R_MAG ha, R_MAG hb] at this
  · intro h
    rcases Nat.le_total (MAG a) (MAG b) with h1 | h1
    · exact h1
    · have := R_mono (-149) h1
      rw [R_MAG ha, R_MAG hb] at this
      obtain rfl : a = b := by omega
      exact h1

theorem MAG_zero : MAG 0 = 0 := rfl

theorem V_le {x y : Nat} (hx : fin x) (hy : fin y) : V x ≤ V y ↔ key x ≤ key y := by
  have h1 := MAG_le hx hy
  have h2 := MAG_le hy hx
  have h3 : MAG (rung x) ≤ 0 ↔ rung x ≤ 0 := MAG_le (b := 0) hx (by omega)
  have h4 : MAG (rung y) ≤ 0 ↔ rung y ≤ 0 := MAG_le (b := 0) hy (by omega)
  unfold V key
  cases sgn x <;> cases sgn y <;> simp only [sg, if_true, if_false, Bool.false_eq_true] <;> omega

theorem KR_V {x : Nat} (h : fin x) : KR (-149) (V x) = key x := by
  unfold V key; rw [KR_sg, R_MAG h]

theorem compare_of_le {a b c d : Int} (h1 : a ≤ b ↔ c ≤ d) (h2 : b ≤ a ↔ d ≤ c) : compare a b = compare c d := by
  simp only [compare, compareOfLessAndEq]
  by_cases x : a < b
  · rw [if_pos x, if_pos (by omega)]
  · rw [if_neg x, if_neg (by omega : ¬ c < d)]
    by_cases y : a = b
    · rw [if_pos y, if_pos (by omega)]
    · rw [if_neg y, if_neg (by omega)]

theorem compare_lt {a b : Int} (h : a < b) : compare a b = .lt := by simp only [compare, compareOfLessAndEq]; rw [if_pos h]
theorem compare_gt {a b : Int} (h : b < a) : compare a b = .gt := by simp only [compare, compareOfLessAndEq]; rw [if_neg (by omega), if_neg (by omega)]

theorem order_eq {x y : Nat} (hx : nn x) (hy : nn y) : S.order x y = some (compare (key x) (key y)) := by
  unfold Format.order
  rcases Nat.lt_or_eq_of_le hx with fx | ix
  · have hkx := sg_le_neg (sgn x) (Nat.le_of_lt fx)
    have hkx' : -(2139095040 : Int) < key x ∧ key x < 2139095040 := by
      have := sg_le_neg (sgn x) (show rung x ≤ 2139095039 from Nat.le_of_lt_succ fx)
      unfold key; omega
    obtain ⟨m, p, e, hp, hm, _⟩ := read_fin fx
    rw [e]
    rcases Nat.lt_or_eq_of_le hy with fy | iy
    · obtain ⟨n, q, e', hq, hn, _⟩ := read_fin fy
      rw [e']
      unfold Datum.order
      simp only [signed_eq]
      congr 1
      have hb : ∃ b : Nat, min (-149 + (p : Int)) (-149 + (q : Int)) = -149 + b ∧ b ≤ p ∧ b ≤ q := ⟨min p q, by omega, by omega, by omega⟩
      obtain ⟨b, hb, h1, h2⟩ := hb
      rw [hb, show (-149 + (p : Int) - (-149 + (b : Int))).toNat = p - b from by omega, show (-149 + (q : Int) - (-149 + (b : Int))).toNat = q - b from by omega]
      have hpos : (0 : Int) < 2 ^ b := Int.pow_pos (by omega)
      have ex : sg (sgn x) (m * 2 ^ (p - b)) * 2 ^ b = V x := by
        rw [sg_mul, Nat.mul_assoc, ← Nat.pow_add, Nat.sub_add_cancel h1, hm]; rfl
      have ey : sg (sgn y) (n * 2 ^ (q - b)) * 2 ^ b = V y := by
        rw [sg_mul, Nat.mul_assoc, ← Nat.pow_add, Nat.sub_add_cancel h2, hn]; rfl
      apply compare_of_le
      · rw [← V_le fx fy, ← ex, ← ey]; exact (Int.mul_le_mul_right hpos).symm
      · rw [← V_le fy fx, ← ex, ← ey]; exact (Int.mul_le_mul_right hpos).symm
    · rw [read_inf iy]
      unfold Datum.order key
      rw [iy]
      congr 1
      have hk : -(2139095040 : Int) < sg (sgn x) (rung x) ∧ sg (sgn x) (rung x) < 2139095040 := hkx'
      cases sgn y
      · exact congrArg some (compare_lt hk.2).symm
      · exact congrArg some (compare_gt hk.1).symm
  · rw [read_inf ix]
    rcases Nat.lt_or_eq_of_le hy with fy | iy
    · obtain ⟨n, q, e', hq, hn, _⟩ := read_fin fy
      rw [e']
      have hk := sg_le_neg (sgn y) (show rung y ≤ 2139095039 from Nat.le_of_lt_succ fy)
      unfold Datum.order key
      rw [ix]
      congr 1
      cases sgn x
      · exact congrArg some (compare_gt (show sg (sgn y) (rung y) < (2139095040 : Int) by omega)).symm
      · exact congrArg some (compare_lt (show -(2139095040 : Int) < sg (sgn y) (rung y) by omega)).symm
    · rw [read_inf iy]
      unfold Datum.order key
      rw [ix, iy]
      cases sgn x <;> cases sgn y <;> rfl

theorem order_nan_left {x y : Nat} (h : ¬ nn x) : S.order x y = none := by
  obtain ⟨a, b, e⟩ := read_nan h
  unfold Format.order; rw [e]; rfl

theorem order_nan_right {x y : Nat} (h : ¬ nn y) : S.order x y = none := by
  obtain ⟨a, b, e⟩ := read_nan h
  unfold Format.order; rw [e]
  cases S.read x <;> rfl

/-! ### sum, difference -/
theorem sum_fin {x y : Nat} (hx : fin x) (hy : fin y) : ∃ r, S.add x y = some r ∧ key r = KR (-149) (V x + V y) ∧ nn r := by
  obtain ⟨m, p, e, hp, hm, _⟩ := read_fin hx
  obtain ⟨n, q, e', hq, hn, _⟩ := read_fin hy
  unfold Format.add
  rw [e, e']
  unfold Datum.sum
  simp only [signed_eq, Option.map_some]
  obtain ⟨b, hb, h1, h2⟩ : ∃ b : Nat, min (-149 + (p : Int)) (-149 + (q : Int)) = -149 + b ∧ b ≤ p ∧ b ≤ q := ⟨min p q, by omega, by omega, by omega⟩
  rw [hb, show (-149 + (p : Int) - (-149 + (b : Int))).toNat = p - b from by omega, show (-149 + (q : Int) - (-149 + (b : Int))).toNat = q - b from by omega]
  refine ⟨_, rfl, ?_, write_nn _ _ _⟩
  have ex : sg (sgn x) (m * 2 ^ (p - b)) * 2 ^ b = V x := by
    rw [sg_mul, Nat.mul_assoc, ← Nat.pow_add, Nat.sub_add_cancel h1, hm]; rfl
  have ey : sg (sgn y) (n * 2 ^ (q - b)) * 2 ^ b = V y := by
    rw [sg_mul, Nat.mul_assoc, ← Nat.pow_add, Nat.sub_add_cancel h2, hn]; rfl
  rw [← ex, ← ey, ← Int.add_mul, KR_scale, write_key]
  generalize sg (sgn x) (m * 2 ^ (p - b)) + sg (sgn y) (n * 2 ^ (q - b)) = T
  congr 1
  by_cases hT : T = 0
  · subst hT; cases sgn x <;> cases sgn y <;> simp [sg]
  · rw [if_neg hT]
    by_cases h : T < 0
    · simp [sg, h]; omega
    · simp [sg, h]; omega

theorem read_opposite_fin {x : Nat} (h : fin x) : ∃ (m : Nat) (p : Nat), (S.read x).opposite = .number (!sgn x) m (-149 + p) ∧ p ≤ 253 ∧ m * 2 ^ p = MAG (rung x) ∧ m < 2 ^ 24 := by
  obtain ⟨m, p, e, r⟩ := read_fin h
  exact ⟨m, p, by rw [e]; rfl, r⟩

theorem diff_fin {x y : Nat} (hx : fin x) (hy : fin y) : ∃ r, S.sub x y = some r ∧ key r = KR (-149) (V x - V y) ∧ nn r := by
  obtain ⟨m, p, e, hp, hm, _⟩ := read_fin hx
  obtain ⟨n, q, e', hq, hn, _⟩ := read_opposite_fin hy
  unfold Format.sub
  rw [e, e']
  unfold Datum.sum
  simp only [signed_eq, Option.map_some]
  obtain ⟨b, hb, h1, h2⟩ : ∃ b : Nat, min (-149 + (p : Int)) (-149 + (q : Int)) = -149 + b ∧ b ≤ p ∧ b ≤ q := ⟨min p q, by omega, by omega, by omega⟩
  rw [hb, show (-149 + (p : Int) - (-149 + (b : Int))).toNat = p - b from by omega, show (-149 + (q : Int) - (-149 + (b : Int))).toNat = q - b from by omega]
  refine ⟨_, rfl, ?_, write_nn _ _ _⟩
  have ex : sg (sgn x) (m * 2 ^ (p - b)) * 2 ^ b = V x := by
    rw [sg_mul, Nat.mul_assoc, ← Nat.pow_add, Nat.sub_add_cancel h1, hm]; rfl
  have ey : sg (!sgn y) (n * 2 ^ (q - b)) * 2 ^ b = -V y := by
    rw [sg_mul, Nat.mul_assoc, ← Nat.pow_add, Nat.sub_add_cancel h2, hn, sg_neg]; rfl
  rw [Int.sub_eq_add_neg, ← ex, ← ey, ← Int.add_mul, KR_scale, write_key]
  generalize sg (sgn x) (m * 2 ^ (p - b)) + sg (!sgn y) (n * 2 ^ (q - b)) = T
  congr 1
  by_cases hT : T = 0
  · subst hT; cases sgn x <;> cases sgn y <;> simp [sg]
  · rw [if_neg hT]
    by_cases h : T < 0
    · simp [sg, h]; omega
    · simp [sg, h]; omega

/-! ### product -/
theorem sg_xor (s t : Bool) (a b : Nat) : sg s a * sg t b = sg (s ^^ t) (a * b) := by
  cases s <;> cases t <;> simp [sg, Int.mul_neg, Int.neg_mul]

theorem prod_fin {x y : Nat} (hx : fin x) (hy : fin y) : ∃ r, S.mul x y = some r ∧ key r = KR (-298) (V x * V y) ∧ nn r := by
  obtain ⟨m, p, e, hp, hm, _⟩ := read_fin hx
  obtain ⟨n, q, e', hq, hn, _⟩ := read_fin hy
  unfold Format.mul
  rw [e, e']
  unfold Datum.product
  simp only [Option.map_some]
  refine ⟨_, rfl, ?_, write_nn _ _ _⟩
  rw [write_key]
  have e1 : V x * V y = sg (sgn x ^^ sgn y) (m * n) * 2 ^ (p + q) := by
    rw [sg_mul]; unfold V
    rw [sg_xor, ← hm, ← hn, Nat.pow_add]
    congr 1
    rw [Nat.mul_mul_mul_comm]
  rw [e1, KR_scale]
  congr 1
  omega

/-! ### quotient -/
/-- Digits enough behind the point. -/
def far : Nat := 400

/-- The rung of a / b. -/
def Q (a b : Nat) : Nat := R (2 * (a * 2 ^ far / b) + if a * 2 ^ far % b = 0 then 0 else 1) (-401)

theorem Q_mono {a a' b : Nat} (h : a ≤ a') : Q a b ≤ Q a' b := by
  unfold Q
  apply R_mono
  have h1 : a * 2 ^ far ≤ a' * 2 ^ far := Nat.mul_le_mul_right _ h
  generalize a * 2 ^ far = u at *
  generalize a' * 2 ^ far = v at *
  have hq : u / b ≤ v / b := Nat.div_le_div_right h1
  have eu := Nat.div_add_mod u b
  have ev := Nat.div_add_mod v b
  rcases Nat.lt_or_eq_of_le hq with hlt | heq
  · split <;> split <;> omega
  · rw [← heq] at ev ⊢
    split <;> split <;> omega

theorem Q_zero (b : Nat) : Q 0 b = 0 := by simp [Q, R_zero]

theorem quot_core {m n : Nat} (k : Nat) (hm0 : m ≠ 0) (hn0 : n ≠ 0) (hm : m.log2 ≤ 25) :
    R (2 * (m * 2 ^ (25 + n.log2 - m.log2) / n) + if m * 2 ^ (25 + n.log2 - m.log2) % n = 0 then 0 else 1) (-401 + k) =
      R (2 * (m * 2 ^ (25 + n.log2 - m.log2) * 2 ^ k / n) + if m * 2 ^ (25 + n.log2 - m.log2) * 2 ^ k % n = 0 then 0 else 1) (-401) := by
  have hn : 0 < n := by omega
  have hA : 2 ^ (25 + n.log2) ≤ m * 2 ^ (25 + n.log2 - m.log2) := by
    have := Nat.mul_le_mul_right (2 ^ (25 + n.log2 - m.log2)) (Nat.log2_self_le hm0)
    rwa [← Nat.pow_add, show m.log2 + (25 + n.log2 - m.log2) = 25 + n.log2 from by omega] at this
  generalize m * 2 ^ (25 + n.log2 - m.log2) = A at *
  have hk := Nat.two_pow_pos k
  have hc : 2 ^ 24 ≤ A / n := by
    rw [Nat.le_div_iff_mul_le hn]
    have h1 : n < 2 ^ (n.log2 + 1) := Nat.lt_log2_self
    have h2 : 2 ^ 24 * n ≤ 2 ^ 24 * 2 ^ (n.log2 + 1) := Nat.mul_le_mul_left _ (by omega)
    rw [← Nat.pow_add, show 24 + (n.log2 + 1) = 25 + n.log2 from by omega] at h2
    omega
  have hρ : A % n < n := Nat.mod_lt _ hn
  have eA := Nat.div_add_mod A n
  generalize hcc : A / n = c at *
  generalize A % n = ρ at *
  have e1 : A * 2 ^ k = n * (c * 2 ^ k) + ρ * 2 ^ k := by rw [← eA, Nat.add_mul, Nat.mul_assoc]
  have hq : A * 2 ^ k / n = c * 2 ^ k + ρ * 2 ^ k / n := by rw [e1, Nat.mul_add_div hn]
  have hr : A * 2 ^ k % n = ρ * 2 ^ k % n := by rw [e1, Nat.mul_add_mod]
  have hu : ρ * 2 ^ k / n < 2 ^ k := by
    rw [Nat.div_lt_iff_lt_mul hn, Nat.mul_comm (2 ^ k)]
    exact (Nat.mul_lt_mul_right hk).2 hρ
  have eu := Nat.div_add_mod (ρ * 2 ^ k) n
  rw [hq, hr]
  have hz : (2 * (ρ * 2 ^ k / n) + (if ρ * 2 ^ k % n = 0 then 0 else 1) = 0) ↔ ρ = 0 := by
    constructor
    · intro h
      have h1 : ρ * 2 ^ k / n = 0 := by omega
      have h2 : ρ * 2 ^ k % n = 0 := by
        rcases Nat.eq_zero_or_pos (ρ * 2 ^ k % n) with h3 | h3
        · exact h3
        · rw [if_neg (by omega)] at h; omega
      rw [h1, h2, Nat.mul_zero, Nat.add_zero] at eu
      rcases Nat.mul_eq_zero.1 eu.symm with h4 | h4
      · exact h4
      · omega
    · rintro rfl; simp
  have key := R_sticky (n := c) (t := 2 * (ρ * 2 ^ k / n) + if ρ * 2 ^ k % n = 0 then 0 else 1) (K := k + 1) (-400 + k) hc (by rw [Nat.pow_succ]; split <;> omega)
  have e2 : c * 2 ^ (k + 1) + (2 * (ρ * 2 ^ k / n) + if ρ * 2 ^ k % n = 0 then 0 else 1) = 2 * (c * 2 ^ k + ρ * 2 ^ k / n) + if ρ * 2 ^ k % n = 0 then 0 else 1 := by
    rw [Nat.pow_succ, ← Nat.mul_assoc]; generalize c * 2 ^ k = z; omega
  rw [e2, show (-400 + (k : Int) - ((k + 1 : Nat) : Int)) = -401 from by omega, show (-400 + (k : Int) - 1) = -401 + k from by omega] at key
  rw [key]
  congr 2
  by_cases h : ρ = 0
  · rw [if_pos h, if_pos (hz.2 h)]
  · rw [if_neg h, if_neg (fun h' => h (hz.1 h'))]

theorem quot_fin {x y : Nat} (hx : fin x) (hy : fin y) (h0 : rung y ≠ 0) : ∃ r, S.div x y = some r ∧ key r = sg (sgn x ^^ sgn y) (Q (MAG (rung x)) (MAG (rung y))) ∧ nn r := by
  obtain ⟨m, p, e, hp, hm, hm24⟩ := read_fin hx
  obtain ⟨n, q, e', hq, hn, hn24⟩ := read_fin hy
  have hMy : MAG (rung y) ≠ 0 := by
    intro h
    have := (MAG_le (b := 0) hy (by omega)).1 (by rw [h]; exact Nat.zero_le _)
    omega
  have hn0 : n ≠ 0 := by
    intro h; rw [h, Nat.zero_mul] at hn; omega
  unfold Format.div
  rw [e, e']
  unfold Datum.quotient
  have hf : S.fractionBits + 2 = 25 := by decide
  simp only [hf, if_neg hn0, Option.map_some]
  refine ⟨_, rfl, ?_, write_nn _ _ _⟩
  rw [write_key, KR_sg]
  congr 1
  rw [Nat.shiftLeft_eq]
  have hb : ∀ u v : Nat, ((u % v != 0).toNat) = if u % v = 0 then 0 else 1 := by
    intro u v; by_cases h : u % v = 0 <;> simp [h]
  rw [hb, ← hm, ← hn]
  by_cases m0 : m = 0
  · subst m0; simp [Q_zero, R_zero]
  have hlm : m.log2 < 24 := (Nat.log2_lt m0).2 hm24
  have hln : n.log2 < 24 := (Nat.log2_lt hn0).2 hn24
  have hfar : far = 400 := rfl
  obtain ⟨k, hk⟩ : ∃ k : Nat, p + far = k + (25 + n.log2 - m.log2) + q := ⟨p + far - q - (25 + n.log2 - m.log2), by omega⟩
  have hpl : -149 + (p : Int) - (-149 + (q : Int)) - ((25 + n.log2 - m.log2 : Nat) : Int) - 1 = -401 + k := by omega
  rw [hpl, quot_core k m0 hn0 (by omega)]
  unfold Q
  have e1 : m * 2 ^ p * 2 ^ far = m * 2 ^ (25 + n.log2 - m.log2) * 2 ^ k * 2 ^ q := by
    rw [Nat.mul_assoc, ← Nat.pow_add, hk, Nat.mul_assoc, Nat.mul_assoc, ← Nat.pow_add, ← Nat.pow_add]
    congr 2; omega
  have hq2 := Nat.two_pow_pos q
  rw [e1, Nat.mul_div_mul_right _ _ hq2, Nat.mul_mod_mul_right]
  congr 2
  by_cases h : m * 2 ^ (25 + n.log2 - m.log2) * 2 ^ k % n = 0
  · rw [if_pos h, h, Nat.zero_mul, if_pos rfl]
  · rw [if_neg h, if_neg (fun h' => by rcases Nat.mul_eq_zero.1 h' with h1 | h1 <;> omega)]

end Go.Proofs.Ytdncopphjamilaa.Fl
