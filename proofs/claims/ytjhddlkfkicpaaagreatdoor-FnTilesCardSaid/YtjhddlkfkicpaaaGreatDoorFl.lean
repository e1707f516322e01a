/- Plain arithmetic of float32 words: rounding is monotone, words are ordered by their signed rungs, and the four operations are given by exact integers; no program in sight. -/
import Derived.Laws.FloatBits
import Derived.WalkKit
import Derived.Laws.Cover1
namespace Go.Proofs.YtjhddlkfkicpaaaGreatDoor.Fl
open Ieee

/-- n / 2^d, rounded to the nearest whole number, ties to even. -/
def rnd (n d : Nat) : Nat := n / 2 ^ d + (if 2 ^ d < 2 * (n % 2 ^ d) ∨ (2 ^ d = 2 * (n % 2 ^ d) ∧ n / 2 ^ d % 2 = 1) then 1 else 0)

theorem rnd_zero (n : Nat) : rnd n 0 = n := by simp [rnd, Nat.mod_one]

theorem cut_core (n g : Nat) : n / g + (decide (g < 2 * (n % g)) || (g == 2 * (n % g) && n / g % 2 == 1)).toNat = n / g + (if g < 2 * (n % g) ∨ (g = 2 * (n % g) ∧ n / g % 2 = 1) then 1 else 0) := by
  congr 1
  by_cases h1 : g < 2 * (n % g)
  · simp [h1]
  · by_cases h2 : g = 2 * (n % g) ∧ n / g % 2 = 1
    · have h3 : (g == 2 * (n % g) && n / g % 2 == 1) = true := by simpa using h2
      rw [h3, if_pos (.inr h2), Bool.or_true]; rfl
    · have h3 : (g == 2 * (n % g) && n / g % 2 == 1) = false := by
        rw [Bool.eq_false_iff]; intro h4; simp only [Bool.and_eq_true, beq_iff_eq] at h4; exact h2 h4
      rw [h3, if_neg (fun h => h.elim h1 h2), decide_eq_false h1]; rfl

theorem cut_eq (s : Bool) (n d : Nat) : Toward.even.cut s n d = rnd n d := by
  have e : Toward.even.cut s n d = n / (1 <<< min d (n.log2 + 2)) + (decide (1 <<< min d (n.log2 + 2) < 2 * (n % (1 <<< min d (n.log2 + 2)))) || (1 <<< min d (n.log2 + 2) == 2 * (n % (1 <<< min d (n.log2 + 2))) && n / (1 <<< min d (n.log2 + 2)) % 2 == 1)).toNat := rfl
  rw [e, cut_core, Nat.one_shiftLeft]
  unfold rnd
  by_cases h : d ≤ n.log2 + 2
  · rw [Nat.min_eq_left h]
  · have h' : n.log2 + 2 ≤ d := by omega
    rw [Nat.min_eq_right h']
    have hn : n < 2 ^ (n.log2 + 1) := Nat.lt_log2_self
    have e2 : 2 ^ (n.log2 + 2) = 2 * 2 ^ (n.log2 + 1) := by rw [Nat.pow_succ]; omega
    have e3 : 2 ^ (n.log2 + 2) ≤ 2 ^ d := Nat.pow_le_pow_right (by omega) h'
    have l1 : n < 2 ^ (n.log2 + 2) := by omega
    have l2 : n < 2 ^ d := by omega
    rw [Nat.div_eq_of_lt l1, Nat.mod_eq_of_lt l1, Nat.div_eq_of_lt l2, Nat.mod_eq_of_lt l2, if_neg (by omega), if_neg (by omega)]

theorem rnd_mono {a b : Nat} (d : Nat) (h : a ≤ b) : rnd a d ≤ rnd b d := by
  unfold rnd
  have hq : a / 2 ^ d ≤ b / 2 ^ d := Nat.div_le_div_right h
  have ea := Nat.div_add_mod a (2 ^ d)
  have eb := Nat.div_add_mod b (2 ^ d)
  rcases Nat.lt_or_eq_of_le hq with hlt | heq
  · split <;> split <;> omega
  · rw [← heq] at eb ⊢
    have hr : a % 2 ^ d ≤ b % 2 ^ d := by omega
    split
    · rename_i hc
      rw [if_pos (by omega)]
      omega
    · split <;> omega

theorem rnd_le {n d k : Nat} (h : n < 2 ^ (d + k)) : rnd n d ≤ 2 ^ k := by
  unfold rnd
  have hq : n / 2 ^ d < 2 ^ k := by
    rw [Nat.div_lt_iff_lt_mul (Nat.two_pow_pos d), ← Nat.pow_add, Nat.add_comm k d]; exact h
  split <;> omega

theorem le_rnd {n d k : Nat} (h : 2 ^ (d + k) ≤ n) : 2 ^ k ≤ rnd n d := by
  unfold rnd
  have hq : 2 ^ k ≤ n / 2 ^ d := by
    rw [Nat.le_div_iff_mul_le (Nat.two_pow_pos d), ← Nat.pow_add, Nat.add_comm k d]; exact h
  omega

theorem rnd_scale (m d k : Nat) : rnd (m * 2 ^ k) (d + k) = rnd m d := by
  unfold rnd
  have e1 : m * 2 ^ k / 2 ^ (d + k) = m / 2 ^ d := by rw [Nat.pow_add, Nat.mul_div_mul_right _ _ (Nat.two_pow_pos k)]
  have e2 : m * 2 ^ k % 2 ^ (d + k) = m % 2 ^ d * 2 ^ k := by rw [Nat.pow_add, Nat.mul_mod_mul_right]
  have hk := Nat.two_pow_pos k
  rw [e1, e2, Nat.pow_add]
  have c1 : (2 ^ d * 2 ^ k < 2 * (m % 2 ^ d * 2 ^ k)) ↔ (2 ^ d < 2 * (m % 2 ^ d)) := by
    rw [← Nat.mul_assoc]; exact Nat.mul_lt_mul_right hk
  have c2 : (2 ^ d * 2 ^ k = 2 * (m % 2 ^ d * 2 ^ k)) ↔ (2 ^ d = 2 * (m % 2 ^ d)) := by
    rw [← Nat.mul_assoc]; exact Nat.mul_left_inj (by omega)
  simp only [c1, c2]

theorem rnd_exact (m k d : Nat) (h : d ≤ k) : rnd (m * 2 ^ k) d = m * 2 ^ (k - d) := by
  have e : m * 2 ^ k = m * 2 ^ (k - d) * 2 ^ d := by rw [Nat.mul_assoc, ← Nat.pow_add, Nat.sub_add_cancel h]
  have := rnd_scale (m * 2 ^ (k - d)) 0 d
  rw [Nat.zero_add] at this
  rw [e, this, rnd_zero]

/-- The sticky bit: of a number with many digits only 'is anything left over' counts below the last two. -/
theorem rnd_sticky {n t d K : Nat} (ht : t < 2 ^ K) : rnd (n * 2 ^ K + t) (d + 1 + K) = rnd (2 * n + if t = 0 then 0 else 1) (d + 2) := by
  have hK := Nat.two_pow_pos K
  have hd := Nat.two_pow_pos d
  have q1 : (n * 2 ^ K + t) / 2 ^ (d + 1 + K) = n / 2 ^ (d + 1) := by
    rw [Nat.pow_add, Nat.mul_comm (2 ^ (d + 1)), ← Nat.div_div_eq_div_mul, Nat.mul_comm n, Nat.mul_add_div hK, Nat.div_eq_of_lt ht, Nat.add_zero]
  have q2 : (2 * n + if t = 0 then 0 else 1) / 2 ^ (d + 2) = n / 2 ^ (d + 1) := by
    have e : 2 ^ (d + 2) = 2 * 2 ^ (d + 1) := by rw [Nat.pow_succ]; omega
    rw [e, ← Nat.div_div_eq_div_mul, Nat.mul_add_div (by omega)]
    split <;> simp
  have r1 : (n * 2 ^ K + t) % 2 ^ (d + 1 + K) = n % 2 ^ (d + 1) * 2 ^ K + t := by
    have a := Nat.div_add_mod (n * 2 ^ K + t) (2 ^ (d + 1 + K))
    rw [q1] at a
    have b := Nat.div_add_mod n (2 ^ (d + 1))
    have c : n * 2 ^ K = 2 ^ (d + 1 + K) * (n / 2 ^ (d + 1)) + n % 2 ^ (d + 1) * 2 ^ K := by
      conv => lhs; rw [← b]
      rw [Nat.add_mul, Nat.pow_add (2) (d + 1) K, Nat.mul_right_comm]
    omega
  have r2 : (2 * n + if t = 0 then 0 else 1) % 2 ^ (d + 2) = 2 * (n % 2 ^ (d + 1)) + if t = 0 then 0 else 1 := by
    have a := Nat.div_add_mod (2 * n + if t = 0 then 0 else 1) (2 ^ (d + 2))
    rw [q2] at a
    have b := Nat.div_add_mod n (2 ^ (d + 1))
    have e : 2 ^ (d + 2) = 2 * 2 ^ (d + 1) := by rw [Nat.pow_succ]; omega
    rw [e] at a ⊢
    rw [Nat.mul_assoc] at a
    omega
  unfold rnd
  rw [q1, q2, r1, r2]
  have e3 : 2 ^ (d + 1) = 2 * 2 ^ d := by rw [Nat.pow_succ]; omega
  have e4 : 2 ^ (d + 2) = 4 * 2 ^ d := by rw [Nat.pow_succ, Nat.pow_succ]; omega
  have e5 : 2 ^ (d + 1 + K) = 2 * (2 ^ d * 2 ^ K) := by rw [Nat.pow_add, e3, Nat.mul_assoc]
  rw [e5, e4]
  generalize n % 2 ^ (d + 1) = ρ
  generalize 2 ^ K = B at *
  generalize 2 ^ d = D at *
  have key1 : (2 * (D * B) < 2 * (ρ * B + t)) ↔ (D < ρ ∨ (D = ρ ∧ t ≠ 0)) := by
    constructor
    · intro h
      rcases Nat.lt_trichotomy D ρ with h1 | h1 | h1
      · exact .inl h1
      · subst h1; exact .inr ⟨rfl, by omega⟩
      · exfalso
        have : (ρ + 1) * B ≤ D * B := Nat.mul_le_mul_right B h1
        rw [Nat.add_mul] at this; omega
    · rintro (h1 | ⟨rfl, h1⟩)
      · have : (D + 1) * B ≤ ρ * B := Nat.mul_le_mul_right B h1
        rw [Nat.add_mul] at this; omega
      · omega
  have key2 : (2 * (D * B) = 2 * (ρ * B + t)) ↔ (D = ρ ∧ t = 0) := by
    constructor
    · intro h
      rcases Nat.lt_trichotomy D ρ with h1 | h1 | h1
      · exfalso
        have : (D + 1) * B ≤ ρ * B := Nat.mul_le_mul_right B h1
        rw [Nat.add_mul] at this; omega
      · subst h1; exact ⟨rfl, by omega⟩
      · exfalso
        have : (ρ + 1) * B ≤ D * B := Nat.mul_le_mul_right B h1
        rw [Nat.add_mul] at this; omega
    · rintro ⟨rfl, rfl⟩; omega
  have key3 : (4 * D < 2 * (2 * ρ + if t = 0 then 0 else 1)) ↔ (D < ρ ∨ (D = ρ ∧ t ≠ 0)) := by
    split <;> omega
  have key4 : (4 * D = 2 * (2 * ρ + if t = 0 then 0 else 1)) ↔ (D = ρ ∧ t = 0) := by
    split <;> omega
  simp only [key1, key2, key3, key4]

/-! ### The rung of m * 2^e -/

/-- The place of the last digit that is kept. -/
def lastOf (m : Nat) (e : Int) : Int := max (e + m.log2 - 23) (-149)

def R (m : Nat) (e : Int) : Nat :=
  if m = 0 then 0 else min ((lastOf m e + 149).toNat * 2 ^ 23 + rnd (m * 2 ^ (e - lastOf m e).toNat) (lastOf m e - e).toNat) 2139095040

theorem R_zero (e : Int) : R 0 e = 0 := by simp [R]

theorem R_le (m : Nat) (e : Int) : R m e ≤ 2139095040 := by
  unfold R; split <;> omega

theorem nearest_eq (s : Bool) (m : Nat) (e : Int) : single.nearest s m e = single.word s (R m e) := by
  unfold Format.nearest R
  by_cases h : m = 0
  · simp [h]
  · rw [if_neg h, if_neg h]
    have hl : max (e + (m.log2 : Int) - (single.fractionBits : Int)) single.leastPlace = lastOf m e := rfl
    simp only [hl]
    rw [cut_eq, Nat.shiftLeft_eq]
    have h1 : single.leastPlace = -149 := by decide
    have h2 : single.binade = 2 ^ 23 := by decide
    have h3 : single.infRung = 2139095040 := by decide
    rw [h1, h2, h3]
    have h4 : lastOf m e - (-149) = lastOf m e + 149 := by omega
    rw [h4]

theorem log2_mul_pow (m k : Nat) (h : m ≠ 0) : (m * 2 ^ k).log2 = m.log2 + k := by
  have h1 : m * 2 ^ k ≠ 0 := Nat.mul_ne_zero h (by have := Nat.two_pow_pos k; omega)
  rw [Nat.log2_eq_iff h1]
  have h2 := Nat.log2_self_le h
  have h3 : m < 2 ^ (m.log2 + 1) := Nat.lt_log2_self
  have hk := Nat.two_pow_pos k
  constructor
  · rw [Nat.pow_add]; exact Nat.mul_le_mul_right _ h2
  · have e : m.log2 + k + 1 = m.log2 + 1 + k := by omega
    rw [e, Nat.pow_add]; exact (Nat.mul_lt_mul_right hk).2 h3

theorem R_scale (m k : Nat) (e : Int) : R (m * 2 ^ k) e = R m (e + k) := by
  by_cases h : m = 0
  · simp [h, R]
  · have h1 : m * 2 ^ k ≠ 0 := Nat.mul_ne_zero h (by have := Nat.two_pow_pos k; omega)
    unfold R
    rw [if_neg h, if_neg h1]
    have hl : lastOf (m * 2 ^ k) e = lastOf m (e + k) := by
      unfold lastOf; rw [log2_mul_pow m k h]
      have : e + ((m.log2 + k : Nat) : Int) - 23 = e + (k : Int) + (m.log2 : Int) - 23 := by omega
      rw [this]
    rw [hl]
    generalize lastOf m (e + k) = L
    congr 2
    by_cases c1 : L ≤ e
    · have a1 : (L - e).toNat = 0 := by omega
      have a2 : (L - (e + k)).toNat = 0 := by omega
      have a3 : (e + k - L).toNat = k + (e - L).toNat := by omega
      rw [a1, a2, a3, rnd_zero, rnd_zero, Nat.pow_add, Nat.mul_assoc]
    · by_cases c2 : L ≤ e + k
      · have a1 : (e - L).toNat = 0 := by omega
        have a2 : (L - (e + k)).toNat = 0 := by omega
        rw [a1, a2, rnd_zero, Nat.pow_zero, Nat.mul_one, rnd_exact _ _ _ (by omega)]
        congr 2; omega
      · have a1 : (e - L).toNat = 0 := by omega
        have a2 : (e + k - L).toNat = 0 := by omega
        have a3 : (L - e).toNat = (L - (e + k)).toNat + k := by omega
        rw [a1, a2, a3, Nat.pow_zero, Nat.mul_one, Nat.mul_one, rnd_scale]

theorem min_mono (c : Nat) {x y : Nat} (h : x ≤ y) : min x c ≤ min y c := by omega

theorem R_mono {a b : Nat} (e : Int) (h : a ≤ b) : R a e ≤ R b e := by
  by_cases ha : a = 0
  · rw [ha, R_zero]; omega
  have hb : b ≠ 0 := by omega
  unfold R
  rw [if_neg ha, if_neg hb]
  have hlog : a.log2 ≤ b.log2 := by
    have := Nat.log2_self_le ha
    exact (Nat.le_log2 hb).2 (Nat.le_trans this h)
  have hL : lastOf a e ≤ lastOf b e := by unfold lastOf; omega
  have key : (lastOf a e + 149).toNat * 2 ^ 23 + rnd (a * 2 ^ (e - lastOf a e).toNat) (lastOf a e - e).toNat ≤ (lastOf b e + 149).toNat * 2 ^ 23 + rnd (b * 2 ^ (e - lastOf b e).toNat) (lastOf b e - e).toNat := by
    rcases Int.lt_or_eq_of_le hL with hlt | heq
    · have u1 := rnd_le (n := a * 2 ^ (e - lastOf a e).toNat) (d := (lastOf a e - e).toNat) (k := 24) (by
        have a1 : a < 2 ^ (a.log2 + 1) := Nat.lt_log2_self
        have a2 : a * 2 ^ (e - lastOf a e).toNat < 2 ^ (a.log2 + 1 + (e - lastOf a e).toNat) := by
          rw [Nat.pow_add]; exact (Nat.mul_lt_mul_right (Nat.two_pow_pos _)).2 a1
        refine Nat.lt_of_lt_of_le a2 (Nat.pow_le_pow_right (by omega) ?_)
        unfold lastOf; omega)
      have u2 := le_rnd (n := b * 2 ^ (e - lastOf b e).toNat) (d := (lastOf b e - e).toNat) (k := 23) (by
        have b1 := Nat.log2_self_le hb
        have b2 : 2 ^ (b.log2 + (e - lastOf b e).toNat) ≤ b * 2 ^ (e - lastOf b e).toNat := by
          rw [Nat.pow_add]; exact Nat.mul_le_mul_right _ b1
        refine Nat.le_trans (Nat.pow_le_pow_right (by omega) ?_) b2
        unfold lastOf at hlt ⊢; omega)
      have l1 : -149 ≤ lastOf a e := by unfold lastOf; omega
      have u3 : (lastOf a e + 149).toNat + 1 ≤ (lastOf b e + 149).toNat := by omega
      have := Nat.mul_le_mul_right (2 ^ 23) u3
      rw [Nat.add_mul] at this
      omega
    · rw [heq]
      exact Nat.add_le_add_left (rnd_mono _ (Nat.mul_le_mul_right _ h)) _
  exact min_mono _ key

/-- Many digits, then a sticky bit: the same rung as all digits. -/
theorem R_sticky {n t K : Nat} (e : Int) (hn : 2 ^ 24 ≤ n) (ht : t < 2 ^ K) : R (n * 2 ^ K + t) (e - K) = R (2 * n + if t = 0 then 0 else 1) (e - 1) := by
  have hK := Nat.two_pow_pos K
  have n0 : n ≠ 0 := by omega
  have h1 : n * 2 ^ K + t ≠ 0 := by
    have : 1 * 2 ^ K ≤ n * 2 ^ K := Nat.mul_le_mul_right _ (by omega)
    omega
  have h2 : (2 * n + if t = 0 then 0 else 1) ≠ 0 := by omega
  have hlo := Nat.log2_self_le n0
  have hhi : n < 2 ^ (n.log2 + 1) := Nat.lt_log2_self
  have g1 : (n * 2 ^ K + t).log2 = n.log2 + K := by
    rw [Nat.log2_eq_iff h1]
    constructor
    · have := Nat.mul_le_mul_right (2 ^ K) hlo
      rw [Nat.pow_add]; omega
    · have e1 : n.log2 + K + 1 = n.log2 + 1 + K := by omega
      rw [e1, Nat.pow_add]
      have : (n + 1) * 2 ^ K ≤ 2 ^ (n.log2 + 1) * 2 ^ K := Nat.mul_le_mul_right _ hhi
      rw [Nat.add_mul] at this; omega
  have g2 : (2 * n + if t = 0 then 0 else 1).log2 = n.log2 + 1 := by
    rw [Nat.log2_eq_iff h2]
    constructor
    · rw [Nat.pow_succ]; omega
    · rw [Nat.pow_succ]; split <;> omega
  have hlog : 24 ≤ n.log2 := (Nat.le_log2 n0).2 hn
  have hl : lastOf (n * 2 ^ K + t) (e - K) = lastOf (2 * n + if t = 0 then 0 else 1) (e - 1) := by
    unfold lastOf; rw [g1, g2]; congr 1; omega
  have hL : e + 1 ≤ lastOf (2 * n + if t = 0 then 0 else 1) (e - 1) := by
    unfold lastOf; rw [g2]; omega
  unfold R
  rw [if_neg h1, if_neg h2, hl]
  generalize lastOf (2 * n + if t = 0 then 0 else 1) (e - 1) = L at *
  have a1 : (e - K - L).toNat = 0 := by omega
  have a2 : (e - 1 - L).toNat = 0 := by omega
  obtain ⟨d, hd⟩ : ∃ d : Nat, (d : Int) = L - e - 1 := ⟨(L - e - 1).toNat, by omega⟩
  have a3 : (L - (e - K)).toNat = d + 1 + K := by omega
  have a4 : (L - (e - 1)).toNat = d + 2 := by omega
  rw [a1, a2, a3, a4, Nat.pow_zero, Nat.mul_one, Nat.mul_one, rnd_sticky ht]

end Go.Proofs.YtjhddlkfkicpaaaGreatDoor.Fl

namespace Go.Proofs.YtjhddlkfkicpaaaGreatDoor.Fl
open Ieee

abbrev S : Format := single

def rung (x : Nat) : Nat := x % 2147483648
def sgn (x : Nat) : Bool := x / 2147483648 % 2 == 1
def sg (s : Bool) (n : Nat) : Int := if s then -(n : Int) else n
def key (x : Nat) : Int := sg (sgn x) (rung x)
/-- Not a NaN. -/
def nn (x : Nat) : Prop := rung x ≤ 2139095040
/-- Finite. -/
def fin (x : Nat) : Prop := rung x < 2139095040
/-- The magnitude of a rung, in units of 2^-149. -/
def MAG (r : Nat) : Nat := if r < 2 ^ 23 then r else (2 ^ 23 + r % 2 ^ 23) * 2 ^ (r / 2 ^ 23 - 1)
def V (x : Nat) : Int := sg (sgn x) (MAG (rung x))

instance (x : Nat) : Decidable (nn x) := inferInstanceAs (Decidable (_ ≤ _))
instance (x : Nat) : Decidable (fin x) := inferInstanceAs (Decidable (_ < _))

theorem fin.nn {x : Nat} (h : fin x) : nn x := Nat.le_of_lt h

theorem R_MAG {r : Nat} (h : r < 2139095040) : R (MAG r) (-149) = r := by
  unfold MAG
  by_cases c : r < 2 ^ 23
  · rw [if_pos c]
    by_cases r0 : r = 0
    · rw [r0, R_zero]
    · have hl : r.log2 < 23 := (Nat.log2_lt r0).2 c
      unfold R
      rw [if_neg r0]
      have e : lastOf r (-149) = -149 := by unfold lastOf; omega
      rw [e, show ((-149 : Int) + 149).toNat = 0 from rfl, show ((-149 : Int) - -149).toNat = 0 from rfl, rnd_zero, Nat.pow_zero]
      omega
  · rw [if_neg c, R_scale]
    have m0 : 2 ^ 23 + r % 2 ^ 23 ≠ 0 := by omega
    have hl : (2 ^ 23 + r % 2 ^ 23).log2 = 23 := by
      rw [Nat.log2_eq_iff m0]; omega
    unfold R
    rw [if_neg m0]
    have e : lastOf (2 ^ 23 + r % 2 ^ 23) (-149 + ((r / 2 ^ 23 - 1 : Nat) : Int)) = -149 + ((r / 2 ^ 23 - 1 : Nat) : Int) := by
      unfold lastOf; rw [hl]; omega
    rw [e]
    generalize hk : r / 2 ^ 23 - 1 = k
    rw [show (-149 + (k : Int) + 149).toNat = k from by omega, show (-149 + (k : Int) - (-149 + (k : Int))).toNat = 0 from by omega, rnd_zero, Nat.pow_zero]
    omega

theorem sg_neg (s : Bool) (n : Nat) : sg (!s) n = -sg s n := by cases s <;> simp [sg]
theorem sg_le_neg {n m : Nat} (s : Bool) (h : n ≤ m) : -(m : Int) ≤ sg s n ∧ sg s n ≤ m := by cases s <;> simp [sg] <;> omega

/-- The signed rung of z * 2^B. -/
def KR (B : Int) (z : Int) : Int := if z < 0 then -(R z.natAbs B : Int) else R z.natAbs B

theorem KR_zero (B : Int) : KR B 0 = 0 := by simp [KR, R_zero]

theorem KR_sg (B : Int) (s : Bool) (n : Nat) : KR B (sg s n) = sg s (R n B) := by
  unfold KR
  cases s
  · simp only [sg, Bool.false_eq_true, if_false, Int.natAbs_natCast]
    rw [if_neg (by omega)]
  · by_cases h : n = 0
    · simp [sg, h, R_zero]
    · simp only [sg, if_true, Int.natAbs_neg, Int.natAbs_natCast]
      rw [if_pos (by omega)]

theorem KR_scale (B : Int) (z : Int) (k : Nat) : KR B (z * 2 ^ k) = KR (B + k) z := by
  have hk : (0 : Int) < 2 ^ k := Int.pow_pos (by omega)
  have e : (z * 2 ^ k).natAbs = z.natAbs * 2 ^ k := by rw [Int.natAbs_mul, Int.natAbs_pow]; rfl
  unfold KR
  rw [e, R_scale]
  by_cases h : z < 0
  · rw [if_pos h, if_pos (Int.mul_neg_of_neg_of_pos h hk)]
  · rw [if_neg h, if_neg (by have := Int.mul_nonneg (by omega : 0 ≤ z) (Int.le_of_lt hk); omega)]

theorem KR_mono (B : Int) {y z : Int} (h : y ≤ z) : KR B y ≤ KR B z := by
  unfold KR
  split <;> split
  · have := R_mono B (show z.natAbs ≤ y.natAbs by omega); omega
  · omega
  · omega
  · have := R_mono B (show y.natAbs ≤ z.natAbs by omega); omega

theorem KR_abs (B z : Int) : -2139095040 ≤ KR B z ∧ KR B z ≤ 2139095040 := by
  have := R_le z.natAbs B
  unfold KR; split <;> omega

/-! ### words -/
theorem word_eq (s : Bool) (r : Nat) : S.word s r = if s then 2147483648 + r else r := by
  show (if s then S.signWeight + r else r) = _
  have : S.signWeight = 2147483648 := by decide
  rw [this]

theorem sgn_word (s : Bool) {r : Nat} (h : r < 2147483648) : sgn (S.word s r) = s := by
  rw [word_eq]; unfold sgn
  cases s
  · simp [Nat.div_eq_of_lt h]
  · have : (2147483648 + r) / 2147483648 = 1 := by omega
    simp [this]

theorem rung_word (s : Bool) {r : Nat} (h : r < 2147483648) : rung (S.word s r) = r := by
  rw [word_eq]; unfold rung; cases s <;> simp <;> omega

theorem key_word (s : Bool) {r : Nat} (h : r < 2147483648) : key (S.word s r) = sg s r := by
  unfold key; rw [sgn_word s h, rung_word s h]

theorem write_number (s : Bool) (m : Nat) (e : Int) : S.write (.number s m e) = S.word s (R m e) := nearest_eq s m e

theorem write_key (s : Bool) (m : Nat) (e : Int) : key (S.write (.number s m e)) = KR e (sg s m) := by
  rw [write_number, key_word _ (by have := R_le m e; omega), KR_sg]

theorem write_nn (s : Bool) (m : Nat) (e : Int) : nn (S.write (.number s m e)) := by
  have := R_le m e
  rw [write_number]; unfold nn; rw [rung_word _ (by omega)]; exact this

theorem read_fin {x : Nat} (h : fin x) : ∃ (m : Nat) (p : Nat), S.read x = .number (sgn x) m (-149 + p) ∧ p ≤ 253 ∧ m * 2 ^ p = MAG (rung x) ∧ m < 2 ^ 24 := by
  have h1 : S.signWeight = 2147483648 := by decide
  have h2 : S.binade = 2 ^ 23 := by decide
  have h3 : S.infRung = 2139095040 := by decide
  have h4 : S.leastPlace = -149 := by decide
  unfold fin at h
  unfold Format.read
  simp only [h1, h2, h3, h4]
  change rung x < _ at h
  show ∃ m p, (if rung x < 2 ^ 23 then Datum.number (sgn x) (rung x) (-149) else if rung x < 2139095040 then Datum.number (sgn x) (2 ^ 23 + rung x % 2 ^ 23) (-149 + (rung x / 2 ^ 23 - 1 : Nat)) else _) = _ ∧ _
  by_cases c : rung x < 2 ^ 23
  · exact ⟨rung x, 0, by rw [if_pos c]; rfl, by omega, by simp [MAG, c], by omega⟩
  · refine ⟨2 ^ 23 + rung x % 2 ^ 23, rung x / 2 ^ 23 - 1, by rw [if_neg c, if_pos h], by omega, by simp [MAG, c], by omega⟩

theorem read_inf {x : Nat} (h : rung x = 2139095040) : S.read x = .infinity (sgn x) := by
  have h1 : S.signWeight = 2147483648 := by decide
  have h2 : S.binade = 2 ^ 23 := by decide
  have h3 : S.infRung = 2139095040 := by decide
  unfold Format.read
  simp only [h1, h2, h3]
  show (if rung x < 2 ^ 23 then _ else if rung x < 2139095040 then _ else if rung x = 2139095040 then Datum.infinity (sgn x) else _) = _
  rw [if_neg (by omega), if_neg (by omega), if_pos h]

theorem read_nan {x : Nat} (h : ¬ nn x) : ∃ a b, S.read x = .nan a b := by
  have h1 : S.signWeight = 2147483648 := by decide
  have h2 : S.binade = 2 ^ 23 := by decide
  have h3 : S.infRung = 2139095040 := by decide
  unfold nn at h
  unfold Format.read
  simp only [h1, h2, h3]
  refine ⟨sgn x, rung x - 2139095040, ?_⟩
  show (if rung x < 2 ^ 23 then _ else if rung x < 2139095040 then _ else if rung x = 2139095040 then _ else Datum.nan (sgn x) (rung x - 2139095040)) = _
  rw [if_neg (by omega), if_neg (by omega), if_neg (by omega)]

theorem signed_eq (s : Bool) (m up : Nat) : signed s m up = sg s (m * 2 ^ up) := by
  unfold signed sg; rw [Nat.shiftLeft_eq]

theorem sg_mul (s : Bool) (m k : Nat) : sg s m * (2 : Int) ^ k = sg s (m * 2 ^ k) := by
  cases s <;> simp [sg, Int.natCast_pow, Int.neg_mul]

/-- Rungs are ordered as their magnitudes. -/
theorem MAG_le {a b : Nat} (ha : a < 2139095040) (hb : b < 2139095040) : MAG a ≤ MAG b ↔ a ≤ b := by
  constructor
  · intro h
    have := R_mono (-149) h
    rwa [R_MAG ha, R_MAG hb] at this
  · intro h
    rcases Nat.le_total (MAG a) (MAG b) with h1 | h1
    · exact h1
    · have := R_mono (-149) h1
      rw [R_MAG ha, R_MAG hb] at this
      obtain rfl : a = b := by omega
      exact h1

theorem MAG_zero : MAG 0 = 0 := rfl

theorem V_le {x y : Nat} (hx : fin x) (hy : fin y) : V x ≤ V y ↔ key x ≤ key y := by
  have h1 := MAG_le hx hy
  have h2 := MAG_le hy hx
  have h3 : MAG (rung x) ≤ 0 ↔ rung x ≤ 0 := MAG_le (b := 0) hx (by omega)
  have h4 : MAG (rung y) ≤ 0 ↔ rung y ≤ 0 := MAG_le (b := 0) hy (by omega)
  unfold V key
  cases sgn x <;> cases sgn y <;> simp only [sg, if_true, if_false, Bool.false_eq_true] <;> omega

theorem KR_V {x : Nat} (h : fin x) : KR (-149) (V x) = key x := by
  unfold V key; rw [KR_sg, R_MAG h]

theorem compare_of_le {a b c d : Int} (h1 : a ≤ b ↔ c ≤ d) (h2 : b ≤ a ↔ d ≤ c) : compare a b = compare c d := by
  simp only [compare, compareOfLessAndEq]
  by_cases x : a < b
  · rw [if_pos x, if_pos (by omega)]
  · rw [if_neg x, if_neg (by omega : ¬ c < d)]
    by_cases y : a = b
    · rw [if_pos y, if_pos (by omega)]
    · rw [if_neg y, if_neg (by omega)]

theorem compare_lt {a b : Int} (h : a < b) : compare a b = .lt := by simp only [compare, compareOfLessAndEq]; rw [if_pos h]
theorem compare_gt {a b : Int} (h : b < a) : compare a b = .gt := by simp only [compare, compareOfLessAndEq]; rw [if_neg (by omega), if_neg (by omega)]

theorem order_eq {x y : Nat} (hx : nn x) (hy : nn y) : S.order x y = some (compare (key x) (key y)) := by
  unfold Format.order
  rcases Nat.lt_or_eq_of_le hx with fx | ix
  · have hkx := sg_le_neg (sgn x) (Nat.le_of_lt fx)
    have hkx' : -(2139095040 : Int) < key x ∧ key x < 2139095040 := by
      have := sg_le_neg (sgn x) (show rung x ≤ 2139095039 from Nat.le_of_lt_succ fx)
      unfold key; omega
    obtain ⟨m, p, e, hp, hm, _⟩ := read_fin fx
    rw [e]
    rcases Nat.lt_or_eq_of_le hy with fy | iy
    · obtain ⟨n, q, e', hq, hn, _⟩ := read_fin fy
      rw [e']
      unfold Datum.order
      simp only [signed_eq]
      congr 1
      have hb : ∃ b : Nat, min (-149 + (p : Int)) (-149 + (q : Int)) = -149 + b ∧ b ≤ p ∧ b ≤ q := ⟨min p q, by omega, by omega, by omega⟩
      obtain ⟨b, hb, h1, h2⟩ := hb
      rw [hb, show (-149 + (p : Int) - (-149 + (b : Int))).toNat = p - b from by omega, show (-149 + (q : Int) - (-149 + (b : Int))).toNat = q - b from by omega]
      have hpos : (0 : Int) < 2 ^ b := Int.pow_pos (by omega)
      have ex : sg (sgn x) (m * 2 ^ (p - b)) * 2 ^ b = V x := by
        rw [sg_mul, Nat.mul_assoc, ← Nat.pow_add, Nat.sub_add_cancel h1, hm]; rfl
      have ey : sg (sgn y) (n * 2 ^ (q - b)) * 2 ^ b = V y := by
        rw [sg_mul, Nat.mul_assoc, ← Nat.pow_add, Nat.sub_add_cancel h2, hn]; rfl
      apply compare_of_le
      · rw [← V_le fx fy, ← ex, ← ey]; exact (Int.mul_le_mul_right hpos).symm
      · rw [← V_le fy fx, ← ex, ← ey]; exact (Int.mul_le_mul_right hpos).symm
    · rw [read_inf iy]
      unfold Datum.order key
      rw [iy]
      congr 1
      have hk : -(2139095040 : Int) < sg (sgn x) (rung x) ∧ sg (sgn x) (rung x) < 2139095040 := hkx'
      cases sgn y
      · exact congrArg some (compare_lt hk.2).symm
      · exact congrArg some (compare_gt hk.1).symm
  · rw [read_inf ix]
    rcases Nat.lt_or_eq_of_le hy with fy | iy
    · obtain ⟨n, q, e', hq, hn, _⟩ := read_fin fy
      rw [e']
      have hk := sg_le_neg (sgn y) (show rung y ≤ 2139095039 from Nat.le_of_lt_succ fy)
      unfold Datum.order key
      rw [ix]
      congr 1
      cases sgn x
      · exact congrArg some (compare_gt (show sg (sgn y) (rung y) < (2139095040 : Int) by omega)).symm
      · exact congrArg some (compare_lt (show -(2139095040 : Int) < sg (sgn y) (rung y) by omega)).symm
    · rw [read_inf iy]
      unfold Datum.order key
      rw [ix, iy]
      cases sgn x <;> cases sgn y <;> rfl

theorem order_nan_left {x y : Nat} (h : ¬ nn x) : S.order x y = none := by
  obtain ⟨a, b, e⟩ := read_nan h
  unfold Format.order; rw [e]; rfl

theorem order_nan_right {x y : Nat} (h : ¬ nn y) : S.order x y = none := by
  obtain ⟨a, b, e⟩ := read_nan h
  unfold Format.order; rw [e]
  cases S.read x <;> rfl

/-! ### sum, difference -/
theorem sum_fin {x y : Nat} (hx : fin x) (hy : fin y) : ∃ r, S.add x y = some r ∧ key r = KR (-149) (V x + V y) ∧ nn r := by
  obtain ⟨m, p, e, hp, hm, _⟩ := read_fin hx
  obtain ⟨n, q, e', hq, hn, _⟩ := read_fin hy
  unfold Format.add
  rw [e, e']
  unfold Datum.sum
  simp only [signed_eq, Option.map_some]
  obtain ⟨b, hb, h1, h2⟩ : ∃ b : Nat, min (-149 + (p : Int)) (-149 + (q : Int)) = -149 + b ∧ b ≤ p ∧ b ≤ q := ⟨min p q, by omega, by omega, by omega⟩
  rw [hb, show (-149 + (p : Int) - (-149 + (b : Int))).toNat = p - b from by omega, show (-149 + (q : Int) - (-149 + (b : Int))).toNat = q - b from by omega]
  refine ⟨_, rfl, ?_, write_nn _ _ _⟩
  have ex : sg (sgn x) (m * 2 ^ (p - b)) * 2 ^ b = V x := by
    rw [sg_mul, Nat.mul_assoc, ← Nat.pow_add, Nat.sub_add_cancel h1, hm]; rfl
  have ey : sg (sgn y) (n * 2 ^ (q - b)) * 2 ^ b = V y := by
    rw [sg_mul, Nat.mul_assoc, ← Nat.pow_add, Nat.sub_add_cancel h2, hn]; rfl
  rw [← ex, ← ey, ← Int.add_mul, KR_scale, write_key]
  generalize sg (sgn x) (m * 2 ^ (p - b)) + sg (sgn y) (n * 2 ^ (q - b)) = T
  congr 1
  by_cases hT : T = 0
  · subst hT; cases sgn x <;> cases sgn y <;> simp [sg]
  · rw [if_neg hT]
    by_cases h : T < 0
    · simp [sg, h]; omega
    · simp [sg, h]; omega

theorem read_opposite_fin {x : Nat} (h : fin x) : ∃ (m : Nat) (p : Nat), (S.read x).opposite = .number (!sgn x) m (-149 + p) ∧ p ≤ 253 ∧ m * 2 ^ p = MAG (rung x) ∧ m < 2 ^ 24 := by
  obtain ⟨m, p, e, r⟩ := read_fin h
  exact ⟨m, p, by rw [e]; rfl, r⟩

theorem diff_fin {x y : Nat} (hx : fin x) (hy : fin y) : ∃ r, S.sub x y = some r ∧ key r = KR (-149) (V x - V y) ∧ nn r := by
  obtain ⟨m, p, e, hp, hm, _⟩ := read_fin hx
  obtain ⟨n, q, e', hq, hn, _⟩ := read_opposite_fin hy
  unfold Format.sub
  rw [e, e']
  unfold Datum.sum
  simp only [signed_eq, Option.map_some]
  obtain ⟨b, hb, h1, h2⟩ : ∃ b : Nat, min (-149 + (p : Int)) (-149 + (q : Int)) = -149 + b ∧ b ≤ p ∧ b ≤ q := ⟨min p q, by omega, by omega, by omega⟩
  rw [hb, show (-149 + (p : Int) - (-149 + (b : Int))).toNat = p - b from by omega, show (-149 + (q : Int) - (-149 + (b : Int))).toNat = q - b from by omega]
  refine ⟨_, rfl, ?_, write_nn _ _ _⟩
  have ex : sg (sgn x) (m * 2 ^ (p - b)) * 2 ^ b = V x := by
    rw [sg_mul, Nat.mul_assoc, ← Nat.pow_add, Nat.sub_add_cancel h1, hm]; rfl
  have ey : sg (!sgn y) (n * 2 ^ (q - b)) * 2 ^ b = -V y := by
    rw [sg_mul, Nat.mul_assoc, ← Nat.pow_add, Nat.sub_add_cancel h2, hn, sg_neg]; rfl
  rw [Int.sub_eq_add_neg, ← ex, ← ey, ← Int.add_mul, KR_scale, write_key]
  generalize sg (sgn x) (m * 2 ^ (p - b)) + sg (!sgn y) (n * 2 ^ (q - b)) = T
  congr 1
  by_cases hT : T = 0
  · subst hT; cases sgn x <;> cases sgn y <;> simp [sg]
  · rw [if_neg hT]
    by_cases h : T < 0
    · simp [sg, h]; omega
    · simp [sg, h]; omega

/-! ### product -/
theorem sg_xor (s t : Bool) (a b : Nat) : sg s a * sg t b = sg (s ^^ t) (a * b) := by
  cases s <;> cases t <;> simp [sg, Int.mul_neg, Int.neg_mul]

theorem prod_fin {x y : Nat} (hx : fin x) (hy : fin y) : ∃ r, S.mul x y = some r ∧ key r = KR (-298) (V x * V y) ∧ nn r := by
  obtain ⟨m, p, e, hp, hm, _⟩ := read_fin hx
  obtain ⟨n, q, e', hq, hn, _⟩ := read_fin hy
  unfold Format.mul
  rw [e, e']
  unfold Datum.product
  simp only [Option.map_some]
  refine ⟨_, rfl, ?_, write_nn _ _ _⟩
  rw [write_key]
  have e1 : V x * V y = sg (sgn x ^^ sgn y) (m * n) * 2 ^ (p + q) := by
    rw [sg_mul]; unfold V
    rw [sg_xor, ← hm, ← hn, Nat.pow_add]
    congr 1
    rw [Nat.mul_mul_mul_comm]
  rw [e1, KR_scale]
  congr 1
  omega

/-! ### quotient -/
/-- Digits enough behind the point. -/
def far : Nat := 400

/-- The rung of a / b. -/
def Q (a b : Nat) : Nat := R (2 * (a * 2 ^ far / b) + if a * 2 ^ far % b = 0 then 0 else 1) (-401)

theorem Q_mono {a a' b : Nat} (h : a ≤ a') : Q a b ≤ Q a' b := by
  unfold Q
  apply R_mono
  have h1 : a * 2 ^ far ≤ a' * 2 ^ far := Nat.mul_le_mul_right _ h
  generalize a * 2 ^ far = u at *
  generalize a' * 2 ^ far = v at *
  have hq : u / b ≤ v / b := Nat.div_le_div_right h1
  have eu := Nat.div_add_mod u b
  have ev := Nat.div_add_mod v b
  rcases Nat.lt_or_eq_of_le hq with hlt | heq
  · split <;> split <;> omega
  · rw [← heq] at ev ⊢
    split <;> split <;> omega

theorem Q_zero (b : Nat) : Q 0 b = 0 := by simp [Q, R_zero]

theorem quot_core {m n : Nat} (k : Nat) (hm0 : m ≠ 0) (hn0 : n ≠ 0) (hm : m.log2 ≤ 25) :
    R (2 * (m * 2 ^ (25 + n.log2 - m.log2) / n) + if m * 2 ^ (25 + n.log2 - m.log2) % n = 0 then 0 else 1) (-401 + k) =
      R (2 * (m * 2 ^ (25 + n.log2 - m.log2) * 2 ^ k / n) + if m * 2 ^ (25 + n.log2 - m.log2) * 2 ^ k % n = 0 then 0 else 1) (-401) := by
  have hn : 0 < n := by omega
  have hA : 2 ^ (25 + n.log2) ≤ m * 2 ^ (25 + n.log2 - m.log2) := by
    have := Nat.mul_le_mul_right (2 ^ (25 + n.log2 - m.log2)) (Nat.log2_self_le hm0)
    rwa [← Nat.pow_add, show m.log2 + (25 + n.log2 - m.log2) = 25 + n.log2 from by omega] at this
  generalize m * 2 ^ (25 + n.log2 - m.log2) = A at *
  have hk := Nat.two_pow_pos k
  have hc : 2 ^ 24 ≤ A / n := by
    rw [Nat.le_div_iff_mul_le hn]
    have h1 : n < 2 ^ (n.log2 + 1) := Nat.lt_log2_self
    have h2 : 2 ^ 24 * n ≤ 2 ^ 24 * 2 ^ (n.log2 + 1) := Nat.mul_le_mul_left _ (by omega)
    rw [← Nat.pow_add, show 24 + (n.log2 + 1) = 25 + n.log2 from by omega] at h2
    omega
  have hρ : A % n < n := Nat.mod_lt _ hn
  have eA := Nat.div_add_mod A n
  generalize hcc : A / n = c at *
  generalize A % n = ρ at *
  have e1 : A * 2 ^ k = n * (c * 2 ^ k) + ρ * 2 ^ k := by rw [← eA, Nat.add_mul, Nat.mul_assoc]
  have hq : A * 2 ^ k / n = c * 2 ^ k + ρ * 2 ^ k / n := by rw [e1, Nat.mul_add_div hn]
  have hr : A * 2 ^ k % n = ρ * 2 ^ k % n := by rw [e1, Nat.mul_add_mod]
  have hu : ρ * 2 ^ k / n < 2 ^ k := by
    rw [Nat.div_lt_iff_lt_mul hn, Nat.mul_comm (2 ^ k)]
    exact (Nat.mul_lt_mul_right hk).2 hρ
  have eu := Nat.div_add_mod (ρ * 2 ^ k) n
  rw [hq, hr]
  have hz : (2 * (ρ * 2 ^ k / n) + (if ρ * 2 ^ k % n = 0 then 0 else 1) = 0) ↔ ρ = 0 := by
    constructor
    · intro h
      have h1 : ρ * 2 ^ k / n = 0 := by omega
      have h2 : ρ * 2 ^ k % n = 0 := by
        rcases Nat.eq_zero_or_pos (ρ * 2 ^ k % n) with h3 | h3
        · exact h3
        · rw [if_neg (by omega)] at h; omega
      rw [h1, h2, Nat.mul_zero, Nat.add_zero] at eu
      rcases Nat.mul_eq_zero.1 eu.symm with h4 | h4
      · exact h4
      · omega
    · rintro rfl; simp
  have key := R_sticky (n := c) (t := 2 * (ρ * 2 ^ k / n) + if ρ * 2 ^ k % n = 0 then 0 else 1) (K := k + 1) (-400 + k) hc (by rw [Nat.pow_succ]; split <;> omega)
  have e2 : c * 2 ^ (k + 1) + (2 * (ρ * 2 ^ k / n) + if ρ * 2 ^ k % n = 0 then 0 else 1) = 2 * (c * 2 ^ k + ρ * 2 ^ k / n) + if ρ * 2 ^ k % n = 0 then 0 else 1 := by
    rw [Nat.pow_succ, ← Nat.mul_assoc]; generalize c * 2 ^ k = z; omega
  rw [e2, show (-400 + (k : Int) - ((k + 1 : Nat) : Int)) = -401 from by omega, show (-400 + (k : Int) - 1) = -401 + k from by omega] at key
  rw [key]
  congr 2
  by_cases h : ρ = 0
  · rw [if_pos h, if_pos (hz.2 h)]
  · rw [if_neg h, if_neg (fun h' => h (hz.1 h'))]

theorem quot_fin {x y : Nat} (hx : fin x) (hy : fin y) (h0 : rung y ≠ 0) : ∃ r, S.div x y = some r ∧ key r = sg (sgn x ^^ sgn y) (Q (MAG (rung x)) (MAG (rung y))) ∧ nn r := by
  obtain ⟨m, p, e, hp, hm, hm24⟩ := read_fin hx
  obtain ⟨n, q, e', hq, hn, hn24⟩ := read_fin hy
  have hMy : MAG (rung y) ≠ 0 := by
    intro h
    have := (MAG_le (b := 0) hy (by omega)).1 (by rw [h]; exact Nat.zero_le _)
    omega
  have hn0 : n ≠ 0 := by
    intro h; rw [h, Nat.zero_mul] at hn; omega
  unfold Format.div
  rw [e, e']
  unfold Datum.quotient
  have hf : S.fractionBits + 2 = 25 := by decide
  simp only [hf, if_neg hn0, Option.map_some]
  refine ⟨_, rfl, ?_, write_nn _ _ _⟩
  rw [write_key, KR_sg]
  congr 1
  rw [Nat.shiftLeft_eq]
  have hb : ∀ u v : Nat, ((u % v != 0).toNat) = if u % v = 0 then 0 else 1 := by
    intro u v; by_cases h : u % v = 0 <;> simp [h]
  rw [hb, ← hm, ← hn]
  by_cases m0 : m = 0
  · subst m0; simp [Q_zero, R_zero]
  have hlm : m.log2 < 24 := (Nat.log2_lt m0).2 hm24
  have hln : n.log2 < 24 := (Nat.log2_lt hn0).2 hn24
  have hfar : far = 400 := rfl
  obtain ⟨k, hk⟩ : ∃ k : Nat, p + far = k + (25 + n.log2 - m.log2) + q := ⟨p + far - q - (25 + n.log2 - m.log2), by omega⟩
  have hpl : -149 + (p : Int) - (-149 + (q : Int)) - ((25 + n.log2 - m.log2 : Nat) : Int) - 1 = -401 + k := by omega
  rw [hpl, quot_core k m0 hn0 (by omega)]
  unfold Q
  have e1 : m * 2 ^ p * 2 ^ far = m * 2 ^ (25 + n.log2 - m.log2) * 2 ^ k * 2 ^ q := by
    rw [Nat.mul_assoc, ← Nat.pow_add, hk, Nat.mul_assoc, Nat.mul_assoc, ← Nat.pow_add, ← Nat.pow_add]
    congr 2; omega
  have hq2 := Nat.two_pow_pos q
  rw [e1, Nat.mul_div_mul_right _ _ hq2, Nat.mul_mod_mul_right]
  congr 2
  by_cases h : m * 2 ^ (25 + n.log2 - m.log2) * 2 ^ k % n = 0
  · rw [if_pos h, h, Nat.zero_mul, if_pos rfl]
  · rw [if_neg h, if_neg (fun h' => by rcases Nat.mul_eq_zero.1 h' with h1 | h1 <;> omega)]

end Go.Proofs.YtjhddlkfkicpaaaGreatDoor.Fl

namespace Go.Proofs.YtjhddlkfkicpaaaGreatDoor.Fl
open Ieee

def flt (x y : Nat) : Bool := S.order x y == some .lt
def fle (x y : Nat) : Bool := S.order x y == some .lt || S.order x y == some .eq
def feq (x y : Nat) : Bool := S.order x y == some .eq

theorem cmp_lt (a b : Int) : (compare a b = .lt) ↔ a < b := by simp [compare, compareOfLessAndEq]; split <;> simp_all
theorem cmp_eq (a b : Int) : (compare a b = .eq) ↔ a = b := by
  simp only [compare, compareOfLessAndEq]; split
  · simp; omega
  · split <;> simp_all
theorem cmp_gt (a b : Int) : (compare a b = .gt) ↔ b < a := by
  simp only [compare, compareOfLessAndEq]; split
  · simp; omega
  · split
    · simp; omega
    · simp; omega

theorem flt_iff {x y : Nat} (hx : nn x) (hy : nn y) : flt x y = decide (key x < key y) := by
  unfold flt; rw [order_eq hx hy, Bool.eq_iff_iff]; simp [cmp_lt]
theorem feq_iff {x y : Nat} (hx : nn x) (hy : nn y) : feq x y = decide (key x = key y) := by
  unfold feq; rw [order_eq hx hy, Bool.eq_iff_iff]; simp
theorem fle_iff {x y : Nat} (hx : nn x) (hy : nn y) : fle x y = decide (key x ≤ key y) := by
  unfold fle; rw [order_eq hx hy, Bool.eq_iff_iff]; simp [cmp_lt]; omega

theorem gt_eq (x y : Nat) : (S.order x y == some .gt) = flt y x := by
  by_cases hx : nn x
  · by_cases hy : nn y
    · rw [flt_iff hy hx, order_eq hx hy, Bool.eq_iff_iff]; simp [cmp_gt]
    · unfold flt; rw [order_nan_right hy, order_nan_left hy]; rfl
  · unfold flt; rw [order_nan_right hx, order_nan_left hx]; rfl
theorem eq_symm' (x y : Nat) : feq x y = feq y x := by
  by_cases hx : nn x
  · by_cases hy : nn y
    · rw [feq_iff hy hx, feq_iff hx hy, Bool.eq_iff_iff]; simp; omega
    · unfold feq; rw [order_nan_right hy, order_nan_left hy]
  · unfold feq; rw [order_nan_right hx, order_nan_left hx]
theorem ge_eq (x y : Nat) : (S.order x y == some .gt || S.order x y == some .eq) = fle y x := by
  have h := eq_symm' x y
  unfold feq at h
  rw [gt_eq, h]; rfl

theorem nn_of_cmp {x y : Nat} (h : S.order x y ≠ none) : nn x ∧ nn y := by
  by_cases hx : nn x
  · by_cases hy : nn y
    · exact ⟨hx, hy⟩
    · exact absurd (order_nan_right hy) h
  · exact absurd (order_nan_left hx) h
theorem fle_nn {x y : Nat} (h : fle x y = true) : nn x ∧ nn y := nn_of_cmp fun e => by simp [fle, e] at h
theorem flt_nn {x y : Nat} (h : flt x y = true) : nn x ∧ nn y := nn_of_cmp fun e => by simp [flt, e] at h
theorem feq_nn {x y : Nat} (h : feq x y = true) : nn x ∧ nn y := nn_of_cmp fun e => by simp [feq, e] at h
theorem fle_key {x y : Nat} (h : fle x y = true) : nn x ∧ nn y ∧ key x ≤ key y := by
  obtain ⟨a, b⟩ := fle_nn h; rw [fle_iff a b] at h; exact ⟨a, b, of_decide_eq_true h⟩
theorem flt_key {x y : Nat} (h : flt x y = true) : nn x ∧ nn y ∧ key x < key y := by
  obtain ⟨a, b⟩ := flt_nn h; rw [flt_iff a b] at h; exact ⟨a, b, of_decide_eq_true h⟩
theorem feq_key {x y : Nat} (h : feq x y = true) : nn x ∧ nn y ∧ key x = key y := by
  obtain ⟨a, b⟩ := feq_nn h; rw [feq_iff a b] at h; exact ⟨a, b, of_decide_eq_true h⟩
theorem feq_self {x : Nat} : feq x x = decide (nn x) := by
  by_cases h : nn x
  · rw [feq_iff h h]; simp [h]
  · unfold feq; rw [order_nan_left h]; simp [h]
theorem fle_of {x y : Nat} (hx : nn x) (hy : nn y) (h : key x ≤ key y) : fle x y = true := by rw [fle_iff hx hy]; exact decide_eq_true h
theorem flt_of {x y : Nat} (hx : nn x) (hy : nn y) (h : key x < key y) : flt x y = true := by rw [flt_iff hx hy]; exact decide_eq_true h
theorem fle_not {x y : Nat} (hx : nn x) (hy : nn y) (h : fle x y = false) : key y < key x := by
  rw [fle_iff hx hy] at h; have := of_decide_eq_false h; omega
theorem flt_not {x y : Nat} (hx : nn x) (hy : nn y) (h : flt x y = false) : key y ≤ key x := by
  rw [flt_iff hx hy] at h; have := of_decide_eq_false h; omega

/-- Two words with one key that is not 0 are one word. -/
theorem word_of_key {x y : Nat} (hx : x < 4294967296) (hy : y < 4294967296) (h : key x = key y) (h0 : key x ≠ 0) : x = y := by
  unfold key sgn rung at *
  have d1 : x / 2147483648 < 2 := by omega
  have d2 : y / 2147483648 < 2 := by omega
  have r1 : x / 2147483648 = 0 ∨ x / 2147483648 = 1 := by omega
  have r2 : y / 2147483648 = 0 ∨ y / 2147483648 = 1 := by omega
  rcases r1 with r1 | r1 <;> rcases r2 with r2 | r2 <;> simp [r1, r2, sg] at h h0 <;> omega

/-! ### the operations -/
def fadd (x y : Nat) : Nat := (S.add x y).getD 2143289344
def fsub (x y : Nat) : Nat := (S.sub x y).getD 2143289344
def fmul (x y : Nat) : Nat := (S.mul x y).getD 2143289344
def fdiv (x y : Nat) : Nat := (S.div x y).getD 2143289344
def AddOk (x y : Nat) : Prop := ∃ r, S.add x y = some r
def SubOk (x y : Nat) : Prop := ∃ r, S.sub x y = some r
def MulOk (x y : Nat) : Prop := ∃ r, S.mul x y = some r
def DivOk (x y : Nat) : Prop := ∃ r, S.div x y = some r
theorem AddOk.run {x y : Nat} (h : AddOk x y) : S.add x y = some (fadd x y) := by obtain ⟨r, e⟩ := h; unfold fadd; rw [e]; rfl
theorem SubOk.run {x y : Nat} (h : SubOk x y) : S.sub x y = some (fsub x y) := by obtain ⟨r, e⟩ := h; unfold fsub; rw [e]; rfl
theorem MulOk.run {x y : Nat} (h : MulOk x y) : S.mul x y = some (fmul x y) := by obtain ⟨r, e⟩ := h; unfold fmul; rw [e]; rfl
theorem DivOk.run {x y : Nat} (h : DivOk x y) : S.div x y = some (fdiv x y) := by obtain ⟨r, e⟩ := h; unfold fdiv; rw [e]; rfl
theorem fadd_lt {x y : Nat} : fadd x y < 4294967296 := by
  unfold fadd; cases h : S.add x y with
  | none => decide
  | some r => exact S.add_lt h
theorem fsub_lt {x y : Nat} : fsub x y < 4294967296 := by
  unfold fsub; cases h : S.sub x y with
  | none => decide
  | some r => exact S.sub_lt h
theorem fmul_lt {x y : Nat} : fmul x y < 4294967296 := by
  unfold fmul; cases h : S.mul x y with
  | none => decide
  | some r => exact S.mul_lt h
theorem fdiv_lt {x y : Nat} : fdiv x y < 4294967296 := by
  unfold fdiv; cases h : S.div x y with
  | none => decide
  | some r => exact S.div_lt h

theorem add_fin {x y : Nat} (hx : fin x) (hy : fin y) : AddOk x y ∧ key (fadd x y) = KR (-149) (V x + V y) ∧ nn (fadd x y) := by
  obtain ⟨r, e, h⟩ := sum_fin hx hy
  refine ⟨⟨r, e⟩, ?_⟩; unfold fadd; rw [e]; exact h
theorem sub_fin {x y : Nat} (hx : fin x) (hy : fin y) : SubOk x y ∧ key (fsub x y) = KR (-149) (V x - V y) ∧ nn (fsub x y) := by
  obtain ⟨r, e, h⟩ := diff_fin hx hy
  refine ⟨⟨r, e⟩, ?_⟩; unfold fsub; rw [e]; exact h
theorem mul_fin {x y : Nat} (hx : fin x) (hy : fin y) : MulOk x y ∧ key (fmul x y) = KR (-298) (V x * V y) ∧ nn (fmul x y) := by
  obtain ⟨r, e, h⟩ := prod_fin hx hy
  refine ⟨⟨r, e⟩, ?_⟩; unfold fmul; rw [e]; exact h
theorem div_fin {x y : Nat} (hx : fin x) (hy : fin y) (h0 : key y ≠ 0) : DivOk x y ∧ key (fdiv x y) = sg (sgn x ^^ sgn y) (Q (MAG (rung x)) (MAG (rung y))) ∧ nn (fdiv x y) := by
  obtain ⟨r, e, h⟩ := quot_fin hx hy (by intro h; apply h0; unfold key; rw [h]; cases sgn y <;> rfl)
  refine ⟨⟨r, e⟩, ?_⟩; unfold fdiv; rw [e]; exact h

/-! ### signs -/
/-- Not a NaN, and at least 0 (infinity too; -0 too). -/
def P0 (x : Nat) : Prop := nn x ∧ 0 ≤ key x
/-- Finite, and at least 0. -/
def F0 (x : Nat) : Prop := fin x ∧ 0 ≤ key x
theorem F0.p {x : Nat} (h : F0 x) : P0 x := ⟨h.1.nn, h.2⟩

theorem V_zero : V 0 = 0 := rfl
theorem V_nonneg {x : Nat} (h : fin x) : 0 ≤ V x ↔ 0 ≤ key x := V_le (x := 0) (by decide) h
theorem V_nonpos {x : Nat} (h : fin x) : V x ≤ 0 ↔ key x ≤ 0 := V_le (y := 0) h (by decide)

theorem fin_of_key {x : Nat} (h : nn x) (h1 : key x < 2139095040) (h2 : -2139095040 < key x) : fin x := by
  unfold fin; unfold nn at h; unfold key sg at h1 h2; split at h1 <;> split at h2 <;> simp_all <;> omega
theorem fin_key {x : Nat} (h : fin x) : key x < 2139095040 ∧ -2139095040 < key x := by
  unfold fin at h; unfold key sg; split <;> omega
theorem nn_key {x : Nat} (h : nn x) : key x ≤ 2139095040 ∧ -2139095040 ≤ key x := by
  unfold nn at h; unfold key sg; split <;> omega
theorem F0_of_le {x y : Nat} (h : P0 x) (hy : fin y) (hl : key x ≤ key y) : F0 x :=
  ⟨fin_of_key h.1 (by have := fin_key hy; omega) (by have := h.2; omega), h.2⟩
theorem inf_of {x : Nat} (h : P0 x) (hf : ¬ fin x) : rung x = 2139095040 ∧ sgn x = false := by
  have h1 := h.1; have h2 := h.2
  unfold fin at hf; unfold nn at h1
  have e : rung x = 2139095040 := by omega
  refine ⟨e, ?_⟩
  unfold key at h2; rw [e] at h2
  cases hs : sgn x
  · rfl
  · rw [hs] at h2; simp [sg] at h2

theorem write_inf (s : Bool) : S.write (.infinity s) = S.word s 2139095040 := rfl

theorem add_inf_left {x y : Nat} (hx : P0 x) (hf : ¬ fin x) (hy : P0 y) : S.add x y = some 2139095040 := by
  obtain ⟨e, s⟩ := inf_of hx hf
  unfold Format.add
  rw [read_inf e, s]
  by_cases fy : fin y
  · obtain ⟨n, q, e', _⟩ := read_fin fy
    rw [e']; rfl
  · obtain ⟨e', s'⟩ := inf_of hy fy
    rw [read_inf e', s']; rfl
theorem add_inf_right {x y : Nat} (hx : P0 x) (hy : P0 y) (hf : ¬ fin y) : S.add x y = some 2139095040 := by
  obtain ⟨e, s⟩ := inf_of hy hf
  unfold Format.add
  rw [read_inf e, s]
  by_cases fx : fin x
  · obtain ⟨n, q, e', _⟩ := read_fin fx
    rw [e']; rfl
  · obtain ⟨e', s'⟩ := inf_of hx fx
    rw [read_inf e', s']; rfl

theorem key_inf : key 2139095040 = 2139095040 := by decide

theorem add_P0 {x y : Nat} (hx : P0 x) (hy : P0 y) : AddOk x y ∧ P0 (fadd x y) ∧ key x ≤ key (fadd x y) ∧ key y ≤ key (fadd x y) := by
  by_cases fx : fin x
  · by_cases fy : fin y
    · obtain ⟨ok, k, n⟩ := add_fin fx fy
      have vx := (V_nonneg fx).2 hx.2
      have vy := (V_nonneg fy).2 hy.2
      have a1 := KR_mono (-149) (show V x ≤ V x + V y by omega)
      have a2 := KR_mono (-149) (show V y ≤ V x + V y by omega)
      rw [KR_V fx] at a1; rw [KR_V fy] at a2
      refine ⟨ok, ⟨n, ?_⟩, ?_, ?_⟩ <;> rw [k]
      · have := hx.2; omega
      · exact a1
      · exact a2
    · have e := add_inf_right hx hy fy
      have e' : fadd x y = 2139095040 := by unfold fadd; rw [e]; rfl
      rw [e', P0, key_inf]
      exact ⟨⟨_, e⟩, ⟨by decide, by decide⟩, (nn_key hx.1).1, (nn_key hy.1).1⟩
  · have e := add_inf_left hx fx hy
    have e' : fadd x y = 2139095040 := by unfold fadd; rw [e]; rfl
    rw [e', P0, key_inf]
    exact ⟨⟨_, e⟩, ⟨by decide, by decide⟩, (nn_key hx.1).1, (nn_key hy.1).1⟩

theorem add_mono {x y x' y' : Nat} (hx : P0 x) (hy : P0 y) (hx' : P0 x') (hy' : P0 y') (h : key x ≤ key x') (k : key y ≤ key y') : key (fadd x y) ≤ key (fadd x' y') := by
  by_cases fx : fin x'
  · by_cases fy : fin y'
    · have gx := (F0_of_le hx fx h).1
      have gy := (F0_of_le hy fy k).1
      rw [(add_fin gx gy).2.1, (add_fin fx fy).2.1]
      exact KR_mono _ (by have := (V_le gx fx).2 h; have := (V_le gy fy).2 k; omega)
    · have e' : fadd x' y' = 2139095040 := by unfold fadd; rw [add_inf_right hx' hy' fy]; rfl
      rw [e', key_inf]; exact (nn_key (add_P0 hx hy).2.1.1).1
  · have e' : fadd x' y' = 2139095040 := by unfold fadd; rw [add_inf_left hx' fx hy']; rfl
    rw [e', key_inf]; exact (nn_key (add_P0 hx hy).2.1.1).1

/-- A difference of finite numbers, the lesser one behind: from 0 to the greater one. -/
theorem sub_F0 {x y : Nat} (hx : F0 x) (hy : F0 y) (h : key y ≤ key x) : SubOk x y ∧ F0 (fsub x y) ∧ key (fsub x y) ≤ key x := by
  obtain ⟨ok, k, n⟩ := sub_fin hx.1 hy.1
  have vy := (V_nonneg hy.1).2 hy.2
  have vl := (V_le hy.1 hx.1).2 h
  have a1 := KR_mono (-149) (show V x - V y ≤ V x by omega)
  have a2 := KR_mono (-149) (show 0 ≤ V x - V y by omega)
  rw [KR_V hx.1] at a1; rw [KR_zero] at a2
  have p : P0 (fsub x y) := ⟨n, by rw [k]; exact a2⟩
  exact ⟨ok, F0_of_le p hx.1 (by rw [k]; exact a1), by rw [k]; exact a1⟩

theorem sub_mono {x y x' y' : Nat} (hx : fin x) (hy : fin y) (hx' : fin x') (hy' : fin y') (h : key x ≤ key x') (k : key y' ≤ key y) : key (fsub x y) ≤ key (fsub x' y') := by
  rw [(sub_fin hx hy).2.1, (sub_fin hx' hy').2.1]
  exact KR_mono _ (by have := (V_le hx hx').2 h; have := (V_le hy' hy).2 k; omega)

theorem mul_F0 {x y : Nat} (hx : F0 x) (hy : F0 y) : MulOk x y ∧ P0 (fmul x y) := by
  obtain ⟨ok, k, n⟩ := mul_fin hx.1 hy.1
  have vx := (V_nonneg hx.1).2 hx.2
  have vy := (V_nonneg hy.1).2 hy.2
  have := KR_mono (-298) (Int.mul_nonneg vx vy)
  rw [KR_zero] at this
  exact ⟨ok, n, by rw [k]; exact this⟩

theorem mul_mono {x y x' y' : Nat} (hx : F0 x) (hy : F0 y) (hx' : F0 x') (hy' : F0 y') (h : key x ≤ key x') (k : key y ≤ key y') : key (fmul x y) ≤ key (fmul x' y') := by
  rw [(mul_fin hx.1 hy.1).2.1, (mul_fin hx'.1 hy'.1).2.1]
  have vx := (V_nonneg hx.1).2 hx.2
  have vy' := (V_nonneg hy'.1).2 hy'.2
  refine KR_mono _ (Int.le_trans (Int.mul_le_mul_of_nonneg_left ((V_le hy.1 hy'.1).2 k) vx) (Int.mul_le_mul_of_nonneg_right ((V_le hx.1 hx'.1).2 h) vy'))

theorem V_one : V 1065353216 = 2 ^ 149 := by decide

/-- A product with a part is no greater. -/
theorem mul_part {x y : Nat} (hx : F0 x) (hy : F0 y) (h : key y ≤ key 1065353216) : MulOk x y ∧ F0 (fmul x y) ∧ key (fmul x y) ≤ key x := by
  obtain ⟨ok, p⟩ := mul_F0 hx hy
  have k := (mul_fin hx.1 hy.1).2.1
  have vx := (V_nonneg hx.1).2 hx.2
  have vy := (V_le hy.1 (by decide)).2 h
  rw [V_one] at vy
  have le : key (fmul x y) ≤ key x := by
    rw [k]
    have a := KR_mono (-298) (Int.mul_le_mul_of_nonneg_left vy vx)
    have e := KR_scale (-298) (V x) 149
    rw [e, show (-298 + ((149 : Nat) : Int)) = -149 from rfl, KR_V hx.1] at a
    exact a
  exact ⟨ok, F0_of_le p hx.1 le, le⟩

theorem sgn_of_pos {x : Nat} (h : 0 < key x) : sgn x = false := by
  unfold key at h; cases hs : sgn x
  · rfl
  · rw [hs] at h; simp [sg] at h; omega

theorem rung_of {x : Nat} (h : 0 ≤ key x) : (rung x : Int) = key x := by
  unfold key at *; cases hs : sgn x
  · rw [hs] at h; rfl
  · rw [hs] at h; simp [sg] at h ⊢; omega

/-- A quotient by a number greater than 0: at least 0, and monotone. -/
theorem div_F0 {x y : Nat} (hx : F0 x) (hy : fin y) (h : 0 < key y) : DivOk x y ∧ P0 (fdiv x y) := by
  obtain ⟨ok, k, n⟩ := div_fin hx.1 hy (by omega)
  refine ⟨ok, n, ?_⟩
  rw [k, sgn_of_pos h]
  by_cases z : key x = 0
  · have : rung x = 0 := by have := rung_of hx.2; omega
    rw [this, MAG_zero, Q_zero]; cases sgn x <;> simp [sg]
  · rw [sgn_of_pos (by have := hx.2; omega)]; simp [sg]

theorem key_div_pos {x y : Nat} (hx : F0 x) (hy : fin y) (h : 0 < key y) : key (fdiv x y) = Q (MAG (rung x)) (MAG (rung y)) := by
  rw [(div_fin hx.1 hy (by omega)).2.1, sgn_of_pos h]
  by_cases z : key x = 0
  · have : rung x = 0 := by have := rung_of hx.2; omega
    rw [this, MAG_zero, Q_zero]; cases sgn x <;> simp [sg]
  · rw [sgn_of_pos (by have := hx.2; omega)]; simp [sg]

theorem MAG_pos {x : Nat} (h : fin x) (h0 : 0 < key x) : 0 < MAG (rung x) := by
  have a := rung_of (Int.le_of_lt h0)
  have := MAG_le (b := 0) h (by omega)
  rw [MAG_zero] at this
  omega

/-- The key of a quotient by a number greater than 0, whatever the sign of the dividend. -/
theorem key_div {x y : Nat} (hx : fin x) (hy : fin y) (h : 0 < key y) : key (fdiv x y) = sg (sgn x) (Q (MAG (rung x)) (MAG (rung y))) := by
  rw [(div_fin hx hy (by omega)).2.1, sgn_of_pos h, Bool.xor_false]

theorem div_mono {x x' y : Nat} (hx : fin x) (hx' : fin x') (hy : fin y) (h : 0 < key y) (k : key x ≤ key x') : key (fdiv x y) ≤ key (fdiv x' y) := by
  rw [key_div hx hy h, key_div hx' hy h]
  unfold key at k
  cases s : sgn x <;> cases s' : sgn x' <;> simp only [s, s', sg, if_true, if_false, Bool.false_eq_true] at k ⊢
  · have := Q_mono (b := MAG (rung y)) ((MAG_le hx hx').2 (by omega)); omega
  · have e1 : rung x = 0 := by omega
    have e2 : rung x' = 0 := by omega
    rw [e1, e2, MAG_zero, Q_zero]; simp
  · omega
  · have := Q_mono (b := MAG (rung y)) ((MAG_le hx' hx).2 (by omega)); omega

end Go.Proofs.YtjhddlkfkicpaaaGreatDoor.Fl

namespace Go.Proofs.YtjhddlkfkicpaaaGreatDoor.Fl
open Go Ieee

section
variable {P : Program} (w : World)

@[go_sem] theorem run_store_float (a : Addr) (m : Mode) (k : FloatKind) (b : Nat) : (store a (.float k b) m).run P w = stored P w a (.float k b) m := run_store P w a _ m rfl

@[go_sem] theorem f_eql (t : TypeId) (a b : Nat) : binOp .eql t (.float .f32 a) (.float .f32 b) = pure (.bool (feq a b)) := by simp [binOp, Op.floatCmp, feq, FloatKind.format]
@[go_sem] theorem f_neq (t : TypeId) (a b : Nat) : binOp .neq t (.float .f32 a) (.float .f32 b) = pure (.bool (!feq a b)) := by simp [binOp, Op.floatCmp, feq, FloatKind.format, bne]
@[go_sem] theorem f_lss (t : TypeId) (a b : Nat) : binOp .lss t (.float .f32 a) (.float .f32 b) = pure (.bool (flt a b)) := by simp [binOp, Op.floatCmp, flt, FloatKind.format]
@[go_sem] theorem f_leq (t : TypeId) (a b : Nat) : binOp .leq t (.float .f32 a) (.float .f32 b) = pure (.bool (fle a b)) := by simp [binOp, Op.floatCmp, fle, FloatKind.format]
@[go_sem] theorem f_gtr (t : TypeId) (a b : Nat) : binOp .gtr t (.float .f32 a) (.float .f32 b) = pure (.bool (flt b a)) := by simp only [binOp, Op.floatCmp, ← gt_eq]; rfl
@[go_sem] theorem f_geq (t : TypeId) (a b : Nat) : binOp .geq t (.float .f32 a) (.float .f32 b) = pure (.bool (fle b a)) := by simp only [binOp, Op.floatCmp, ← ge_eq]; rfl

@[go_sem] theorem f_add (t : TypeId) (a b : Nat) (h : AddOk a b) : (binOp .add t (.float .f32 a) (.float .f32 b)).run P w = .ok (.float .f32 (fadd a b)) w := by
  have := h.run; simp [binOp, Op.floatArith, FloatKind.format, this]
@[go_sem] theorem f_sub (t : TypeId) (a b : Nat) (h : SubOk a b) : (binOp .sub t (.float .f32 a) (.float .f32 b)).run P w = .ok (.float .f32 (fsub a b)) w := by
  have := h.run; simp [binOp, Op.floatArith, FloatKind.format, this]
@[go_sem] theorem f_mul (t : TypeId) (a b : Nat) (h : MulOk a b) : (binOp .mul t (.float .f32 a) (.float .f32 b)).run P w = .ok (.float .f32 (fmul a b)) w := by
  have := h.run; simp [binOp, Op.floatArith, FloatKind.format, this]
@[go_sem] theorem f_quo (t : TypeId) (a b : Nat) (h : DivOk a b) : (binOp .quo t (.float .f32 a) (.float .f32 b)).run P w = .ok (.float .f32 (fdiv a b)) w := by
  have := h.run; simp [binOp, Op.floatArith, FloatKind.format, this]

/-- 'float32(n)'. -/
def fofInt (n : Int) : Nat := FloatKind.f32.nearest n
@[go_sem] theorem f_ofInt (src dst : TypeId) (q : IntKind) (n : Int) (hs : (P.underlying src).isSome = true) (hd : P.underlying dst = some (.float .f32)) :
    (convert src dst (.int q n)).run P w = .ok (.float .f32 (fofInt n)) w := by
  obtain ⟨s, hs'⟩ := Option.isSome_iff_exists.1 hs
  cases s <;> simp [convert, run_underlying hs', run_underlying hd, Conv.intToFloat, fofInt]
/-- 'float32(x)' of a float32. -/
@[go_sem] theorem f_same (src dst : TypeId) (b : Nat) (hs : (P.underlying src).isSome = true) (hd : P.underlying dst = some (.float .f32)) :
    (convert src dst (.float .f32 b)).run P w = .ok (.float .f32 b) w := by
  obtain ⟨s, hs'⟩ := Option.isSome_iff_exists.1 hs
  cases s <;> simp [convert, run_underlying hs', run_underlying hd, Conv.floatToFloat]
end

end Go.Proofs.YtjhddlkfkicpaaaGreatDoor.Fl

namespace Go.Proofs.YtjhddlkfkicpaaaGreatDoor.Fl
open Go Ieee

abbrev D : Format := double
def deq (x y : Nat) : Bool := D.order x y == some .eq
def dgt (x y : Nat) : Bool := D.order x y == some .gt
def ddiv (x y : Nat) : Nat := (D.div x y).getD 0
def DivOk64 (x y : Nat) : Prop := ∃ r, D.div x y = some r
theorem DivOk64.run {x y : Nat} (h : DivOk64 x y) : D.div x y = some (ddiv x y) := by obtain ⟨r, e⟩ := h; unfold ddiv; rw [e]; rfl

theorem deq_zero {x : Nat} (h : deq x 0 = true) : ∃ s e, D.read x = .number s 0 e := by
  have hz : D.read 0 = .number false 0 (D.leastPlace) := by decide
  unfold deq Format.order at h
  rw [hz] at h
  cases hr : D.read x with
  | nan a b => rw [hr] at h; simp [Datum.order] at h
  | infinity s => rw [hr] at h; cases s <;> simp [Datum.order] at h
  | number s m e =>
    rw [hr] at h
    simp only [Datum.order, beq_iff_eq, Option.some.injEq, cmp_eq] at h
    refine ⟨s, e, ?_⟩
    have : signed false 0 (D.leastPlace - min e D.leastPlace).toNat = 0 := by simp [signed]
    rw [this] at h
    have hm : m <<< (e - min e D.leastPlace).toNat = 0 := by unfold signed at h; split at h <;> omega
    rw [Nat.shiftLeft_eq] at hm
    rcases Nat.mul_eq_zero.1 hm with h1 | h1
    · rw [h1]
    · exact absurd h1 (by have := Nat.two_pow_pos (e - min e D.leastPlace).toNat; omega)

theorem one_over {x : Nat} (h : deq x 0 = true) : DivOk64 4607182418800017408 x := by
  obtain ⟨s, e, hr⟩ := deq_zero h
  have h1 : D.read 4607182418800017408 = .number false 4503599627370496 (-52) := by decide
  unfold DivOk64 Format.div
  rw [hr, h1]
  exact ⟨_, rfl⟩

/-- A float32 that is not a NaN, made wide. -/
def fwide (x : Nat) : Nat := D.write (S.read x)

theorem top_lt {A B : Nat} (h : A ≤ 1150 * 4503599627370496) (k : B < 2 ^ 53) : min (A + B) 9218868437227405312 < 9218868437227405312 := by omega

theorem wide_finite {x : Nat} (h : fin x) : (D.read (fwide x)).isInfinity = false := by
  obtain ⟨m, p, e, hp, _, hm⟩ := read_fin h
  have hw : fwide x = D.nearest (sgn x) m (-149 + p) := by unfold fwide; rw [e]; rfl
  rw [hw]
  unfold Format.nearest
  have f1 : D.leastPlace = -1074 := by decide
  have f2 : D.binade = 4503599627370496 := by decide
  have f3 : D.infRung = 9218868437227405312 := by decide
  have f4 : D.signWeight = 9223372036854775808 := by decide
  have f5 : D.fractionBits = 52 := by decide
  have rd : ∀ (s : Bool) (r : Nat), r < 9218868437227405312 → (D.read (D.word s r)).isInfinity = false := by
    intro s r hr
    unfold Format.read Format.word
    simp only [f2, f3, f4]
    have e1 : (if s = true then 9223372036854775808 + r else r) % 9223372036854775808 = r := by split <;> omega
    rw [e1]
    by_cases c : r < 4503599627370496
    · rw [if_pos c]; rfl
    · rw [if_neg c, if_pos hr]; rfl
  by_cases m0 : m = 0
  · rw [if_pos m0]; exact rd _ _ (by omega)
  · rw [if_neg m0]
    apply rd
    have hlog : m.log2 < 24 := (Nat.log2_lt m0).2 hm
    simp only [f1, f2, f3, f5]
    rw [cut_eq]
    generalize hL : max (-149 + (p : Int) + (m.log2 : Int) - ((52 : Nat) : Int)) (-1074) = L
    have hL2 : L = -149 + p + m.log2 - 52 := by omega
    have d0 : (L - (-149 + (p : Int))).toNat = 0 := by omega
    have d1 : (-149 + (p : Int) - L).toNat = 52 - m.log2 := by omega
    rw [d0, d1, rnd_zero, Nat.shiftLeft_eq]
    have b1 : m * 2 ^ (52 - m.log2) < 2 ^ 53 := by
      have h1 : m < 2 ^ (m.log2 + 1) := Nat.lt_log2_self
      have h2 := (Nat.mul_lt_mul_right (Nat.two_pow_pos (52 - m.log2))).2 h1
      rwa [← Nat.pow_add, show m.log2 + 1 + (52 - m.log2) = 53 from by omega] at h2
    have b2 : (L - -1074).toNat ≤ 1150 := by omega
    have b3 : (L - -1074).toNat * 4503599627370496 ≤ 1150 * 4503599627370496 := Nat.mul_le_mul_right _ b2
    exact top_lt b3 b1

section
variable {P : Program} (w : World)
@[go_sem] theorem d_eql (t : TypeId) (a b : Nat) : binOp .eql t (.float .f64 a) (.float .f64 b) = pure (.bool (deq a b)) := by simp [binOp, Op.floatCmp, deq, FloatKind.format]
@[go_sem] theorem d_neq (t : TypeId) (a b : Nat) : binOp .neq t (.float .f64 a) (.float .f64 b) = pure (.bool (!deq a b)) := by simp [binOp, Op.floatCmp, deq, FloatKind.format, bne]
@[go_sem] theorem d_gtr (t : TypeId) (a b : Nat) : binOp .gtr t (.float .f64 a) (.float .f64 b) = pure (.bool (dgt a b)) := by simp [binOp, Op.floatCmp, dgt, FloatKind.format]
@[go_sem] theorem d_quo (t : TypeId) (a b : Nat) (h : DivOk64 a b) : (binOp .quo t (.float .f64 a) (.float .f64 b)).run P w = .ok (.float .f64 (ddiv a b)) w := by
  have := h.run; simp [binOp, Op.floatArith, FloatKind.format, this]

/-- 'float64(x)' of a float32 that is not a NaN. -/
@[go_sem] theorem f_wide (src dst : TypeId) (b : Nat) (hs : (P.underlying src).isSome = true) (hd : P.underlying dst = some (.float .f64)) (h : nn b) :
    (convert src dst (.float .f32 b)).run P w = .ok (.float .f64 (fwide b)) w := by
  obtain ⟨s, hs'⟩ := Option.isSome_iff_exists.1 hs
  rcases Nat.lt_or_eq_of_le h with hf | hi
  · have hw := wide_finite hf
    obtain ⟨m, p, e, _⟩ := read_fin hf
    have e' : FloatKind.decode .f32 b = .number (sgn b) m (-149 + p) := e
    have e2 : fwide b = FloatKind.f64.encode (.number (sgn b) m (-149 + p)) := by unfold fwide; rw [e]; rfl
    have hw' : (FloatKind.decode .f64 (FloatKind.encode .f64 (.number (sgn b) m (-149 + p)))).isInfinity = false := by rw [e2] at hw; exact hw
    cases s <;> simp [convert, run_underlying hs', run_underlying hd, Conv.floatToFloat, e', hw', e2]
  · have e := read_inf hi
    have e' : FloatKind.decode .f32 b = .infinity (sgn b) := e
    have e2 : fwide b = FloatKind.f64.encode (.infinity (sgn b)) := by unfold fwide; rw [e]; rfl
    cases s <;> simp [convert, run_underlying hs', run_underlying hd, Conv.floatToFloat, e', e2]
end

end Go.Proofs.YtjhddlkfkicpaaaGreatDoor.Fl
