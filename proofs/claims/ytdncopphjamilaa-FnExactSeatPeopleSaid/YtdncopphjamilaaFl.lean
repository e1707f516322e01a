/- Plain arithmetic of float32 words: rounding is monotone, words are ordered by their signed rungs, and the four operations are given by exact integers; no program in sight. -/
import Derived.Laws.FloatBits
namespace Go.Proofs.Ytdncopphjamilaa.Fl
open Ieee

/-- n / 2^d, rounded to the nearest whole number, ties to even. -/
def rnd (n d : Nat) : Nat := n / 2 ^ d + (if 2 ^ d < 2 * (n % 2 ^ d) ∨ (2 ^ d = 2 * (n % 2 ^ d) ∧ n / 2 ^ d % 2 = 1) then 1 else 0)

theorem rnd_zero (n : Nat) : rnd n 0 = n := by simp [rnd, Nat.mod_one]

theorem cut_core (n g : Nat) : n / g + (decide (g < 2 * (n % g)) || (g == 2 * (n % g) && n / g % 2 == 1)).toNat = n / g + (if g < 2 * (n % g) ∨ (g = 2 * (n % g) ∧ n / g % 2 = 1) then 1 else 0) := by
  congr 1
  by_cases h1 : g < 2 * (n % g)
  · simp [h1]
  · by_cases h2 : g = 2 * (n % g) ∧ n / g % 2 = 1
    · have h3 : (g == 2 * (n % g) && n / g % 2 == 1) = true := by simpa using h2
      rw [h3, if_pos (.inr h2), Bool.or_true]; rfl
    · have h3 : (g == 2 * (n % g) && n / g % 2 == 1) = false := by
        rw [Bool.eq_false_iff]; intro h4; simp only [Bool.and_eq_true, beq_iff_eq] at h4; exact h2 h4
      rw [h3, if_neg (fun h => h.elim h1 h2), decide_eq_false h1]; rfl

theorem cut_eq (s : Bool) (n d : Nat) : Toward.even.cut s n d = rnd n d := by
  have e : Toward.even.cut s n d = n / (1 <<< min d (n.log2 + 2)) + (decide (1 <<< min d (n.log2 + 2) < 2 * (n % (1 <<< min d (n.log2 + 2)))) || (1 <<< min d (n.log2 + 2) == 2 * (n % (1 <<< min d (n.log2 + 2))) && n / (1 <<< min d (n.log2 + 2)) % 2 == 1)).toNat := rfl
  rw [e, cut_core, Nat.one_shiftLeft]
  unfold rnd
  by_cases h : d ≤ n.log2 + 2
  · rw [Nat.min_eq_left h]
  · have h' : n.log2 + 2 ≤ d := by omega
    rw [Nat.min_eq_right h']
    have hn : n < 2 ^ (n.log2 + 1) := Nat.lt_log2_self
    have e2 : 2 ^ (n.log2 + 2) = 2 * 2 ^ (n.log2 + 1) := by rw [Nat.pow_succ]; omega
    have e3 : 2 ^ (n.log2 + 2) ≤ 2 ^ d := Nat.pow_le_pow_right (by omega) h'
    have l1 : n < 2 ^ (n.log2 + 2) := by omega
    have l2 : n < 2 ^ d := by omega
    rw [Nat.div_eq_of_lt l1, Nat.mod_eq_of_lt l1, Nat.div_eq_of_lt l2, Nat.mod_eq_of_lt l2, if_neg (by omega), if_neg (by omega)]

theorem rnd_mono {a b : Nat} (d : Nat) (h : a ≤ b) : rnd a d ≤ rnd b d := by
  unfold rnd
  have hq : a / 2 ^ d ≤ b / 2 ^ d := Nat.div_le_div_right h
  have ea := Nat.div_add_mod a (2 ^ d)
  have eb := Nat.div_add_mod b (2 ^ d)
  rcases Nat.lt_or_eq_of_le hq with hlt | heq
  · split <;> split <;> omega
  · rw [← heq] at eb ⊢
    have hr : a % 2 ^ d ≤ b % 2 ^ d := by omega
    split
    · rename_i hc
      rw [if_pos (by omega)]
      omega
    · split <;> omega

theorem rnd_le {n d k : Nat} (h : n < 2 ^ (d + k)) : rnd n d ≤ 2 ^ k := by
  unfold rnd
  have hq : n / 2 ^ d < 2 ^ k := by
    rw [Nat.div_lt_iff_lt_mul (Nat.two_pow_pos d), ← Nat.pow_add, Nat.add_comm k d]; exact h
  split <;> omega

theorem le_rnd {n d k : Nat} (h : 2 ^ (d + k) ≤ n) : 2 ^ k ≤ rnd n d := by
  unfold rnd
  have hq : 2 ^ k ≤ n / 2 ^ d := by
    rw [Nat.le_div_iff_mul_le (Nat.two_pow_pos d), ← Nat.pow_add, Nat.add_comm k d]; exact h
  omega

theorem rnd_scale (m d k : Nat) : rnd (m * 2 ^ k) (d + k) = rnd m d := by
  unfold rnd
  have e1 : m * 2 ^ k / 2 ^ (d + k) = m / 2 ^ d := by rw [Nat.pow_add, Nat.mul_div_mul_right _ _ (Nat.two_pow_pos k)]
  have e2 : m * 2 ^ k % 2 ^ (d + k) = m % 2 ^ d * 2 ^ k := by rw [Nat.pow_add, Nat.mul_mod_mul_right]
  have hk := Nat.two_pow_pos k
  rw [e1, e2, Nat.pow_add]
  have c1 : (2 ^ d * 2 ^ k < 2 * (m % 2 ^ d * 2 ^ k)) ↔ (2 ^ d < 2 * (m % 2 ^ d)) := by
    rw [← Nat.mul_assoc]; exact Nat.mul_lt_mul_right hk
  have c2 : (2 ^ d * 2 ^ k = 2 * (m % 2 ^ d * 2 ^ k)) ↔ (2 ^ d = 2 * (m % 2 ^ d)) := by
    rw [← Nat.mul_assoc]; exact Nat.mul_left_inj (by omega)
  simp only [c1, c2]

theorem rnd_exact (m k d : Nat) (h : d ≤ k) : rnd (m * 2 ^ k) d = m * 2 ^ (k - d) := by
  have e : m * 2 ^ k = m * 2 ^ (k - d) * 2 ^ d := by rw [Nat.mul_assoc, ← Nat.pow_add, Nat.sub_add_cancel h]
  have := rnd_scale (m * 2 ^ (k - d)) 0 d
  rw [Nat.zero_add] at this
  rw [e, this, rnd_zero]

/-- The sticky bit: of a number with many digits only 'is anything left over' counts below the last two. -/
theorem rnd_sticky {n t d K : Nat} (ht : t < 2 ^ K) : rnd (n * 2 ^ K + t) (d + 1 + K) = rnd (2 * n + if t = 0 then 0 else 1) (d + 2) := by
  have hK := Nat.two_pow_pos K
  have hd := Nat.two_pow_pos d
  have q1 : (n * 2 ^ K + t) / 2 ^ (d + 1 + K) = n / 2 ^ (d + 1) := by
    rw [Nat.pow_add, Nat.mul_comm (2 ^ (d + 1)), ← Nat.div_div_eq_div_mul, Nat.mul_comm n, Nat.mul_add_div hK, Nat.div_eq_of_lt ht, Nat.add_zero]
  have q2 : (2 * n + if t = 0 then 0 else 1) / 2 ^ (d + 2) = n / 2 ^ (d + 1) := by
    have e : 2 ^ (d + 2) = 2 * 2 ^ (d + 1) := by rw [Nat.pow_succ]; omega
    rw [e, ← Nat.div_div_eq_div_mul, Nat.mul_add_div (by omega)]
    split <;> simp
  have r1 : (n * 2 ^ K + t) % 2 ^ (d + 1 + K) = n % 2 ^ (d + 1) * 2 ^ K + t := by
    have a := Nat.div_add_mod (n * 2 ^ K + t) (2 ^ (d + 1 + K))
    rw [q1] at a
    have b := Nat.div_add_mod n (2 ^ (d + 1))
    have c : n * 2 ^ K = 2 ^ (d + 1 + K) * (n / 2 ^ (d + 1)) + n % 2 ^ (d + 1) * 2 ^ K := by
      conv => lhs; rw [← b]
      rw [Nat.add_mul, Nat.pow_add (2) (d + 1) K, Nat.mul_right_comm]
    omega
  have r2 : (2 * n + if t = 0 then 0 else 1) % 2 ^ (d + 2) = 2 * (n % 2 ^ (d + 1)) + if t = 0 then 0 else 1 := by
    have a := Nat.div_add_mod (2 * n + if t = 0 then 0 else 1) (2 ^ (d + 2))
    rw [q2] at a
    have b := Nat.div_add_mod n (2 ^ (d + 1))
    have e : 2 ^ (d + 2) = 2 * 2 ^ (d + 1) := by rw [Nat.pow_succ]; omega
    rw [e] at a ⊢
    rw [Nat.mul_assoc] at a
    omega
  unfold rnd
  rw [q1, q2, r1, r2]
  have e3 : 2 ^ (d + 1) = 2 * 2 ^ d := by rw [Nat.pow_succ]; omega
  have e4 : 2 ^ (d + 2) = 4 * 2 ^ d := by rw [Nat.pow_succ, Nat.pow_succ]; omega
  have e5 : 2 ^ (d + 1 + K) = 2 * (2 ^ d * 2 ^ K) := by rw [Nat.pow_add, e3, Nat.mul_assoc]
  rw [e5, e4]
  generalize n % 2 ^ (d + 1) = ρ
  generalize 2 ^ K = B at *
  generalize 2 ^ d = D at *
  have key1 : (2 * (D * B) < 2 * (ρ * B + t)) ↔ (D < ρ ∨ (D = ρ ∧ t ≠ 0)) := by
    constructor
    · intro h
      rcases Nat.lt_trichotomy D ρ with h1 | h1 | h1
      · exact .inl h1
      · subst h1; exact .inr ⟨rfl, by omega⟩
      · exfalso
        have : (ρ + 1) * B ≤ D * B := Nat.mul_le_mul_right B h1
        rw [Nat.add_mul] at this; omega
    · rintro (h1 | ⟨rfl, h1⟩)
      · have : (D + 1) * B ≤ ρ * B := Nat.mul_le_mul_right B h1
        rw [Nat.add_mul] at this; omega
      · omega
  have key2 : (2 * (D * B) = 2 * (ρ * B + t)) ↔ (D = ρ ∧ t = 0) := by
    constructor
    · intro h
      rcases Nat.lt_trichotomy D ρ with h1 | h1 | h1
      · exfalso
        have : (D + 1) * B ≤ ρ * B := Nat.mul_le_mul_right B h1
        rw [Nat.add_mul] at this; omega
      · subst h1; exact ⟨rfl, by omega⟩
      · exfalso
        have : (ρ + 1) * B ≤ D * B := Nat.mul_le_mul_right B h1
        rw [Nat.add_mul] at this; omega
    · rintro ⟨rfl, rfl⟩; omega
  have key3 : (4 * D < 2 * (2 * ρ + if t = 0 then 0 else 1)) ↔ (D < ρ ∨ (D = ρ ∧ t ≠ 0)) := by
    split <;> omega
  have key4 : (4 * D = 2 * (2 * ρ + if t = 0 then 0 else 1)) ↔ (D = ρ ∧ t = 0) := by
    split <;> omega
  simp only [key1, key2, key3, key4]

/-! ### The rung of m * 2^e -/

/-- The place of the last digit that is kept. -/
def lastOf (m : Nat) (e : Int) : Int := max (e + m.log2 - 23) (-149)

def R (m : Nat) (e : Int) : Nat :=
  if m = 0 then 0 else min ((lastOf m e + 149).toNat * 2 ^ 23 + rnd (m * 2 ^ (e - lastOf m e).toNat) (lastOf m e - e).toNat) 2139095040

theorem R_zero (e : Int) : R 0 e = 0 := by simp [R]

theorem R_le (m : Nat) (e : Int) : R m e ≤ 2139095040 := by
  unfold R; split <;> omega

theorem nearest_eq (s : Bool) (m : Nat) (e : Int) : single.nearest s m e = single.word s (R m e) := by
  unfold Format.nearest R
  by_cases h : m = 0
  · simp [h]
  · rw [if_neg h, if_neg h]
    have hl : max (e + (m.log2 : Int) - (single.fractionBits : Int)) single.leastPlace = lastOf m e := rfl
    simp only [hl]
    rw [cut_eq, Nat.shiftLeft_eq]
    have h1 : single.leastPlace = -149 := by decide
    have h2 : single.binade = 2 ^ 23 := by decide
    have h3 : single.infRung = 2139095040 := by decide
    rw [h1, h2, h3]
    have h4 : lastOf m e - (-149) = lastOf m e + 149 := by omega
    rw [h4]

theorem log2_mul_pow (m k : Nat) (h : m ≠ 0) : (m * 2 ^ k).log2 = m.log2 + k := by
  have h1 : m * 2 ^ k ≠ 0 := Nat.mul_ne_zero h (by have := Nat.two_pow_pos k; omega)
  rw [Nat.log2_eq_iff h1]
  have h2 := Nat.log2_self_le h
  have h3 : m < 2 ^ (m.log2 + 1) := Nat.lt_log2_self
  have hk := Nat.two_pow_pos k
  constructor
  · rw [Nat.pow_add]; exact Nat.mul_le_mul_right _ h2
  · have e : m.log2 + k + 1 = m.log2 + 1 + k := by omega
    rw [e, Nat.pow_add]; exact (Nat.mul_lt_mul_right hk).2 h3

theorem R_scale (m k : Nat) (e : Int) : R (m * 2 ^ k) e = R m (e + k) := by
  by_cases h : m = 0
  · simp [h, R]
  · have h1 : m * 2 ^ k ≠ 0 := Nat.mul_ne_zero h (by have := Nat.two_pow_pos k; omega)
    unfold R
    rw [if_neg h, if_neg h1]
    have hl : lastOf (m * 2 ^ k) e = lastOf m (e + k) := by
      unfold lastOf; rw [log2_mul_pow m k h]
      have : e + ((m.log2 + k : Nat) : Int) - 23 = e + (k : Int) + (m.log2 : Int) - 23 := by omega
      rw [this]
    rw [hl]
    generalize lastOf m (e + k) = L
    congr 2
    by_cases c1 : L ≤ e
    · have a1 : (L - e).toNat = 0 := by omega
      have a2 : (L - (e + k)).toNat = 0 := by omega
      have a3 : (e + k - L).toNat = k + (e - L).toNat := by omega
      rw [a1, a2, a3, rnd_zero, rnd_zero, Nat.pow_add, Nat.mul_assoc]
    · by_cases c2 : L ≤ e + k
      · have a1 : (e - L).toNat = 0 := by omega
        have a2 : (L - (e + k)).toNat = 0 := by omega
        rw [a1, a2, rnd_zero, Nat.pow_zero, Nat.mul_one, rnd_exact _ _ _ (by omega)]
        congr 2; omega
      · have a1 : (e - L).toNat = 0 := by omega
        have a2 : (e + k - L).toNat = 0 := by omega
        have a3 : (L - e).toNat = (L - (e + k)).toNat + k := by omega
        rw [a1, a2, a3, Nat.pow_zero, Nat.mul_one, Nat.mul_one, rnd_scale]

theorem min_mono (c : Nat) {x y : Nat} (h : x ≤ y) : min x c ≤ min y c := by omega

theorem R_mono {a b : Nat} (e : Int) (h : a ≤ b) : R a e ≤ R b e := by
  by_cases ha : a = 0
  · rw [ha, R_zero]; omega
  have hb : b ≠ 0 := by omega
  unfold R
  rw [if_neg ha, if_neg hb]
  have hlog : a.log2 ≤ b.log2 := by
    have := Nat.log2_self_le ha
    exact (Nat.le_log2 hb).2 (Nat.le_trans this h)
  have hL : lastOf a e ≤ lastOf b e := by unfold lastOf; omega
  have key : (lastOf a e + 149).toNat * 2 ^ 23 + rnd (a * 2 ^ (e - lastOf a e).toNat) (lastOf a e - e).toNat ≤ (lastOf b e + 149).toNat * 2 ^ 23 + rnd (b * 2 ^ (e - lastOf b e).toNat) (lastOf b e - e).toNat := by
    rcases Int.lt_or_eq_of_le hL with hlt | heq
    · have u1 := rnd_le (n := a * 2 ^ (e - lastOf a e).toNat) (d := (lastOf a e - e).toNat) (k := 24) (by
        have a1 : a < 2 ^ (a.log2 + 1) := Nat.lt_log2_self
        have a2 : a * 2 ^ (e - lastOf a e).toNat < 2 ^ (a.log2 + 1 + (e - lastOf a e).toNat) := by
          rw [Nat.pow_add]; exact (Nat.mul_lt_mul_right (Nat.two_pow_pos _)).2 a1
        refine Nat.lt_of_lt_of_le a2 (Nat.pow_le_pow_right (by omega) ?_)
        unfold lastOf; omega)
      have u2 := le_rnd (n := b * 2 ^ (e - lastOf b e).toNat) (d := (lastOf b e - e).toNat) (k := 23) (by
        have b1 := Nat.log2_self_le hb
        have b2 : 2 ^ (b.log2 + (e - lastOf b e).toNat) ≤ b * 2 ^ (e - lastOf b e).toNat := by
          rw [Nat.pow_add]; exact Nat.mul_le_mul_right _ b1
        refine Nat.le_trans (Nat.pow_le_pow_right (by omega) ?_) b2
        unfold lastOf at hlt ⊢; omega)
      have l1 : -149 ≤ lastOf a e := by unfold lastOf; omega
      have u3 : (lastOf a e + 149).toNat + 1 ≤ (lastOf b e + 149).toNat := by omega
      have := Nat.mul_le_mul_right (2 ^ 23) u3
      rw [Nat.add_mul] at this
      omega
    · rw [heq]
      exact Nat.add_le_add_left (rnd_mono _ (Nat.mul_le_mul_right _ h)) _
  exact min_mono _ key

/-- Many digits, then a sticky bit: the same rung as all digits. -/
theorem R_sticky {n t K : Nat} (e : Int) (hn : 2 ^ 24 ≤ n) (ht : t < 2 ^ K) : R (n * 2 ^ K + t) (e - K) = R (2 * n + if t = 0 then 0 else 1) (e - 1) := by
  have hK := Nat.two_pow_pos K
  have n0 : n ≠ 0 := by omega
  have h1 : n * 2 ^ K + t ≠ 0 := by
    have : 1 * 2 ^ K ≤ n * 2 ^ K := Nat.mul_le_mul_right _ (by omega)
    omega
  have h2 : (2 * n + if t = 0 then 0 else 1) ≠ 0 := by omega
  have hlo := Nat.log2_self_le n0
  have hhi : n < 2 ^ (n.log2 + 1) := Nat.lt_log2_self
  have g1 : (n * 2 ^ K + t).log2 = n.log2 + K := by
    rw [Nat.log2_eq_iff h1]
    constructor
    · have := Nat.mul_le_mul_right (2 ^ K) hlo
      rw [Nat.pow_add]; omega
    · have e1 : n.log2 + K + 1 = n.log2 + 1 + K := by omega
      rw [e1, Nat.pow_add]
      have : (n + 1) * 2 ^ K ≤ 2 ^ (n.log2 + 1) * 2 ^ K := Nat.mul_le_mul_right _ hhi
      rw [Nat.add_mul] at this; omega
  have g2 : (2 * n + if t = 0 then 0 else 1).log2 = n.log2 + 1 := by
    rw [Nat.log2_eq_iff h2]
    constructor
    · rw [Nat.pow_succ]; omega
    · rw [Nat.pow_succ]; split <;> omega
  have hlog : 24 ≤ n.log2 := (Nat.le_log2 n0).2 hn
  have hl : lastOf (n * 2 ^ K + t) (e - K) = lastOf (2 * n + if t = 0 then 0 else 1) (e - 1) := by
    unfold lastOf; rw [g1, g2]; congr 1; omega
  have hL : e + 1 ≤ lastOf (2 * n + if t = 0 then 0 else 1) (e - 1) := by
    unfold lastOf; rw [g2]; omega
  unfold R
  rw [if_neg h1, if_neg h2, hl]
  generalize lastOf (2 * n + if t = 0 then 0 else 1) (e - 1) = L at *
  have a1 : (e - K - L).toNat = 0 := by omega
  have a2 : (e - 1 - L).toNat = 0 := by omega
  obtain ⟨d, hd⟩ : ∃ d : Nat, (d : Int) = L - e - 1 := ⟨(L - e - 1).toNat, by omega⟩
  have a3 : (L - (e - K)).toNat = d + 1 + K := by omega
  have a4 : (L - (e - 1)).toNat = d + 2 := by omega
  rw [a1, a2, a3, a4, Nat.pow_zero, Nat.mul_one, Nat.mul_one, rnd_sticky ht]

end Go.Proofs.Ytdncopphjamilaa.Fl
