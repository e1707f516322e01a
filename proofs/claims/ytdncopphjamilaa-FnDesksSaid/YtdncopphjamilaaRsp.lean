/- Seats for people: the plain law: a search that is pruned finds what is found greedily. No program in sight. -/
import Derived.Test.YtdncopphjamilaaRsb
namespace Go.Proofs.Ytdncopphjamilaa.Vx
open Go Go.RowKit Fl
set_option linter.unusedSimpArgs false
set_option linter.unusedVariables false

/-- Desk i is free, and suits person p. -/
def okS (B : Nat → Int) (T : Int) (p i : Nat) : Bool := decide (bitI .and .u16 (shrI .u16 T i) 1 = 0) && decide (bitI .and .u16 (shrI .u16 (B i) p) 1 = 1)
def tkS (T : Int) (i : Nat) : Int := bitI .or .u16 T (shlI .u16 1 i)
def bestK (f : Nat → Int) (ok : Nat → Bool) (s : Int) : Nat → Int
  | 0 => s
  | k + 1 => if ok k then mxI (bestK f ok s k) (1 + f k) else bestK f ok s k
/-- How many of so many people, from one on, can have a desk. -/
def sS (B : Nat → Int) (m : Nat) : Nat → Nat → Int → Int
  | 0, _, _ => 0
  | l + 1, p, T => bestK (fun i => sS B m l (p + 1) (tkS T i)) (okS B T p) (sS B m l (p + 1) T) m
/-- The first below k. -/
def fi (P : Nat → Bool) : Nat → Option Nat
  | 0 => none
  | k + 1 => (match fi P k with
    | some i => some i
    | none => if P k then some k else none)
theorem fi_none {P : Nat → Bool} : ∀ {k}, fi P k = none → ∀ i, i < k → P i = false
  | 0, _, i, h => by omega
  | k + 1, h, i, hi => by
    simp only [fi] at h
    split at h
    · cases h
    · rename_i hk
      split at h
      · cases h
      · rename_i hp
        by_cases c : i < k
        · exact fi_none hk i c
        · obtain rfl : i = k := by omega
          simpa using hp
theorem fi_of_none {P : Nat → Bool} : ∀ {k}, (∀ i, i < k → P i = false) → fi P k = none
  | 0, _ => rfl
  | k + 1, h => by
    rw [fi, fi_of_none (fun i hi => h i (by omega)), h k (by omega)]; rfl
theorem fi_of_some {P : Nat → Bool} {i : Nat} (hp : P i = true) (hl : ∀ j, j < i → P j = false) : ∀ {k}, i < k → fi P k = some i
  | 0, h => by omega
  | k + 1, h => by
    rw [fi]
    by_cases c : i < k
    · rw [fi_of_some hp hl c]
    · obtain rfl : i = k := by omega
      rw [fi_of_none hl]
      simp [hp]
def grP (B : Nat → Int) (m l p : Nat) (T : Int) (i : Nat) : Bool := okS B T p i && decide (1 + sS B m l (p + 1) (tkS T i) = sS B m (l + 1) p T)
/-- The seats that are found greedily. -/
def gr (B : Nat → Int) (m : Nat) : Nat → Nat → Int → List Int
  | 0, _, _ => []
  | l + 1, p, T => (match fi (grP B m l p T) m with
    | some i => (i : Int) :: gr B m l (p + 1) (tkS T i)
    | none => -1 :: gr B m l (p + 1) T)
theorem gr_len (B : Nat → Int) (m : Nat) : ∀ l p T, (gr B m l p T).length = l
  | 0, _, _ => rfl
  | l + 1, p, T => by
    rw [gr]; split <;> rw [List.length_cons, gr_len]
theorem mx_le (a b : Int) : a ≤ mxI a b ∧ b ≤ mxI a b ∧ (mxI a b = a ∨ mxI a b = b) := by unfold mxI; split <;> omega
theorem best_ge (f : Nat → Int) (ok : Nat → Bool) (s : Int) : ∀ k, s ≤ bestK f ok s k ∧ (∀ i, i < k → ok i = true → 1 + f i ≤ bestK f ok s k) ∧ (bestK f ok s k = s ∨ ∃ i, i < k ∧ ok i = true ∧ bestK f ok s k = 1 + f i)
  | 0 => ⟨Int.le_refl _, fun i h => by omega, .inl rfl⟩
  | k + 1 => by
    obtain ⟨h1, h2, h3⟩ := best_ge f ok s k
    simp only [bestK]
    by_cases c : ok k = true
    · obtain ⟨m1, m2, m3⟩ := mx_le (bestK f ok s k) (1 + f k)
      rw [if_pos c]
      refine ⟨by omega, fun i hi ho => ?_, ?_⟩
      · by_cases d : i < k
        · have := h2 i d ho; omega
        · obtain rfl : i = k := by omega
          exact m2
      · rcases m3 with e | e
        · rw [e]
          rcases h3 with h | ⟨i, a, b, d⟩
          · exact .inl h
          · exact .inr ⟨i, by omega, b, d⟩
        · exact .inr ⟨k, by omega, c, e⟩
    · rw [if_neg c]
      refine ⟨h1, fun i hi ho => ?_, ?_⟩
      · by_cases d : i < k
        · exact h2 i d ho
        · obtain rfl : i = k := by omega
          exact absurd ho c
      · rcases h3 with h | ⟨i, a, b, d⟩
        · exact .inl h
        · exact .inr ⟨i, by omega, b, d⟩
theorem sS_le (B : Nat → Int) (m : Nat) : ∀ l p T, 0 ≤ sS B m l p T ∧ sS B m l p T ≤ l
  | 0, _, _ => ⟨Int.le_refl _, Int.le_refl _⟩
  | l + 1, p, T => by
    obtain ⟨h1, h2, h3⟩ := best_ge (fun i => sS B m l (p + 1) (tkS T i)) (okS B T p) (sS B m l (p + 1) T) m
    have a := sS_le B m l (p + 1) T
    rw [sS]
    refine ⟨by omega, ?_⟩
    rcases h3 with h | ⟨i, _, _, h⟩
    · omega
    · have b := sS_le B m l (p + 1) (tkS T i)
      omega
/-- The search: what is best, after the first so many desks for a person. -/
def stK (B : Nat → Int) (m l p : Nat) (T c : Int) (sl : List Int) (s0 : List Int × Int) : Nat → List Int × Int
  | 0 => s0
  | k + 1 => if okS B T p k = true ∧ (stK B m l p T c sl s0 k).2 < c + 1 + sS B m l (p + 1) (tkS T k) then (sl ++ (k : Int) :: gr B m l (p + 1) (tkS T k), c + 1 + sS B m l (p + 1) (tkS T k)) else stK B m l p T c sl s0 k
theorem stK_inv (B : Nat → Int) (m l p : Nat) (T c : Int) (sl : List Int) (s0 : List Int × Int) : ∀ k,
    s0.2 ≤ (stK B m l p T c sl s0 k).2 ∧ (∀ i, i < k → okS B T p i = true → c + 1 + sS B m l (p + 1) (tkS T i) ≤ (stK B m l p T c sl s0 k).2) ∧
    (stK B m l p T c sl s0 k = s0 ∨ ∃ i, i < k ∧ okS B T p i = true ∧ stK B m l p T c sl s0 k = (sl ++ (i : Int) :: gr B m l (p + 1) (tkS T i), c + 1 + sS B m l (p + 1) (tkS T i)) ∧ s0.2 < c + 1 + sS B m l (p + 1) (tkS T i) ∧ ∀ j, j < i → okS B T p j = true → sS B m l (p + 1) (tkS T j) < sS B m l (p + 1) (tkS T i))
  | 0 => ⟨Int.le_refl _, fun i h => by omega, .inl rfl⟩
  | k + 1 => by
    obtain ⟨h1, h2, h3⟩ := stK_inv B m l p T c sl s0 k
    simp only [stK]
    by_cases d : okS B T p k = true ∧ (stK B m l p T c sl s0 k).2 < c + 1 + sS B m l (p + 1) (tkS T k)
    · rw [if_pos d]
      refine ⟨by simp only; omega, fun i hi ho => ?_, .inr ⟨k, by omega, d.1, rfl, by omega, fun j hj ho => ?_⟩⟩
      · by_cases e : i < k
        · have := h2 i e ho; simp only; omega
        · obtain rfl : i = k := by omega
          exact Int.le_refl _
      · have := h2 j hj ho; omega
    · rw [if_neg d]
      refine ⟨h1, fun i hi ho => ?_, ?_⟩
      · by_cases e : i < k
        · exact h2 i e ho
        · obtain rfl : i = k := by omega
          exact Int.not_lt.1 fun x => d ⟨ho, x⟩
      · rcases h3 with h | ⟨i, a, b⟩
        · exact .inl h
        · exact .inr ⟨i, by omega, b⟩
/-- What the search comes to, with one person more: the same as what is found greedily. -/
theorem search_step (B : Nat → Int) (m l p : Nat) (T c : Int) (sl : List Int) (s0 : List Int × Int) :
    (if (stK B m l p T c sl s0 m).2 < c + sS B m l (p + 1) T then (sl ++ -1 :: gr B m l (p + 1) T, c + sS B m l (p + 1) T) else stK B m l p T c sl s0 m) =
    if s0.2 < c + sS B m (l + 1) p T then (sl ++ gr B m (l + 1) p T, c + sS B m (l + 1) p T) else s0 := by
  obtain ⟨h1, h2, h3⟩ := stK_inv B m l p T c sl s0 m
  obtain ⟨b1, b2, b3⟩ := best_ge (fun i => sS B m l (p + 1) (tkS T i)) (okS B T p) (sS B m l (p + 1) T) m
  have hS : sS B m (l + 1) p T = bestK (fun i => sS B m l (p + 1) (tkS T i)) (okS B T p) (sS B m l (p + 1) T) m := rfl
  rw [← hS] at b1 b2 b3
  by_cases d : (stK B m l p T c sl s0 m).2 < c + sS B m l (p + 1) T
  · have e : sS B m (l + 1) p T = sS B m l (p + 1) T := by
      rcases b3 with b3 | ⟨i, a, o, b3⟩
      · exact b3
      · have := h2 i a o; omega
    have hn : fi (grP B m l p T) m = none := fi_of_none fun i hi => by
      unfold grP
      cases o : okS B T p i
      · rfl
      · have := h2 i hi o
        rw [Bool.true_and]
        exact decide_eq_false (by omega)
    rw [if_pos d, if_pos (by omega), gr, hn, e]
  · rw [if_neg d]
    rcases h3 with h3 | ⟨i, hi, ho, h3, h4, h5⟩
    · have : ¬ s0.2 < c + sS B m (l + 1) p T := by
        rw [h3] at d h2
        rcases b3 with b3 | ⟨i, a, o, b3⟩
        · omega
        · have := h2 i a o; omega
      rw [if_neg this, h3]
    · have e : sS B m (l + 1) p T = 1 + sS B m l (p + 1) (tkS T i) := by
        have q := b2 i hi ho
        rw [h3] at d h2
        simp only at d h2
        rcases b3 with b3 | ⟨j, a, o, b3⟩
        · omega
        · have := h2 j a o; omega
      have hs : fi (grP B m l p T) m = some i := by
        refine fi_of_some ?_ (fun j hj => ?_) hi
        · unfold grP; rw [ho, e]; simp
        · unfold grP
          cases o : okS B T p j
          · rfl
          · have := h5 j hj o
            rw [Bool.true_and]
            exact decide_eq_false (by omega)
      rw [if_pos (by omega), gr, hs, h3, e, Int.add_assoc]
end Go.Proofs.Ytdncopphjamilaa.Vx
