/- What the law on desks asks of seats, in plain. -/
import Derived.Test.YtdncopphjamilaaDp
namespace Go.Proofs.Ytdncopphjamilaa.Vx
open Go Go.RowKit Fl
set_option linter.unusedSimpArgs false
set_option linter.unusedVariables false

section
variable {B : Nat → Int} {m : Nat}
/-- Desk i suits person p. -/
def suS (B : Nat → Int) (p i : Nat) : Bool := decide (bitI .and .u16 (shrI .u16 (B i) p) 1 = 1)
theorem okS_nat {t p i : Nat} (ht : t < 65536) (hi : i < 16) : okS B (t : Int) p i = (!t.testBit i && suS B p i) := by
  unfold okS suS
  rw [(bit16 ht hi).2]
theorem tkS_nat {t i : Nat} (ht : t < 65536) (hi : i < 16) : tkS (t : Int) i = ((t ||| 2 ^ i : Nat) : Int) ∧ t ||| 2 ^ i < 65536 := or16 ht hi
theorem or_bits (t i j : Nat) : (t ||| 2 ^ i).testBit j = (t.testBit j || decide (j = i)) := by
  rw [Nat.testBit_or]
  by_cases e : j = i
  · subst e; rw [Nat.testBit_two_pow_self]; simp
  · rw [Nat.testBit_two_pow_of_ne (fun c => e c.symm)]; simp [e]
/-- A seat that is found: of a desk that is free and suits; it is of use. -/
theorem gr_some {l p i : Nat} {t : Nat} (h : fi (grP B m l p (t : Int)) m = some i) : i < m ∧ okS B (t : Int) p i = true ∧ 1 + sS B m l (p + 1) (tkS (t : Int) i) = sS B m (l + 1) p (t : Int) := by
  have : ∀ {k}, fi (grP B m l p (t : Int)) k = some i → i < k ∧ grP B m l p (t : Int) i = true := by
    intro k
    induction k with
    | zero => intro h; cases h
    | succ k ih =>
      intro h
      simp only [fi] at h
      split at h
      · rename_i j hj
        cases h
        have := ih hj
        exact ⟨by omega, this.2⟩
      · split at h
        · cases h; rename_i c; exact ⟨by omega, c⟩
        · cases h
  obtain ⟨a, b⟩ := this h
  simp only [grP, Bool.and_eq_true, decide_eq_true_eq] at b
  exact ⟨a, b.1, b.2⟩
theorem gr_none {l p : Nat} {t : Nat} (h : fi (grP B m l p (t : Int)) m = none) : sS B m (l + 1) p (t : Int) = sS B m l (p + 1) (t : Int) ∧ ∀ i, i < m → okS B (t : Int) p i = true → 1 + sS B m l (p + 1) (tkS (t : Int) i) < sS B m l (p + 1) (t : Int) := by
  have hn := fi_none h
  obtain ⟨h1, h2, h3⟩ := best_ge (fun i => sS B m l (p + 1) (tkS (t : Int) i)) (okS B (t : Int) p) (sS B m l (p + 1) (t : Int)) m
  have hd : sS B m (l + 1) p (t : Int) = bestK (fun i => sS B m l (p + 1) (tkS (t : Int) i)) (okS B (t : Int) p) (sS B m l (p + 1) (t : Int)) m := rfl
  have hne : ∀ i, i < m → okS B (t : Int) p i = true → 1 + sS B m l (p + 1) (tkS (t : Int) i) ≠ sS B m (l + 1) p (t : Int) := fun i hi ho e => by
    have := hn i hi
    simp only [grP, ho, Bool.true_and, decide_eq_false_iff_not] at this
    exact this e
  have e : sS B m (l + 1) p (t : Int) = sS B m l (p + 1) (t : Int) := by
    rw [hd]
    rcases h3 with c | ⟨i, a, b, c⟩
    · exact c
    · exact absurd (by rw [hd]; exact c.symm) (hne i a b)
  refine ⟨e, fun i hi ho => ?_⟩
  have a := h2 i hi ho
  have b := hne i hi ho
  rw [← hd] at a
  rw [← e]
  omega
/-- One desk more that is taken does no harm where it is not sat at. -/
theorem sS_more (hm : m ≤ 16) {k : Nat} (hk : k < 16) : ∀ (l p : Nat) (t : Nat), t < 65536 → ((k : Nat) : Int) ∉ gr B m l p (t : Int) → sS B m l p (t : Int) ≤ sS B m l p (tkS (t : Int) k)
  | 0, p, t, _, _ => Int.le_refl _
  | l + 1, p, t, ht, hg => by
    have tk := tkS_nat ht hk
    rw [gr] at hg
    have hb := best_ge (fun i => sS B m l (p + 1) (tkS (tkS (t : Int) k) i)) (okS B (tkS (t : Int) k) p) (sS B m l (p + 1) (tkS (t : Int) k)) m
    have hd : sS B m (l + 1) p (tkS (t : Int) k) = bestK (fun i => sS B m l (p + 1) (tkS (tkS (t : Int) k) i)) (okS B (tkS (t : Int) k) p) (sS B m l (p + 1) (tkS (t : Int) k)) m := rfl
    cases hf : fi (grP B m l p (t : Int)) m with
    | none =>
      rw [hf] at hg
      simp only [List.mem_cons, not_or] at hg
      have e := (gr_none hf).1
      have ih := sS_more hm hk l (p + 1) t ht hg.2
      rw [e, hd]; omega
    | some i =>
      rw [hf] at hg
      simp only [List.mem_cons, not_or] at hg
      obtain ⟨g1, g2, g3⟩ := gr_some hf
      have hki : k ≠ i := fun c => hg.1 (by rw [c])
      have ti := tkS_nat ht (show i < 16 by omega)
      rw [ti.1] at hg
      have ih := sS_more hm hk l (p + 1) _ ti.2 hg.2
      have ok2 : okS B (tkS (t : Int) k) p i = true := by
        rw [okS_nat ht (by omega)] at g2
        rw [tk.1, okS_nat tk.2 (by omega), or_bits]
        simp only [Bool.and_eq_true, Bool.not_eq_true'] at g2
        simp [g2.1, g2.2, Ne.symm hki]
      have cm : tkS (tkS (t : Int) k) i = tkS (((t ||| 2 ^ i : Nat)) : Int) k := by
        rw [tk.1, (tkS_nat tk.2 (show i < 16 by omega)).1, (tkS_nat ti.2 hk).1]
        congr 1
        rw [Nat.or_assoc, Nat.or_assoc, Nat.or_comm (2 ^ k)]
      have a := hb.2.1 i g1 ok2
      simp only [cm] at a
      rw [← g3, ti.1, hd]
      simp only [cm] at *
      omega
/-- Who has a seat; who has none. -/
def seatN (L : List Int) (i : Nat) : Int := L.getD i 0
theorem gr_told (hm : m ≤ 8) : ∀ (l p : Nat) (t : Nat), t < 65536 →
    (∀ i, i < l → -1 ≤ seatN (gr B m l p (t : Int)) i ∧ seatN (gr B m l p (t : Int)) i < m) ∧
    (∀ i k : Nat, i < l → seatN (gr B m l p (t : Int)) i = (k : Int) → suS B (p + i) k = true ∧ t.testBit k = false ∧ ∀ j, j < i → seatN (gr B m l p (t : Int)) j ≠ (k : Int)) ∧
    (∀ k : Nat, k < m → t.testBit k = false → ((k : Nat) : Int) ∉ gr B m l p (t : Int) → ∀ i, i < l → seatN (gr B m l p (t : Int)) i < 0 → suS B (p + i) k = false)
  | 0, p, t, _ => ⟨fun i h => by omega, fun i k h => by omega, fun k _ _ _ i h => by omega⟩
  | l + 1, p, t, ht => by
    rw [gr]
    cases hf : fi (grP B m l p (t : Int)) m with
    | none =>
      obtain ⟨i1, i2, i3⟩ := gr_told hm l (p + 1) t ht
      have e0 : ∀ L : List Int, seatN (-1 :: L) 0 = -1 := fun L => rfl
      have eS : ∀ (L : List Int) i, seatN (-1 :: L) (i + 1) = seatN L i := fun L i => by simp [seatN]
      refine ⟨fun i hi => ?_, fun i k hi hk => ?_, fun k hkm htk hnk i hi hlt => ?_⟩
      · cases i with
        | zero => rw [e0]; omega
        | succ i => rw [eS]; exact i1 i (by omega)
      · cases i with
        | zero => rw [e0] at hk; omega
        | succ i =>
          rw [eS] at hk
          obtain ⟨a, b, c⟩ := i2 i k (by omega) hk
          refine ⟨by rw [show p + (i + 1) = p + 1 + i by omega]; exact a, b, fun j hj => ?_⟩
          cases j with
          | zero => rw [e0]; omega
          | succ j => rw [eS]; exact c j (by omega)
      · simp only [List.mem_cons, not_or] at hnk
        cases i with
        | zero =>
          cases hs : suS B (p + 0) k with
          | false => rfl
          | true =>
            have ok : okS B (t : Int) p k = true := by
              rw [okS_nat ht (by omega), htk]
              simpa using hs
            have a := (gr_none hf).2 k hkm ok
            have b := sS_more (B := B) (m := m) (by omega) (show k < 16 by omega) l (p + 1) t ht hnk.2
            omega
        | succ i =>
          rw [eS] at hlt
          rw [show p + (i + 1) = p + 1 + i by omega]
          exact i3 k hkm htk hnk.2 i (by omega) hlt
    | some s =>
      obtain ⟨g1, g2, g3⟩ := gr_some hf
      have ts := tkS_nat ht (show s < 16 by omega)
      simp only [ts.1]
      obtain ⟨i1, i2, i3⟩ := gr_told hm l (p + 1) _ ts.2
      rw [okS_nat ht (by omega)] at g2
      simp only [Bool.and_eq_true, Bool.not_eq_true'] at g2
      have e0 : ∀ L : List Int, seatN ((s : Int) :: L) 0 = s := fun L => rfl
      have eS : ∀ (L : List Int) i, seatN ((s : Int) :: L) (i + 1) = seatN L i := fun L i => by simp [seatN]
      refine ⟨fun i hi => ?_, fun i k hi hk => ?_, fun k hkm htk hnk i hi hlt => ?_⟩
      · cases i with
        | zero => rw [e0]; omega
        | succ i => rw [eS]; exact i1 i (by omega)
      · cases i with
        | zero =>
          rw [e0] at hk
          obtain rfl : s = k := by omega
          exact ⟨g2.2, g2.1, fun j hj => by omega⟩
        | succ i =>
          rw [eS] at hk
          obtain ⟨a, b, c⟩ := i2 i k (by omega) hk
          rw [or_bits] at b
          simp only [Bool.or_eq_false_iff, decide_eq_false_iff_not] at b
          refine ⟨by rw [show p + (i + 1) = p + 1 + i by omega]; exact a, b.1, fun j hj => ?_⟩
          cases j with
          | zero => rw [e0]; omega
          | succ j => rw [eS]; exact c j (by omega)
      · simp only [List.mem_cons, not_or] at hnk
        cases i with
        | zero => rw [e0] at hlt; omega
        | succ i =>
          rw [eS] at hlt
          rw [show p + (i + 1) = p + 1 + i by omega]
          refine i3 k hkm ?_ hnk.2 i (by omega) hlt
          rw [or_bits, htk]
          simp; intro c; exact hnk.1 (by rw [c])
/-- So many have a seat. -/
def cntS (L : List Int) : Nat → Int
  | 0 => 0
  | k + 1 => if seatN L k < 0 then cntS L k else cntS L k + 1
theorem cntS_cons (x : Int) (L : List Int) : ∀ k, cntS (x :: L) (k + 1) = (if x < 0 then 0 else 1) + cntS L k
  | 0 => by
    simp only [cntS, show seatN (x :: L) 0 = x from rfl]
    split <;> simp
  | k + 1 => by
    have ih := cntS_cons x L k
    have e : seatN (x :: L) (k + 1) = seatN L k := by simp [seatN]
    rw [cntS, ih, e, cntS]
    split <;> omega
theorem gr_count (hm : m ≤ 8) : ∀ (l p : Nat) (t : Nat), t < 65536 → cntS (gr B m l p (t : Int)) l = sS B m l p (t : Int)
  | 0, p, t, _ => rfl
  | l + 1, p, t, ht => by
    rw [gr]
    cases hf : fi (grP B m l p (t : Int)) m with
    | none =>
      have ih := gr_count hm l (p + 1) t ht
      simp only
      rw [cntS_cons, ih, (gr_none hf).1]; simp
    | some s =>
      obtain ⟨g1, g2, g3⟩ := gr_some hf
      have ts := tkS_nat ht (show s < 16 by omega)
      simp only [ts.1]
      have ih := gr_count hm l (p + 1) _ ts.2
      rw [cntS_cons, ih, ← g3, ts.1]
      rw [if_neg (by omega)]
end
end Go.Proofs.Ytdncopphjamilaa.Vx
