/- Awnings, for the law of the awnings: plain facts. -/
import Derived.Test.YtpcnpmhpelbndaaGreatDoorAf
namespace Go.Proofs.YtpcnpmhpelbndaaGreatDoor.Vx
open Go Go.RowKit Fl
set_option maxRecDepth 100000
set_option linter.unusedSimpArgs false
set_option linter.unusedVariables false
/-- Twice a rung's magnitude. -/
def dbl (r : Nat) : Nat := if r < 8388608 then 2 * r else r + 8388608
theorem MAG_dbl (r : Nat) : MAG (dbl r) = 2 * MAG r := by
  unfold dbl
  split
  · rename_i h
    have e1 : MAG r = r := by unfold MAG; rw [if_pos (show r < 2 ^ 23 from h)]
    by_cases h2 : 2 * r < 8388608
    · have : MAG (2 * r) = 2 * r := by unfold MAG; rw [if_pos (show 2 * r < 2 ^ 23 from h2)]
      rw [this, e1]
    · have : MAG (2 * r) = 2 * r := by
        unfold MAG
        rw [if_neg (show ¬ 2 * r < 2 ^ 23 from h2), show 2 * r / 2 ^ 23 = 1 by omega, show 2 * r % 2 ^ 23 = 2 * r - 8388608 by omega]
        simp; omega
      rw [this, e1]
  · rename_i h
    unfold MAG
    rw [if_neg (show ¬ r + 8388608 < 2 ^ 23 by omega), if_neg (show ¬ r < 2 ^ 23 from h), show (r + 8388608) % 2 ^ 23 = r % 2 ^ 23 by omega, show (r + 8388608) / 2 ^ 23 - 1 = (r / 2 ^ 23 - 1) + 1 by omega, show 2 ^ (r / 2 ^ 23 - 1 + 1) = 2 ^ (r / 2 ^ 23 - 1) * 2 from Nat.pow_succ _ _]
    generalize 2 ^ (r / 2 ^ 23 - 1) = p
    generalize 2 ^ 23 + r % 2 ^ 23 = q
    rw [← Nat.mul_assoc, Nat.mul_comm]
theorem Q_half {m : Nat} : Q (2 * m) (2 ^ 150) = R m (-149) := by
  obtain ⟨k, hk, hf⟩ : ∃ k, k = 250 ∧ far = k + 150 := ⟨250, rfl, rfl⟩
  have e : 2 * m * 2 ^ far = 2 * m * 2 ^ k * 2 ^ 150 := by rw [hf, Nat.pow_add, ← Nat.mul_assoc]
  unfold Q
  rw [e, Nat.mul_div_cancel _ (Nat.two_pow_pos 150), Nat.mul_mod_left, if_pos rfl, Nat.add_zero]
  have e2 : 2 * (2 * m * 2 ^ k) = m * 2 ^ (k + 2) := by
    rw [Nat.pow_add]
    generalize 2 ^ k = p
    rw [Nat.mul_comm 2 m, Nat.mul_comm p, ← Nat.mul_assoc m, Nat.mul_assoc m 2 p, Nat.mul_left_comm 2 m, ← Nat.mul_assoc, Nat.mul_assoc m 2, ← Nat.mul_assoc 2 2 p, ← Nat.mul_assoc m]
  rw [e2, R_scale, hk]
  rfl
/-- Half way to 8 is no less. -/
theorem half_up {o : Nat} (ho : In8 o) : key o ≤ key (fdiv (fadd o 1090519040) 1073741824) := by
  have h8 : In8 1090519040 := ⟨⟨by decide, by decide⟩, by decide⟩
  have hr := rung_of ho.1.2
  have k8 : key 1090519040 = 1090519040 := by decide
  have hlt : rung o ≤ 1090519040 := by have := ho.2; omega
  obtain ⟨t, ht⟩ : ∃ t, t = dbl (rung o) := ⟨_, rfl⟩
  have hdl : dbl (rung o) < 2139095040 := by unfold dbl; split <;> omega
  have rt : rung t = dbl (rung o) := by
    rw [ht]
    show dbl (rung o) % 2147483648 = dbl (rung o)
    omega
  have ft : fin t := by unfold fin; rw [rt]; exact hdl
  have st : sgn t = false := by
    rw [ht]; unfold sgn
    rw [Nat.div_eq_of_lt (by omega)]; rfl
  have so : V o = MAG (rung o) := by
    unfold V
    have : sgn o = false ∨ rung o = 0 := by
      cases hs : sgn o
      · exact .inl rfl
      · right
        have := ho.1.2
        unfold key at this
        rw [hs] at this
        simp only [sg, if_true] at this
        omega
    rcases this with h | h
    · rw [h]; rfl
    · rw [h]; cases sgn o <;> rfl
  have vt : V t = 2 * V o := by
    rw [so]
    unfold V
    rw [st, rt, MAG_dbl]; simp [sg]
  have v8 : V o ≤ V 1090519040 := (V_le ho.1.1 h8.1.1).2 ho.2
  have ha := add_fin ho.1.1 h8.1.1
  have hm := mid_ok ho h8
  have hs : F0 (fadd o 1090519040) := by
    have k := add_mono (x' := 1090519040) (y' := 1090519040) ho.1.p h8.1.p ⟨by decide, by decide⟩ ⟨by decide, by decide⟩ ho.2 (Int.le_refl _)
    have k2 : key (fadd 1090519040 1090519040) = key 1098907648 := by decide +kernel
    rw [k2] at k
    exact F0_of_le (add_P0 ho.1.p h8.1.p).2.1 (by decide) k
  have hk : key t ≤ key (fadd o 1090519040) := by
    rw [ha.2.1, ← KR_V ft, vt]
    exact KR_mono _ (by omega)
  have kt : 0 ≤ key t := by unfold key; rw [st]; simp [sg]
  have r2 : (rung t : Int) ≤ rung (fadd o 1090519040) := by rw [rung_of kt, rung_of hs.2]; exact hk
  have hM : MAG (rung t) ≤ MAG (rung (fadd o 1090519040)) := (MAG_le ft hs.1).2 (by omega)
  rw [key_div_pos hs (by decide) (by decide)]
  have e2 : MAG (rung 1073741824) = 2 ^ 150 := by decide
  rw [e2]
  have q := Q_mono (b := 2 ^ 150) hM
  rw [rt, MAG_dbl, Q_half, R_MAG ho.1.1] at q
  omega
theorem In8_of {o d g l : Nat} (h : vAwning o d g l = true) : In8 o := by
  simp only [vAwning, btw, Bool.and_eq_true] at h
  have a := fle_key h.1.1.1.1
  have b := fle_key h.1.1.1.2
  have k0 : key 0 = 0 := by decide
  exact ⟨F0_of_le ⟨a.2.1, by omega⟩ (y := 1090519040) (by decide) b.2.2, b.2.2⟩
theorem longer_ok {o d g l : Nat} (h : vAwning o d g l = true) : AddOk o 1090519040 ∧ DivOk (fadd o 1090519040) 1073741824 ∧ vAwning (fdiv (fadd o 1090519040) 1073741824) d g l = true := by
  have h8 : In8 1090519040 := ⟨⟨by decide, by decide⟩, by decide⟩
  have m := mid_ok (In8_of h) h8
  exact ⟨m.1, m.2.1, vAwning_in8 h m.2.2⟩
theorem isPart_of {x : Nat} (h : F0 x) (h1 : key x ≤ key 1065353216) : isPart x = true := by
  unfold isPart btw
  have k0 : key 0 = 0 := by decide
  rw [fle_of (by decide) h.1.nn (by have := h.2; omega), fle_of h.1.nn (by decide) h1]; rfl
theorem hrs_mem (c : Nat → Bool) : ∀ (n k : Nat), ((k : Nat) : Int) ∈ hrs c n ↔ k < n ∧ c k = true
  | 0, k => by simp [hrs]
  | n + 1, k => by
    have ih := hrs_mem c n k
    simp only [hrs]
    cases hc : c n
    · simp only [Bool.false_eq_true, if_false]
      rw [ih]
      constructor
      · rintro ⟨a, b⟩; exact ⟨by omega, b⟩
      · rintro ⟨a, b⟩
        refine ⟨?_, b⟩
        have : k ≠ n := fun e => by rw [e, hc] at b; cases b
        omega
    · simp only [if_true, List.mem_append, List.mem_singleton]
      rw [ih]
      constructor
      · rintro (⟨a, b⟩ | e)
        · exact ⟨by omega, b⟩
        · have : k = n := by omega
          subst this; exact ⟨by omega, hc⟩
      · rintro ⟨a, b⟩
        by_cases e : k = n
        · right; rw [e]
        · left; exact ⟨by omega, b⟩
theorem hasK_mem (L : List Int) (x : Int) : ∀ k, k ≤ L.length → (hasK L x k = true ↔ x ∈ L.take k)
  | 0, _ => by simp [hasK]
  | k + 1, h => by
    have ih := hasK_mem L x k (by omega)
    rw [hasK, Bool.or_eq_true, ih, List.take_add_one, List.getElem?_eq_getElem (by omega)]
    simp only [Option.toList_some, List.mem_append, List.mem_singleton, decide_eq_true_eq, seatN, List.getD_eq_getElem?_getD, List.getElem?_eq_getElem (show k < L.length by omega), Option.getD_some]
    constructor
    · rintro (a | a)
      · exact .inl a
      · exact .inr a.symm
    · rintro (a | a)
      · exact .inl a
      · exact .inr a.symm
theorem has_hrs (c : Nat → Bool) {k : Nat} (hk : k < 24) : hasK (hrs c 24) (k : Int) (hrs c 24).length = c k := by
  rw [Bool.eq_iff_iff, hasK_mem _ _ _ (Nat.le_refl _), List.take_length, hrs_mem]
  simp [hk]
theorem halve_en {x : Nat → Int} {t : Nat} {a : Int} {d g l part : Nat} (h : en x t a d g l part 1090519040 = true) : ∀ k, en x t a d g l part (halve x t a d g l part k).2 = true
  | 0 => h
  | k + 1 => by
    simp only [halve]
    split
    · assumption
    · exact halve_en h k
theorem outC_told (x : Nat → Int) (t : Nat) (a : Int) (d g l part : Nat) :
    ((outC x t a d g l part).2 = 0 ∧ en x t a d g l part (outC x t a d g l part).1 = true ∧ In8 (outC x t a d g l part).1) ∨
    ((outC x t a d g l part).2 = 6 ∧ (outC x t a d g l part).1 = 0 ∧ en x t a d g l part 1090519040 = false) := by
  unfold outC
  split
  · left; exact ⟨rfl, by assumption, ⟨by decide, by decide⟩, by decide⟩
  · split
    · left; exact ⟨rfl, halve_en (by assumption) 30, (halve_ok x t a d g l part 30).2⟩
    · right; exact ⟨rfl, rfl, by simp_all⟩
theorem bst_le (g : Nat → Nat) (h0 : nn (g 0)) (h1 : nn (g 1)) : key (bst g 2).2 ≤ key (g 0) := by
  have e1 : (bst g 1).2 = g 0 := by rw [bst_one]
  show key (if flt (g 1) (bst g 1).2 then (1, g 1) else bst g 1).2 ≤ _
  split
  · rename_i h
    rw [e1] at h
    have := (flt_key h).2.2
    show key (g 1) ≤ _
    omega
  · rw [e1]; exact Int.le_refl _
theorem bst_nn (g : Nat → Nat) (h0 : nn (g 0)) (h1 : nn (g 1)) : nn (bst g 2).2 := bst_mem g (p := nn) 2 fun k hk => by
  have : k = 0 ∨ k = 1 := by omega
  rcases this with rfl | rfl
  · exact h0
  · exact h1
end Go.Proofs.YtpcnpmhpelbndaaGreatDoor.Vx
