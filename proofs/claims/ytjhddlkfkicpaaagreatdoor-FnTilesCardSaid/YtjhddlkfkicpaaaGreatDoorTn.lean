/- Numbers that are read: what a text of eight digits is. -/
import Derived.Test.YtjhddlkfkicpaaaGreatDoorTc
import Derived.Test.YtjhddlkfkicpaaaGreatDoorTq
import Derived.Test.YtjhddlkfkicpaaaGreatDoorTp
namespace Go.Proofs.YtjhddlkfkicpaaaGreatDoor.Vx
open Go Go.RowKit Fl Hex16
set_option maxRecDepth 100000
set_option maxHeartbeats 4000000
set_option linter.unusedSimpArgs false
set_option linter.unusedVariables false
/-- A digit, small letters alone. -/
def sd (c : UInt8) : Option Nat := if 48 ≤ c.toNat ∧ c.toNat ≤ 57 then some (c.toNat - 48) else if 97 ≤ c.toNat ∧ c.toNat ≤ 102 then some (c.toNat - 87) else none
def s16 : Nat → List UInt8 → Option Nat
  | acc, [] => some acc
  | acc, c :: r => match sd c with
    | some d => s16 (acc * 16 + d) r
    | none => none
theorem sd_hexd : ∀ k, k < 16 → sd (hexd k) = some k := by decide
def sdC (n : Nat) : Bool := match sd (UInt8.ofNat n) with
  | some d => decide (d < 16) && (hexd d == UInt8.ofNat n) && (dg (UInt8.ofNat n) == some d)
  | none => true
theorem sdC_all : (List.range 256).all sdC = true := by decide +kernel
theorem sd_ok {c : UInt8} {d : Nat} (h : sd c = some d) : d < 16 ∧ hexd d = c ∧ dg c = some d := by
  have := List.all_eq_true.1 sdC_all c.toNat (by simpa using c.toNat_lt)
  have e : UInt8.ofNat c.toNat = c := by simp
  simp only [sdC, e, h, Bool.and_eq_true, decide_eq_true_eq, beq_iff_eq] at this
  exact ⟨this.1.1, this.1.2, this.2⟩
theorem s16_app (l : List UInt8) (c : UInt8) : ∀ acc, s16 acc (l ++ [c]) = (s16 acc l).bind fun a => (sd c).map fun d => a * 16 + d := by
  induction l with
  | nil => intro acc; simp only [List.nil_append, s16]; cases sd c <;> rfl
  | cons b r ih =>
    intro acc
    simp only [List.cons_append, s16]
    cases sd b with
    | none => rfl
    | some d => exact ih _
theorem s16_hexN : ∀ n b, b < 16 ^ n → s16 0 (hexN b n) = some b
  | 0, b, h => by
    obtain rfl : b = 0 := by simpa using h
    rfl
  | n + 1, b, h => by
    rw [hexN, s16_app, s16_hexN n (b / 16) (by rw [Nat.pow_succ] at h; omega), sd_hexd _ (Nat.mod_lt _ (by omega))]
    simp; omega
theorem hexN_s16 (l : List UInt8) (b : Nat) (h : s16 0 l = some b) : hexN b l.length = l ∧ b < 16 ^ l.length := by
  suffices H : ∀ n (l : List UInt8) (b : Nat), l.length = n → s16 0 l = some b → hexN b l.length = l ∧ b < 16 ^ l.length from H _ l b rfl h
  clear h l b
  intro n
  induction n with
  | zero =>
    intro l b hn h
    obtain rfl : l = [] := List.length_eq_zero_iff.1 hn
    simp only [s16, Option.some.injEq] at h; subst h; exact ⟨rfl, by simp⟩
  | succ n ih =>
    intro l0 b hn h
    have hne : l0 ≠ [] := fun e => by rw [e] at hn; cases hn
    obtain ⟨l, c, rfl⟩ : ∃ l c, l0 = l ++ [c] := ⟨_, _, (List.dropLast_concat_getLast hne).symm⟩
    have hn' : l.length = n := by simpa using hn
    rw [s16_app] at h
    cases e1 : s16 0 l with
    | none => rw [e1] at h; cases h
    | some a =>
      cases e2 : sd c with
      | none => rw [e1, e2] at h; cases h
      | some d =>
        rw [e1, e2] at h
        simp only [Option.bind_some, Option.map_some, Option.some.injEq] at h
        obtain ⟨i1, i2⟩ := ih l a hn' e1
        obtain ⟨q1, q2, _⟩ := sd_ok e2
        subst h
        refine ⟨?_, ?_⟩
        · rw [List.length_append, List.length_singleton, hexN, show (a * 16 + d) / 16 = a by omega, show (a * 16 + d) % 16 = d by omega, i1, q2]
        · rw [List.length_append, List.length_singleton, Nat.pow_succ]; omega
theorem p16_s16 : ∀ (l : List UInt8) (acc b : Nat), s16 acc l = some b → p16 acc l = .ok b
  | [], acc, b, h => by simp only [s16, Option.some.injEq] at h; subst h; rfl
  | c :: r, acc, b, h => by
    simp only [s16] at h
    split at h
    · rename_i d hd
      simp only [p16, (sd_ok hd).2.2]
      exact p16_s16 r _ _ h
    · cases h
/-- The number of a text, if it has one. -/
def num (t : List UInt8) : Option Nat :=
  match s16 0 t with
  | some b => if t.length = 8 ∧ tbits b = b then some b else none
  | none => none
theorem num_iff {t : List UInt8} {b : Nat} : num t = some b ↔ t = hexN b 8 ∧ b < 4294967296 ∧ tbits b = b := by
  constructor
  · intro h
    unfold num at h
    split at h
    · rename_i b' hb
      split at h
      · rename_i h8
        cases h
        obtain ⟨h1, h2⟩ := hexN_s16 t _ hb
        rw [h8.1] at h1 h2
        exact ⟨h1.symm, by omega, h8.2⟩
      · cases h
    · cases h
  · rintro ⟨rfl, h1, h2⟩
    unfold num
    rw [s16_hexN 8 b (by omega)]
    simp only [hexN_len, h2, true_and, if_true]
/-- What the program answers. -/
theorem num_impl {t : List UInt8} {u : Nat} (h8 : t.length = 8) (h : p16 0 t = .ok u) : (hexN (tbits u) 8 = t → num t = some u) ∧ (hexN (tbits u) 8 ≠ t → num t = none) := by
  have hu : u < 4294967296 := by
    have := p16_lt t 0 u h
    rw [h8] at this; omega
  refine ⟨fun e => ?_, fun e => ?_⟩
  · have h1 := p16_s16 t 0 (tbits u) (by rw [← e]; exact s16_hexN 8 _ (by have := tbits_lt hu; omega))
    rw [h] at h1
    have h2 : u = tbits u := Lib.NumEnd.ok.inj h1
    exact num_iff.2 ⟨by rw [← e, ← h2], hu, h2.symm⟩
  · cases hn : num t with
    | none => rfl
    | some b =>
      obtain ⟨h1, h2, h3⟩ := num_iff.1 hn
      have h4 := p16_s16 t 0 b (by rw [h1]; exact s16_hexN 8 _ (by omega))
      rw [h] at h4
      have h5 : u = b := Lib.NumEnd.ok.inj h4
      subst h5
      exact absurd (by rw [h3, ← h1]) e
theorem num_impl_no {t : List UInt8} (h : p16 0 t = .«syntax») : num t = none := by
  cases hn : num t with
  | none => rfl
  | some b =>
    obtain ⟨h1, h2, h3⟩ := num_iff.1 hn
    have h4 := p16_s16 t 0 b (by rw [h1]; exact s16_hexN 8 _ (by omega))
    rw [h] at h4; cases h4
theorem num_len {t : List UInt8} (h : t.length ≠ 8) : num t = none := by
  cases hn : num t with
  | none => rfl
  | some b => exact absurd (by rw [(num_iff.1 hn).1, hexN_len]) h
theorem p16_cases (t : List UInt8) : ∀ acc, (∃ u, p16 acc t = .ok u) ∨ p16 acc t = .«syntax» := by
  induction t with
  | nil => intro acc; exact .inl ⟨acc, rfl⟩
  | cons c r ih =>
    intro acc
    simp only [p16]
    cases dg c with
    | none => exact .inr rfl
    | some d => exact ih _
end Go.Proofs.YtjhddlkfkicpaaaGreatDoor.Vx
