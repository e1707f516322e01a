/- Float64 words as the laws compare them, and float32 words made wide; the walk's laws for these. -/
import Derived.Test.YtdncopphjamilaaFr
namespace Go.Proofs.Ytdncopphjamilaa.Fl
open Go Ieee

abbrev D : Format := double
def deq (x y : Nat) : Bool := D.order x y == some .eq
def dgt (x y : Nat) : Bool := D.order x y == some .gt
def ddiv (x y : Nat) : Nat := (D.div x y).getD 0
def DivOk64 (x y : Nat) : Prop := ∃ r, D.div x y = some r
theorem DivOk64.run {x y : Nat} (h : DivOk64 x y) : D.div x y = some (ddiv x y) := by obtain ⟨r, e⟩ := h; unfold ddiv; rw [e]; rfl

theorem deq_zero {x : Nat} (h : deq x 0 = true) : ∃ s e, D.read x = .number s 0 e := by
  have hz : D.read 0 = .number false 0 (D.leastPlace) := by decide
  unfold deq Format.order at h
  rw [hz] at h
  cases hr : D.read x with
  | nan a b => rw [hr] at h; simp [Datum.order] at h
  | infinity s => rw [hr] at h; cases s <;> simp [Datum.order] at h
  | number s m e =>
    rw [hr] at h
    simp only [Datum.order, beq_iff_eq, Option.some.injEq, cmp_eq] at h
    refine ⟨s, e, ?_⟩
    have : signed false 0 (D.leastPlace - min e D.leastPlace).toNat = 0 := by simp [signed]
    rw [this] at h
    have hm : m <<< (e - min e D.leastPlace).toNat = 0 := by unfold signed at h; split at h <;> omega
    rw [Nat.shiftLeft_eq] at hm
    rcases Nat.mul_eq_zero.1 hm with h1 | h1
    · rw [h1]
    · exact absurd h1 (by have := Nat.two_pow_pos (e - min e D.leastPlace).toNat; omega)

theorem one_over {x : Nat} (h : deq x 0 = true) : DivOk64 4607182418800017408 x := by
  obtain ⟨s, e, hr⟩ := deq_zero h
  have h1 : D.read 4607182418800017408 = .number false 4503599627370496 (-52) := by decide
  unfold DivOk64 Format.div
  rw [hr, h1]
  exact ⟨_, rfl⟩

/-- A float32 that is not a NaN, made wide. -/
def fwide (x : Nat) : Nat := D.write (S.read x)

theorem top_lt {A B : Nat} (h : A ≤ 1150 * 4503599627370496) (k : B < 2 ^ 53) : min (A + B) 9218868437227405312 < 9218868437227405312 := by omega

theorem wide_finite {x : Nat} (h : fin x) : (D.read (fwide x)).isInfinity = false := by
  obtain ⟨m, p, e, hp, _, hm⟩ := read_fin h
  have hw : fwide x = D.nearest (sgn x) m (-149 + p) := by unfold fwide; rw [e]; rfl
  rw [hw]
  unfold Format.nearest
  have f1 : D.leastPlace = -1074 := by decide
  have f2 : D.binade = 4503599627370496 := by decide
  have f3 : D.infRung = 9218868437227405312 := by decide
  have f4 : D.signWeight = 9223372036854775808 := by decide
  have f5 : D.fractionBits = 52 := by decide
  have rd : ∀ (s : Bool) (r : Nat), r < 9218868437227405312 → (D.read (D.word s r)).isInfinity = false := by
    intro s r hr
    unfold Format.read Format.word
    simp only [f2, f3, f4]
    have e1 : (if s = true then 9223372036854775808 + r else r) % 9223372036854775808 = r := by split <;> omega
    rw [e1]
    by_cases c : r < 4503599627370496
    · rw [if_pos c]; rfl
    · rw [if_neg c, if_pos hr]; rfl
  by_cases m0 : m = 0
  · rw [if_pos m0]; exact rd _ _ (by omega)
  · rw [if_neg m0]
    apply rd
    have hlog : m.log2 < 24 := (Nat.log2_lt m0).2 hm
    simp only [f1, f2, f3, f5]
    rw [cut_eq]
    generalize hL : max (-149 + (p : Int) + (m.log2 : Int) - ((52 : Nat) : Int)) (-1074) = L
    have hL2 : L = -149 + p + m.log2 - 52 := by omega
    have d0 : (L - (-149 + (p : Int))).toNat = 0 := by omega
    have d1 : (-149 + (p : Int) - L).toNat = 52 - m.log2 := by omega
    rw [d0, d1, rnd_zero, Nat.shiftLeft_eq]
    have b1 : m * 2 ^ (52 - m.log2) < 2 ^ 53 := by
      have h1 : m < 2 ^ (m.log2 + 1) := Nat.lt_log2_self
      have h2 := (Nat.mul_lt_mul_right (Nat.two_pow_pos (52 - m.log2))).2 h1
      rwa [← Nat.pow_add, show m.log2 + 1 + (52 - m.log2) = 53 from by omega] at h2
    have b2 : (L - -1074).toNat ≤ 1150 := by omega
    have b3 : (L - -1074).toNat * 4503599627370496 ≤ 1150 * 4503599627370496 := Nat.mul_le_mul_right _ b2
    exact top_lt b3 b1

section
variable {P : Program} (w : World)
@[go_sem] theorem d_eql (t : TypeId) (a b : Nat) : binOp .eql t (.float .f64 a) (.float .f64 b) = pure (.bool (deq a b)) := by simp [binOp, Op.floatCmp, deq, FloatKind.format]
@[go_sem] theorem d_neq (t : TypeId) (a b : Nat) : binOp .neq t (.float .f64 a) (.float .f64 b) = pure (.bool (!deq a b)) := by simp [binOp, Op.floatCmp, deq, FloatKind.format, bne]
@[go_sem] theorem d_gtr (t : TypeId) (a b : Nat) : binOp .gtr t (.float .f64 a) (.float .f64 b) = pure (.bool (dgt a b)) := by simp [binOp, Op.floatCmp, dgt, FloatKind.format]
@[go_sem] theorem d_quo (t : TypeId) (a b : Nat) (h : DivOk64 a b) : (binOp .quo t (.float .f64 a) (.float .f64 b)).run P w = .ok (.float .f64 (ddiv a b)) w := by
  have := h.run; simp [binOp, Op.floatArith, FloatKind.format, this]

/-- 'float64(x)' of a float32 that is not a NaN. -/
@[go_sem] theorem f_wide (src dst : TypeId) (b : Nat) (hs : (P.underlying src).isSome = true) (hd : P.underlying dst = some (.float .f64)) (h : nn b) :
    (convert src dst (.float .f32 b)).run P w = .ok (.float .f64 (fwide b)) w := by
  obtain ⟨s, hs'⟩ := Option.isSome_iff_exists.1 hs
  rcases Nat.lt_or_eq_of_le h with hf | hi
  · have hw := wide_finite hf
    obtain ⟨m, p, e, _⟩ := read_fin hf
    have e' : FloatKind.decode .f32 b = .number (sgn b) m (-149 + p) := e
    have e2 : fwide b = FloatKind.f64.encode (.number (sgn b) m (-149 + p)) := by unfold fwide; rw [e]; rfl
    have hw' : (FloatKind.decode .f64 (FloatKind.encode .f64 (.number (sgn b) m (-149 + p)))).isInfinity = false := by rw [e2] at hw; exact hw
    cases s <;> simp [convert, run_underlying hs', run_underlying hd, Conv.floatToFloat, e', hw', e2]
  · have e := read_inf hi
    have e' : FloatKind.decode .f32 b = .infinity (sgn b) := e
    have e2 : fwide b = FloatKind.f64.encode (.infinity (sgn b)) := by unfold fwide; rw [e]; rfl
    cases s <;> simp [convert, run_underlying hs', run_underlying hd, Conv.floatToFloat, e', e2]
end

end Go.Proofs.Ytdncopphjamilaa.Fl
