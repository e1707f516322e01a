/- Float32 words: the operations as total functions, when they are valid, and how their results are ordered; no program in sight. -/
import Derived.Test.YtdncopphjamilaaFw
namespace Go.Proofs.Ytdncopphjamilaa.Fl
open Ieee

def flt (x y : Nat) : Bool := S.order x y == some .lt
def fle (x y : Nat) : Bool := S.order x y == some .lt || S.order x y == some .eq
def feq (x y : Nat) : Bool := S.order x y == some .eq

theorem cmp_lt (a b : Int) : (compare a b = .lt) ↔ a < b := by simp [compare, compareOfLessAndEq]; split <;> simp_all
theorem cmp_eq (a b : Int) : (compare a b = .eq) ↔ a = b := by
  simp only [compare, compareOfLessAndEq]; split
  · simp; omega
  · split <;> simp_all
theorem cmp_gt (a b : Int) : (compare a b = .gt) ↔ b < a := by
  simp only [compare, compareOfLessAndEq]; split
  · simp; omega
  · split
    · simp; omega
    · simp; omega

theorem flt_iff {x y : Nat} (hx : nn x) (hy : nn y) : flt x y = decide (key x < key y) := by
  unfold flt; rw [order_eq hx hy, Bool.eq_iff_iff]; simp [cmp_lt]
theorem feq_iff {x y : Nat} (hx : nn x) (hy : nn y) : feq x y = decide (key x = key y) := by
  unfold feq; rw [order_eq hx hy, Bool.eq_iff_iff]; simp
theorem fle_iff {x y : Nat} (hx : nn x) (hy : nn y) : fle x y = decide (key x ≤ key y) := by
  unfold fle; rw [order_eq hx hy, Bool.eq_iff_iff]; simp [cmp_lt]; omega

theorem gt_eq (x y : Nat) : (S.order x y == some .gt) = flt y x := by
  by_cases hx : nn x
  · by_cases hy : nn y
    · rw [flt_iff hy hx, order_eq hx hy, Bool.eq_iff_iff]; simp [cmp_gt]
    · unfold flt; rw [order_nan_right hy, order_nan_left hy]; rfl
  · unfold flt; rw [order_nan_right hx, order_nan_left hx]; rfl
theorem eq_symm' (x y : Nat) : feq x y = feq y x := by
  by_cases hx : nn x
  · by_cases hy : nn y
    · rw [feq_iff hy hx, feq_iff hx hy, Bool.eq_iff_iff]; simp; omega
    · unfold feq; rw [order_nan_right hy, order_nan_left hy]
  · unfold feq; rw [order_nan_right hx, order_nan_left hx]
theorem ge_eq (x y : Nat) : (S.order x y == some .gt || S.order x y == some .eq) = fle y x := by
  have h := eq_symm' x y
  unfold feq at h
  rw [gt_eq, h]; rfl

theorem nn_of_cmp {x y : Nat} (h : S.order x y ≠ none) : nn x ∧ nn y := by
  by_cases hx : nn x
  · by_cases hy : nn y
    · exact ⟨hx, hy⟩
    · exact absurd (order_nan_right hy) h
  · exact absurd (order_nan_left hx) h
theorem fle_nn {x y : Nat} (h : fle x y = true) : nn x ∧ nn y := nn_of_cmp fun e => by simp [fle, e] at h
theorem flt_nn {x y : Nat} (h : flt x y = true) : nn x ∧ nn y := nn_of_cmp fun e => by simp [flt, e] at h
theorem feq_nn {x y : Nat} (h : feq x y = true) : nn x ∧ nn y := nn_of_cmp fun e => by simp [feq, e] at h
theorem fle_key {x y : Nat} (h : fle x y = true) : nn x ∧ nn y ∧ key x ≤ key y := by
  obtain ⟨a, b⟩ := fle_nn h; rw [fle_iff a b] at h; exact ⟨a, b, of_decide_eq_true h⟩
theorem flt_key {x y : Nat} (h : flt x y = true) : nn x ∧ nn y ∧ key x < key y := by
  obtain ⟨a, b⟩ := flt_nn h; rw [flt_iff a b] at h; exact ⟨a, b, of_decide_eq_true h⟩
theorem feq_key {x y : Nat} (h : feq x y = true) : nn x ∧ nn y ∧ key x = key y := by
  obtain ⟨a, b⟩ := feq_nn h; rw [feq_iff a b] at h; exact ⟨a, b, of_decide_eq_true h⟩
theorem feq_self {x : Nat} : feq x x = decide (nn x) := by
  by_cases h : nn x
  · rw [feq_iff h h]; simp [h]
  · unfold feq; rw [order_nan_left h]; simp [h]
theorem fle_of {x y : Nat} (hx : nn x) (hy : nn y) (h : key x ≤ key y) : fle x y = true := by rw [fle_iff hx hy]; exact decide_eq_true h
theorem flt_of {x y : Nat} (hx : nn x) (hy : nn y) (h : key x < key y) : flt x y = true := by rw [flt_iff hx hy]; exact decide_eq_true h
theorem fle_not {x y : Nat} (hx : nn x) (hy : nn y) (h : fle x y = false) : key y < key x := by
  rw [fle_iff hx hy] at h; have := of_decide_eq_false h; omega
theorem flt_not {x y : Nat} (hx : nn x) (hy : nn y) (h : flt x y = false) : key y ≤ key x := by
  rw [flt_iff hx hy] at h; have := of_decide_eq_false h; omega

/-- Two words with one key that is not 0 are one word. -/
theorem word_of_key {x y : Nat} (hx : x < 4294967296) (hy : y < 4294967296) (h : key x = key y) (h0 : key x ≠ 0) : x = y := by
  unfold key sgn rung at *
  have d1 : x / 2147483648 < 2 := by omega
  have d2 : y / 2147483648 < 2 := by omega
  have r1 : x / 2147483648 = 0 ∨ x / 2147483648 = 1 := by omega
  have r2 : y / 2147483648 = 0 ∨ y / 2147483648 = 1 := by omega
  rcases r1 with r1 | r1 <;> rcases r2 with r2 | r2 <;> simp [r1, r2, sg] at h h0 <;> omega

/-! ### the operations -/
def fadd (x y : Nat) : Nat := (S.add x y).getD 2143289344
def fsub (x y : Nat) : Nat := (S.sub x y).getD 2143289344
def fmul (x y : Nat) : Nat := (S.mul x y).getD 2143289344
def fdiv (x y : Nat) : Nat := (S.div x y).getD 2143289344
def AddOk (x y : Nat) : Prop := ∃ r, S.add x y = some r
def SubOk (x y : Nat) : Prop := ∃ r, S.sub x y = some r
def MulOk (x y : Nat) : Prop := ∃ r, S.mul x y = some r
def DivOk (x y : Nat) : Prop := ∃ r, S.div x y = some r
theorem AddOk.run {x y : Nat} (h : AddOk x y) : S.add x y = some (fadd x y) := by obtain ⟨r, e⟩ := h; unfold fadd; rw [e]; rfl
theorem SubOk.run {x y : Nat} (h : SubOk x y) : S.sub x y = some (fsub x y) := by obtain ⟨r, e⟩ := h; unfold fsub; rw [e]; rfl
theorem MulOk.run {x y : Nat} (h : MulOk x y) : S.mul x y = some (fmul x y) := by obtain ⟨r, e⟩ := h; unfold fmul; rw [e]; rfl
theorem DivOk.run {x y : Nat} (h : DivOk x y) : S.div x y = some (fdiv x y) := by obtain ⟨r, e⟩ := h; unfold fdiv; rw [e]; rfl
theorem fadd_lt {x y : Nat} : fadd x y < 4294967296 := by
  unfold fadd; cases h : S.add x y with
  | none => decide
  | some r => exact S.add_lt h
theorem fsub_lt {x y : Nat} : fsub x y < 4294967296 := by
  unfold fsub; cases h : S.sub x y with
  | none => decide
  | some r => exact S.sub_lt h
theorem fmul_lt {x y : Nat} : fmul x y < 4294967296 := by
  unfold fmul; cases h : S.mul x y with
  | none => decide
  | some r => exact S.mul_lt h
theorem fdiv_lt {x y : Nat} : fdiv x y < 4294967296 := by
  unfold fdiv; cases h : S.div x y with
  | none => decide
  | some r => exact S.div_lt h

theorem add_fin {x y : Nat} (hx : fin x) (hy : fin y) : AddOk x y ∧ key (fadd x y) = KR (-149) (V x + V y) ∧ nn (fadd x y) := by
  obtain ⟨r, e, h⟩ := sum_fin hx hy
  refine ⟨⟨r, e⟩, ?_⟩; unfold fadd; rw [e]; exact h
theorem sub_fin {x y : Nat} (hx : fin x) (hy : fin y) : SubOk x y ∧ key (fsub x y) = KR (-149) (V x - V y) ∧ nn (fsub x y) := by
  obtain ⟨r, e, h⟩ := diff_fin hx hy
  refine ⟨⟨r, e⟩, ?_⟩; unfold fsub; rw [e]; exact h
theorem mul_fin {x y : Nat} (hx : fin x) (hy : fin y) : MulOk x y ∧ key (fmul x y) = KR (-298) (V x * V y) ∧ nn (fmul x y) := by
  obtain ⟨r, e, h⟩ := prod_fin hx hy
  refine ⟨⟨r, e⟩, ?_⟩; unfold fmul; rw [e]; exact h
theorem div_fin {x y : Nat} (hx : fin x) (hy : fin y) (h0 : key y ≠ 0) : DivOk x y ∧ key (fdiv x y) = sg (sgn x ^^ sgn y) (Q (MAG (rung x)) (MAG (rung y))) ∧ nn (fdiv x y) := by
  obtain ⟨r, e, h⟩ := quot_fin hx hy (by intro h; apply h0; unfold key; rw [h]; cases sgn y <;> rfl)
  refine ⟨⟨r, e⟩, ?_⟩; unfold fdiv; rw [e]; exact h

/-! ### signs -/
/-- Not a NaN, and at least 0 (infinity too; -0 too). -/
def P0 (x : Nat) : Prop := nn x ∧ 0 ≤ key x
/-- Finite, and at least 0. -/
def F0 (x : Nat) : Prop := fin x ∧ 0 ≤ key x
theorem F0.p {x : Nat} (h : F0 x) : P0 x := ⟨h.1.nn, h.2⟩

theorem V_zero : V 0 = 0 := rfl
theorem V_nonneg {x : Nat} (h : fin x) : 0 ≤ V x ↔ 0 ≤ key x := V_le (x := 0) (by decide) h
theorem V_nonpos {x : Nat} (h : fin x) : V x ≤ 0 ↔ key x ≤ 0 := V_le (y := 0) h (by decide)

theorem fin_of_key {x : Nat} (h : nn x) (h1 : key x < 2139095040) (h2 : -2139095040 < key x) : fin x := by
  unfold fin; unfold nn at h; unfold key sg at h1 h2; split at h1 <;> split at h2 <;> simp_all <;> omega
theorem fin_key {x : Nat} (h : fin x) : key x < 2139095040 ∧ -2139095040 < key x := by
  unfold fin at h; unfold key sg; split <;> omega
theorem nn_key {x : Nat} (h : nn x) : key x ≤ 2139095040 ∧ -2139095040 ≤ key x := by
  unfold nn at h; unfold key sg; split <;> omega
theorem F0_of_le {x y : Nat} (h : P0 x) (hy : fin y) (hl : key x ≤ key y) : F0 x :=
  ⟨fin_of_key h.1 (by have := fin_key hy; omega) (by have := h.2; omega), h.2⟩
theorem inf_of {x : Nat} (h : P0 x) (hf : ¬ fin x) : rung x = 2139095040 ∧ sgn x = false := by
  have h1 := h.1; have h2 := h.2
  unfold fin at hf; unfold nn at h1
  have e : rung x = 2139095040 := by omega
  refine ⟨e, ?_⟩
  unfold key at h2; rw [e] at h2
  cases hs : sgn x
  · rfl
  · rw [hs] at h2; simp [sg] at h2

theorem write_inf (s : Bool) : S.write (.infinity s) = S.word s 2139095040 := rfl

theorem add_inf_left {x y : Nat} (hx : P0 x) (hf : ¬ fin x) (hy : P0 y) : S.add x y = some 2139095040 := by
  obtain ⟨e, s⟩ := inf_of hx hf
  unfold Format.add
  rw [read_inf e, s]
  by_cases fy : fin y
  · obtain ⟨n, q, e', _⟩ := read_fin fy
    rw [e']; rfl
  · obtain ⟨e', s'⟩ := inf_of hy fy
    rw [read_inf e', s']; rfl
theorem add_inf_right {x y : Nat} (hx : P0 x) (hy : P0 y) (hf : ¬ fin y) : S.add x y = some 2139095040 := by
  obtain ⟨e, s⟩ := inf_of hy hf
  unfold Format.add
  rw [read_inf e, s]
  by_cases fx : fin x
  · obtain ⟨n, q, e', _⟩ := read_fin fx
    rw [e']; rfl
  · obtain ⟨e', s'⟩ := inf_of hx fx
    rw [read_inf e', s']; rfl

theorem key_inf : key 2139095040 = 2139095040 := by decide

theorem add_P0 {x y : Nat} (hx : P0 x) (hy : P0 y) : AddOk x y ∧ P0 (fadd x y) ∧ key x ≤ key (fadd x y) ∧ key y ≤ key (fadd x y) := by
  by_cases fx : fin x
  · by_cases fy : fin y
    · obtain ⟨ok, k, n⟩ := add_fin fx fy
      have vx := (V_nonneg fx).2 hx.2
      have vy := (V_nonneg fy).2 hy.2
      have a1 := KR_mono (-149) (show V x ≤ V x + V y by omega)
      have a2 := KR_mono (-149) (show V y ≤ V x + V y by omega)
      rw [KR_V fx] at a1; rw [KR_V fy] at a2
      refine ⟨ok, ⟨n, ?_⟩, ?_, ?_⟩ <;> rw [k]
      · have := hx.2; omega
      · exact a1
      · exact a2
    · have e := add_inf_right hx hy fy
      have e' : fadd x y = 2139095040 := by unfold fadd; rw [e]; rfl
      rw [e', P0, key_inf]
      exact ⟨⟨_, e⟩, ⟨by decide, by decide⟩, (nn_key hx.1).1, (nn_key hy.1).1⟩
  · have e := add_inf_left hx fx hy
    have e' : fadd x y = 2139095040 := by unfold fadd; rw [e]; rfl
    rw [e', P0, key_inf]
    exact ⟨⟨_, e⟩, ⟨by decide, by decide⟩, (nn_key hx.1).1, (nn_key hy.1).1⟩

theorem add_mono {x y x' y' : Nat} (hx : P0 x) (hy : P0 y) (hx' : P0 x') (hy' : P0 y') (h : key x ≤ key x') (k : key y ≤ key y') : key (fadd x y) ≤ key (fadd x' y') := by
  by_cases fx : fin x'
  · by_cases fy : fin y'
    · have gx := (F0_of_le hx fx h).1
      have gy := (F0_of_le hy fy k).1
      rw [(add_fin gx gy).2.1, (add_fin fx fy).2.1]
      exact KR_mono _ (by have := (V_le gx fx).2 h; have := (V_le gy fy).2 k; omega)
    · have e' : fadd x' y' = 2139095040 := by unfold fadd; rw [add_inf_right hx' hy' fy]; rfl
      rw [e', key_inf]; exact (nn_key (add_P0 hx hy).2.1.1).1
  · have e' : fadd x' y' = 2139095040 := by unfold fadd; rw [add_inf_left hx' fx hy']; rfl
    rw [e', key_inf]; exact (nn_key (add_P0 hx hy).2.1.1).1

/-- A difference of finite numbers, the lesser one behind: from 0 to the greater one. -/
theorem sub_F0 {x y : Nat} (hx : F0 x) (hy : F0 y) (h : key y ≤ key x) : SubOk x y ∧ F0 (fsub x y) ∧ key (fsub x y) ≤ key x := by
  obtain ⟨ok, k, n⟩ := sub_fin hx.1 hy.1
  have vy := (V_nonneg hy.1).2 hy.2
  have vl := (V_le hy.1 hx.1).2 h
  have a1 := KR_mono (-149) (show V x - V y ≤ V x by omega)
  have a2 := KR_mono (-149) (show 0 ≤ V x - V y by omega)
  rw [KR_V hx.1] at a1; rw [KR_zero] at a2
  have p : P0 (fsub x y) := ⟨n, by rw [k]; exact a2⟩
  exact ⟨ok, F0_of_le p hx.1 (by rw [k]; exact a1), by rw [k]; exact a1⟩

theorem sub_mono {x y x' y' : Nat} (hx : fin x) (hy : fin y) (hx' : fin x') (hy' : fin y') (h : key x ≤ key x') (k : key y' ≤ key y) : key (fsub x y) ≤ key (fsub x' y') := by
  rw [(sub_fin hx hy).2.1, (sub_fin hx' hy').2.1]
  exact KR_mono _ (by have := (V_le hx hx').2 h; have := (V_le hy' hy).2 k; omega)

theorem mul_F0 {x y : Nat} (hx : F0 x) (hy : F0 y) : MulOk x y ∧ P0 (fmul x y) := by
  obtain ⟨ok, k, n⟩ := mul_fin hx.1 hy.1
  have vx := (V_nonneg hx.1).2 hx.2
  have vy := (V_nonneg hy.1).2 hy.2
  have := KR_mono (-298) (Int.mul_nonneg vx vy)
  rw [KR_zero] at this
  exact ⟨ok, n, by rw [k]; exact this⟩

theorem mul_mono {x y x' y' : Nat} (hx : F0 x) (hy : F0 y) (hx' : F0 x') (hy' : F0 y') (h : key x ≤ key x') (k : key y ≤ key y') : key (fmul x y) ≤ key (fmul x' y') := by
  rw [(mul_fin hx.1 hy.1).2.1, (mul_fin hx'.1 hy'.1).2.1]
  have vx := (V_nonneg hx.1).2 hx.2
  have vy' := (V_nonneg hy'.1).2 hy'.2
  refine KR_mono _ (Int.le_trans (Int.mul_le_mul_of_nonneg_left ((V_le hy.1 hy'.1).2 k) vx) (Int.mul_le_mul_of_nonneg_right ((V_le hx.1 hx'.1).2 h) vy'))

theorem V_one : V 1065353216 = 2 ^ 149 := by decide

/-- A product with a part is no greater. -/
theorem mul_part {x y : Nat} (hx : F0 x) (hy : F0 y) (h : key y ≤ key 1065353216) : MulOk x y ∧ F0 (fmul x y) ∧ key (fmul x y) ≤ key x := by
  obtain ⟨ok, p⟩ := mul_F0 hx hy
  have k := (mul_fin hx.1 hy.1).2.1
  have vx := (V_nonneg hx.1).2 hx.2
  have vy := (V_le hy.1 (by decide)).2 h
  rw [V_one] at vy
  have le : key (fmul x y) ≤ key x := by
    rw [k]
    have a := KR_mono (-298) (Int.mul_le_mul_of_nonneg_left vy vx)
    have e := KR_scale (-298) (V x) 149
    rw [e, show (-298 + ((149 : Nat) : Int)) = -149 from rfl, KR_V hx.1] at a
    exact a
  exact ⟨ok, F0_of_le p hx.1 le, le⟩

theorem sgn_of_pos {x : Nat} (h : 0 < key x) : sgn x = false := by
  unfold key at h; cases hs : sgn x
  · rfl
  · rw [hs] at h; simp [sg] at h; omega

theorem rung_of {x : Nat} (h : 0 ≤ key x) : (rung x : Int) = key x := by
  unfold key at *; cases hs : sgn x
  · rw [hs] at h; rfl
  · rw [hs] at h; simp [sg] at h ⊢; omega

/-- A quotient by a number greater than 0: at least 0, and monotone. -/
theorem div_F0 {x y : Nat} (hx : F0 x) (hy : fin y) (h : 0 < key y) : DivOk x y ∧ P0 (fdiv x y) := by
  obtain ⟨ok, k, n⟩ := div_fin hx.1 hy (by omega)
  refine ⟨ok, n, ?_⟩
  rw [k, sgn_of_pos h]
  by_cases z : key x = 0
  · have : rung x = 0 := by have := rung_of hx.2; omega
    rw [this, MAG_zero, Q_zero]; cases sgn x <;> simp [sg]
  · rw [sgn_of_pos (by have := hx.2; omega)]; simp [sg]

theorem key_div_pos {x y : Nat} (hx : F0 x) (hy : fin y) (h : 0 < key y) : key (fdiv x y) = Q (MAG (rung x)) (MAG (rung y)) := by
  rw [(div_fin hx.1 hy (by omega)).2.1, sgn_of_pos h]
  by_cases z : key x = 0
  · have : rung x = 0 := by have := rung_of hx.2; omega
    rw [this, MAG_zero, Q_zero]; cases sgn x <;> simp [sg]
  · rw [sgn_of_pos (by have := hx.2; omega)]; simp [sg]

theorem MAG_pos {x : Nat} (h : fin x) (h0 : 0 < key x) : 0 < MAG (rung x) := by
  have a := rung_of (Int.le_of_lt h0)
  have := MAG_le (b := 0) h (by omega)
  rw [MAG_zero] at this
  omega

/-- The key of a quotient by a number greater than 0, whatever the sign of the dividend. -/
theorem key_div {x y : Nat} (hx : fin x) (hy : fin y) (h : 0 < key y) : key (fdiv x y) = sg (sgn x) (Q (MAG (rung x)) (MAG (rung y))) := by
  rw [(div_fin hx hy (by omega)).2.1, sgn_of_pos h, Bool.xor_false]

theorem div_mono {x x' y : Nat} (hx : fin x) (hx' : fin x') (hy : fin y) (h : 0 < key y) (k : key x ≤ key x') : key (fdiv x y) ≤ key (fdiv x' y) := by
  rw [key_div hx hy h, key_div hx' hy h]
  unfold key at k
  cases s : sgn x <;> cases s' : sgn x' <;> simp only [s, s', sg, if_true, if_false, Bool.false_eq_true] at k ⊢
  · have := Q_mono (b := MAG (rung y)) ((MAG_le hx hx').2 (by omega)); omega
  · have e1 : rung x = 0 := by omega
    have e2 : rung x' = 0 := by omega
    rw [e1, e2, MAG_zero, Q_zero]; simp
  · omega
  · have := Q_mono (b := MAG (rung y)) ((MAG_le hx' hx).2 (by omega)); omega

end Go.Proofs.Ytdncopphjamilaa.Fl
