/- What the law on keepers asks, in plain: hours that are out, days, lengths. -/
import Derived.Test.YtdncopphjamilaaDb
import Derived.Test.YtdncopphjamilaaGk
import Derived.Test.YtdncopphjamilaaGf
import Derived.Test.YtdncopphjamilaaKv
import Derived.Test.YtdncopphjamilaaW1
namespace Go.Proofs.Ytdncopphjamilaa.Vx
open Go Go.RowKit Fl
set_option linter.unusedSimpArgs false
set_option linter.unusedVariables false

/-! ### hours that are out -/
/-- Is it out behind so many hours. -/
def ohO (hold calm : Nat) (wait : Int) (x : Nat → Nat) (k : Nat) : Bool := (oh hold calm wait x k).1
theorem oh_bits (hold calm : Nat) (wait : Int) (x : Nat → Nat) : ∀ k, (oh hold calm wait x k).2.2 = Hd.hBits (fun j => ohO hold calm wait x (j + 1)) k
  | 0 => rfl
  | k + 1 => by
    have ih := oh_bits hold calm wait x k
    have e : ohO hold calm wait x (k + 1) = if (oh hold calm wait x k).1 then !flt hold (x k) else (flt (x k) calm && decide ((oh hold calm wait x k).2.1 + 1 = wait)) := rfl
    simp only [Hd.hBits, e, ← ih]
    rfl
theorem oh_bit (hold calm : Nat) (wait : Int) (x : Nat → Nat) {h : Nat} (hh : h < 24) : decide (bitI .and .u32 (shrI .u32 (oh hold calm wait x 24).2.2 h) 1 = 1) = ohO hold calm wait x (h + 1) := by
  rw [oh_bits, Hd.hBit_at _ hh]
theorem oh_top (hold calm : Nat) (wait : Int) (x : Nat → Nat) : 0 ≤ (oh hold calm wait x 24).2.2 ∧ (oh hold calm wait x 24).2.2 < 16777216 := by
  rw [oh_bits, Hd.hBits_n _ 24 (by omega)]
  have := nBits_lt (fun j => ohO hold calm wait x (j + 1)) 24
  have e : 2 ^ 24 = 16777216 := by decide
  omega
theorem ohO_zero (hold calm : Nat) (wait : Int) (x : Nat → Nat) : ohO hold calm wait x 0 = true := rfl
theorem ohO_out {hold calm : Nat} {wait : Int} {x : Nat → Nat} {k : Nat} (h : ohO hold calm wait x k = true) (hh : nn hold) (hx : nn (x k)) : ohO hold calm wait x (k + 1) = fle (x k) hold := by
  show (if (oh hold calm wait x k).1 then !flt hold (x k) else _) = _
  rw [if_pos (show (oh hold calm wait x k).1 = true from h), flt_iff hh hx, fle_iff hx hh, Bool.eq_iff_iff]; simp
/-- The calm hours that are counted. -/
theorem oh_calm {hold calm : Nat} {wait : Int} {x : Nat → Nat} : ∀ k, ohO hold calm wait x k = false → 0 ≤ (oh hold calm wait x k).2.1 ∧ ∀ w : Nat, 1 ≤ w → (w : Int) ≤ (oh hold calm wait x k).2.1 → w ≤ k ∧ flt (x (k - w)) calm = true ∧ ohO hold calm wait x (k - w + 1) = false
  | 0, h => by cases h
  | k + 1, h => by
    have e2 : (oh hold calm wait x (k + 1)).2.1 = if (oh hold calm wait x k).1 then 0 else if flt (x k) calm then (oh hold calm wait x k).2.1 + 1 else 0 := rfl
    rw [e2]
    by_cases c : (oh hold calm wait x k).1 = true
    · rw [if_pos c]
      exact ⟨by omega, fun w h1 h2 => by omega⟩
    · rw [if_neg c]
      have ih := oh_calm (hold := hold) (calm := calm) (wait := wait) (x := x) k (Bool.eq_false_iff.2 c)
      by_cases d : flt (x k) calm = true
      · rw [if_pos d]
        refine ⟨by omega, fun w h1 h2 => ?_⟩
        by_cases q : w = 1
        · subst q; exact ⟨by omega, by simpa using d, by simpa using h⟩
        · have := ih.2 (w - 1) (by omega) (by omega)
          have e : k + 1 - w = k - (w - 1) := by omega
          rw [e]; exact ⟨by omega, this.2⟩
      · rw [if_neg d]
        exact ⟨by omega, fun w h1 h2 => by omega⟩
theorem oh_back {hold calm : Nat} {wait : Int} {x : Nat → Nat} {k : Nat} (h : ohO hold calm wait x k = false) (h2 : ohO hold calm wait x (k + 1) = true) (w : Nat) (hw : (w : Int) < wait) :
    w ≤ k ∧ flt (x (k - w)) calm = true ∧ (0 < w → ohO hold calm wait x (k - w + 1) = false) := by
  have e : ohO hold calm wait x (k + 1) = if (oh hold calm wait x k).1 then !flt hold (x k) else (flt (x k) calm && decide ((oh hold calm wait x k).2.1 + 1 = wait)) := rfl
  rw [e, if_neg (by rw [show (oh hold calm wait x k).1 = false from h]; simp)] at h2
  simp only [Bool.and_eq_true, decide_eq_true_eq] at h2
  by_cases q : w = 0
  · subst q; exact ⟨by omega, by simpa using h2.1, by omega⟩
  · have := (oh_calm k h).2 w (by omega) (by omega)
    exact ⟨this.1, this.2.1, fun _ => this.2.2⟩

/-! ### keepers that are drawn -/
theorem fine_of {x t : Nat} (h : F0 x) (hk : key x ≤ key 1233125376) : isFineF x = true := by
  have n := h.1.nn
  have z : key 0 = 0 := by decide
  have l : key 3380609024 ≤ 0 := by decide
  have p := h.2
  unfold isFineF isPlain btw
  rw [fle_of (by decide) n (by omega), fle_of n (by decide) hk, fle_of (by decide) n (by omega)]; rfl
theorem gst_fine {x : Nat} (h : Gst x) : isFineF x = true := fine_of (t := 0) h.1 (Int.le_trans h.2 (by decide))
theorem fineA_of {x : Nat → Nat} : ∀ n, (∀ j, j < n → Gst (x j)) → fineA x n = true := fun n h => by
  unfold fineA
  rw [List.all_eq_true]
  intro j hj
  exact gst_fine (h j (by simpa using hj))
def half (b : Int) : Nat := fdiv (fofInt b) 1073741824
theorem half_ok {b : Int} (h0 : 0 ≤ b) (h1 : b < 8) : DivOk (fofInt b) 1073741824 ∧ F0 (half b) ∧ key (half b) ≤ key 1080033280 :=
  quo_ok (m := 7) h0 (by omega) (by omega) (by decide) (by decide) (by decide) (by decide)
theorem hold_ok {b c : Int} (h0 : 0 ≤ b ∧ b < 8) (h1 : 0 ≤ c ∧ c < 8) : AddOk (half b) (half c) ∧ F0 (fadd (half b) (half c)) ∧ key (fadd (half b) (half c)) ≤ key 1088421888 ∧ key (half b) ≤ key (fadd (half b) (half c)) := by
  obtain ⟨_, a1, a2⟩ := half_ok h0.1 h0.2
  obtain ⟨_, b1, b2⟩ := half_ok h1.1 h1.2
  have p7 : P0 1080033280 := ⟨by decide, by decide⟩
  obtain ⟨s1, s2, s3, s4⟩ := add_P0 a1.p b1.p
  have k := add_mono a1.p b1.p p7 p7 a2 b2
  have e : key (fadd 1080033280 1080033280) = key 1088421888 := by decide
  rw [e] at k
  exact ⟨s1, F0_of_le s2 (by decide) k, k, s3⟩
theorem kpr_ok {b c w : Int} (h0 : 0 ≤ b ∧ b < 8) (h1 : 0 ≤ c ∧ c < 8) (h2 : 0 ≤ w ∧ w < 4) : vKpr (fadd (half b) (half c)) (half b) (1 + w) = true := by
  obtain ⟨_, a1, a2⟩ := half_ok h0.1 h0.2
  obtain ⟨_, s2, s3, s4⟩ := hold_ok h0 h1
  unfold vKpr
  rw [fine_of (t := 0) s2 (Int.le_trans s3 (by decide)), fine_of (t := 0) a1 (Int.le_trans a2 (by decide)), fle_of a1.1.nn s2.1.nn s4]
  simp only [Bool.true_and, inn_true]; omega

/-! ### days -/
theorem sumF_mono {V V' : Nat → Nat} : ∀ n, (∀ k, k < n → P0 (V k) ∧ P0 (V' k) ∧ key (V k) ≤ key (V' k)) → key (sumF V n) ≤ key (sumF V' n)
  | 0, _ => Int.le_refl _
  | n + 1, h => by
    have a := sumF_P0 (V := V) n fun k hk => (h k (by omega)).1
    have b := sumF_P0 (V := V') n fun k hk => (h k (by omega)).2.1
    obtain ⟨h1, h2, h3⟩ := h n (by omega)
    exact add_mono a h1 b h2 (sumF_mono n fun k hk => h k (by omega)) h3
theorem beh_le {x : Nat → Int} {t : Nat} {a : Int} {o d g l : Nat} (hv : vSun x = true) (ht : t < 24) (hw : vAwning o d g l = true) : key (behindF x t a o d g l) ≤ key (fallF x t a) := by
  have hF := fall_F0 (a := a) hv ht
  have hP := part_F0 (x := x) (t := t) (a := a) fun h => partOk_of hv ht hw h
  have hm := mul_part hF.1 hP.1 hP.2
  exact (sub_F0 hF.1 hm.2.1 hm.2.2).2.2
theorem day_le_gusty {x : Nat → Int} {a : Int} {o d g l : Nat} {out : Int} (hv : vSun x = true) (hw : vAwning o d g l = true) : key (dayF x a o d g l) ≤ key (sumF (gustV x a o d g l out) 24) :=
  sumF_mono 24 fun k hk => ⟨(behOk_of hv hk hw).2.1.p, gustV_P0 hv hw hk, by
    unfold gustV; split
    · exact Int.le_refl _
    · exact beh_le hv hk hw⟩
def fallDay (x : Nat → Int) (a : Int) : Nat := sumF (fun k => fallF x k a) 24
theorem gusty_le_fall {x : Nat → Int} {a : Int} {o d g l : Nat} {out : Int} (hv : vSun x = true) (hw : vAwning o d g l = true) : key (sumF (gustV x a o d g l out) 24) ≤ key (fallDay x a) :=
  sumF_mono 24 fun k hk => ⟨gustV_P0 hv hw hk, (fall_F0 hv hk).1.p, by
    unfold gustV; split
    · exact beh_le hv hk hw
    · exact Int.le_refl _⟩
theorem bits_off : ∀ k, k < 24 → bitOn 0 k = false := by decide
theorem gusty_none (x : Nat → Int) (a : Int) (o d g l : Nat) : sumF (gustV x a o d g l 0) 24 = fallDay x a :=
  sumF_congr 24 fun k hk => by simp only [gustV, bits_off k hk, Bool.false_eq_true, if_false]
theorem day_P0 {x : Nat → Int} {a : Int} {o d g l : Nat} (hv : vSun x = true) (hw : vAwning o d g l = true) : P0 (dayF x a o d g l) := sumF_P0 24 fun k hk => (behOk_of hv hk hw).2.1.p
theorem gusty_P0 {x : Nat → Int} {a : Int} {o d g l : Nat} {out : Int} (hv : vSun x = true) (hw : vAwning o d g l = true) : P0 (sumF (gustV x a o d g l out) 24) := sumF_P0 24 fun k hk => gustV_P0 hv hw hk
theorem fallDay_P0 {x : Nat → Int} {a : Int} (hv : vSun x = true) : P0 (fallDay x a) := sumF_P0 24 fun k hk => (fall_F0 hv hk).1.p
theorem sameF_self {a : Nat} (h : nn a) : sameF a a = true := by
  have : feq a a = true := by rw [feq_self]; exact decide_eq_true h
  simp [sameF, this]

/-! ### hidden hours -/
theorem any_up {ts : Nat → Hd.Tr} {x : Nat → Int} {h n : Nat} (a : Hd.anyT ts x h n = true) : 0 < x h := by
  unfold Hd.anyT at a
  rw [List.any_eq_true] at a
  obtain ⟨i, _, hi⟩ := a
  unfold Hd.Tr.hides at hi
  simp only [Bool.and_eq_true, decide_eq_true_eq] at hi
  exact hi.1.1
theorem bareX_ok {g : Nat → Bool} {x : Nat → Int} (h : SunI x 24) : vSun (Hd.bareX g x 24) = true ∧ Small (Hd.bareX g x 24) := by
  refine ⟨?_, fun j => ?_⟩
  · unfold vSun
    rw [List.all_eq_true]
    intro j hj
    have hj : j < 24 := by simpa using hj
    have a := h.1 j
    have b := h.1 (24 + j)
    have c := h.2 j hj
    simp only [sunH, Bool.and_eq_true, inn_true]
    unfold Hd.bareX
    rw [if_neg (show ¬ (24 + j < 24 ∧ g (24 + j) = true) by omega)]
    split <;> omega
  · have := h.1 j
    unfold Hd.bareX; split <;> omega
theorem tre_of {n : Nat} {f : Nat → List FV} (h : TreAt n f) : ∃ ts : Nat → Hd.Tr, (∀ i, i < n → f i = (ts i).row) ∧ (∀ i, i < n → (ts i).sm) ∧ Hd.allTr ts n = true := by
  have : ∀ i, ∃ t : Hd.Tr, i < n → f i = t.row ∧ t.sm ∧ t.ok = true := fun i => by
    by_cases q : i < n
    · obtain ⟨t, ht⟩ := h i q; exact ⟨t, fun _ => ht⟩
    · exact ⟨⟨0, 0, 0⟩, fun c => absurd c q⟩
  refine ⟨fun i => (this i).choose, fun i hi => ((this i).choose_spec hi).1, fun i hi => ((this i).choose_spec hi).2.1, ?_⟩
  unfold Hd.allTr
  rw [List.all_eq_true]
  intro i hi
  exact ((this i).choose_spec (by simpa using hi)).2.2

/-! ### lengths -/
def bndF (b : Int) : Nat := fmul 1082130432 (fadd 1065353216 (half b))
def bndB (b : Nat) : Bool := (S.add 1065353216 (half b)).isSome && (S.mul 1082130432 (fadd 1065353216 (half b))).isSome && isFineF (bndF b)
theorem bnd_all : (List.range 8).all bndB = true := by decide +kernel
theorem bnd_ok {b : Int} (h0 : 0 ≤ b) (h1 : b < 8) : AddOk 1065353216 (half b) ∧ MulOk 1082130432 (fadd 1065353216 (half b)) ∧ isFineF (bndF b) = true := by
  have := List.all_eq_true.1 bnd_all b.toNat (by simp; omega)
  simp only [bndB, Bool.and_eq_true] at this
  rw [show ((b.toNat : Nat) : Int) = b by omega] at this
  obtain ⟨⟨a, c⟩, d⟩ := this
  exact ⟨Option.isSome_iff_exists.1 a, Option.isSome_iff_exists.1 c, d⟩
def nextB (n : Nat) : Bool := (S.add (eighth n) 1040187392).isSome && fmn 1090519040 (fadd (eighth n) 1040187392) == eighth (n + 1) && vAwning (eighth (n + 1)) 0 0 1065353216 && vAwning (eighth n) 0 0 1065353216
theorem next_all : (List.range 64).all nextB = true := by decide +kernel
theorem next_ok {n : Nat} (h : n < 64) : AddOk (eighth n) 1040187392 ∧ fmn 1090519040 (fadd (eighth n) 1040187392) = eighth (n + 1) ∧ vAwning (eighth (n + 1)) 0 0 1065353216 = true ∧ vAwning (eighth n) 0 0 1065353216 = true := by
  have := List.all_eq_true.1 next_all n (by simpa using h)
  simp only [nextB, Bool.and_eq_true, beq_iff_eq] at this
  obtain ⟨⟨⟨a, b⟩, c⟩, d⟩ := this
  exact ⟨Option.isSome_iff_exists.1 a, b, c, d⟩
theorem last_ok : AddOk (eighth 64) 1040187392 ∧ fmn 1090519040 (fadd (eighth 64) 1040187392) = 1090519040 ∧ eighth 64 = 1090519040 ∧ vAwning 1090519040 0 0 1065353216 = true := by
  refine ⟨Option.isSome_iff_exists.1 (by decide +kernel), by decide +kernel, by decide +kernel, by decide +kernel⟩
theorem eighth_zero : eighth 0 = 0 := by decide +kernel
/-- The longest: so many eighths; they are not too many, one more would be. -/
theorem longest_at (g b : Nat) (hg : F0 g) (hb : F0 b) : ∀ n, n ≤ 64 → ∃ k, k ≤ n ∧ longest g b n = eighth k ∧ fle (strainF (eighth k) g) b = true ∧ ∀ j, k < j → j ≤ n → fle (strainF (eighth j) g) b = false
  | 0, _ => by
    refine ⟨0, Nat.le_refl _, by rw [eighth_zero]; rfl, ?_, fun j h1 h2 => by omega⟩
    have z : F0 0 := ⟨by decide, by decide⟩
    obtain ⟨m1, p1⟩ := mul_F0 z z
    have e : fmul 0 0 = 0 := by decide
    obtain ⟨m2, p2⟩ := mul_F0 z hg
    have hk := mul_mono z hg (show F0 0 from z) hg (Int.le_refl _) (Int.le_refl _)
    rw [eighth_zero]
    unfold strainF
    rw [e]
    obtain ⟨_, k1, n1⟩ := mul_fin z.1 hg.1
    have k0 : key (fmul 0 g) = 0 := by rw [k1, V_zero, Int.zero_mul, KR_zero]
    exact fle_of n1 hb.1.nn (by rw [k0]; exact hb.2)
  | n + 1, h => by
    obtain ⟨k, h1, h2, h3, h4⟩ := longest_at g b hg hb n (by omega)
    unfold longest
    by_cases c : fle (strainF (eighth (n + 1)) g) b = true
    · rw [if_pos c]
      exact ⟨n + 1, Nat.le_refl _, rfl, c, fun j a b => by omega⟩
    · rw [if_neg c]
      refine ⟨k, by omega, h2, h3, fun j a q => ?_⟩
      by_cases e : j = n + 1
      · subst e; simpa using c
      · exact h4 j a (by omega)
end Go.Proofs.Ytdncopphjamilaa.Vx
