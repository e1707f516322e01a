/- Blinds: what passes of light; all that it goes through is a number. Plain law. -/
import Derived.Test.YtggamjjgdahaaacGe
import Derived.Test.YtggamjjgdahaaacS
namespace Go.Proofs.Ytggamjjgdahaaac.Vx
open Go Go.RowKit Fl
set_option maxRecDepth 100000
set_option linter.unusedSimpArgs false
set_option linter.unusedVariables false

/-- The size of a number. -/
def sizF (a : Nat) : Nat := if flt a 0 then fsub 0 a else a
def blkF (w g : Nat) (t h : Int) : Nat := if feq (cosF h) 0 then 1065353216 else fmn (fdiv (fmul w (sizF (sineF (h + t)))) (fmul g (cosF h))) 1065353216
def opnF (w g : Nat) (t h : Int) : Nat := fsub 1065353216 (blkF w g t h)
def passF (w g : Nat) (t : Int) (s : Nat) (h : Int) : Nat := fadd (opnF w g t h) (fdiv (fmul (fmul (blkF w g t h) s) (opnF w g t 1)) 1073741824)
def isLen (a : Nat) : Bool := btw a 1031798784 1115684864
def vBlind (n : Int) (w g : Nat) (t : Int) (s : Nat) : Bool := inn n 1 60 && isLen w && isLen g && inn t (-64) 64 && isPart s
theorem key_1 : key 1065353216 = 1065353216 := by decide
theorem key_z : key 0 = 0 := by decide
theorem neg_nums {a : Nat} (h : flt a 0 = true) (hf : fin a) : SubOk 0 a ∧ F0 (fsub 0 a) ∧ key (fsub 0 a) = -(key a) := by
  have hk := (flt_key h).2.2
  rw [key_z] at hk
  obtain ⟨h1, h2, h3⟩ := sub_fin (x := 0) (y := a) (by decide) hf
  have e : key (fsub 0 a) = -(key a) := by
    rw [h2, V_zero, Int.zero_sub]
    have := KR_V hf
    unfold KR at this ⊢
    have hv : V a < 0 := by
      have := (V_nonneg hf)
      omega
    rw [if_pos hv] at this
    rw [if_neg (by omega), Int.natAbs_neg]
    omega
  refine ⟨h1, ⟨?_, by omega⟩, e⟩
  have := fin_key hf
  exact fin_of_key h3 (by omega) (by omega)
theorem xor_top {r : Nat} (h : r < 2 ^ 31) : (2 ^ 31 + r) ^^^ 2 ^ 31 = r := by
  apply Nat.eq_of_testBit_eq
  intro i
  rw [Nat.testBit_xor, Nat.testBit_two_pow]
  rcases Nat.lt_trichotomy i 31 with c | c | c
  · rw [Nat.testBit_two_pow_add_gt c, decide_eq_false (by omega)]; simp
  · subst c
    rw [Nat.testBit_two_pow_add_eq, Nat.testBit_lt_two_pow h]; rfl
  · have h1 : 2 ^ 31 + r < 2 ^ i := by
      have : 2 ^ 32 ≤ 2 ^ i := Nat.pow_le_pow_right (by decide) c
      omega
    have h2 : r < 2 ^ i := by omega
    rw [Nat.testBit_lt_two_pow h1, Nat.testBit_lt_two_pow h2, decide_eq_false (by omega)]; rfl
theorem fneg_eq {a : Nat} (h : flt a 0 = true) (hf : fin a) (hl : a < 4294967296) : fneg a = fsub 0 a := by
  have hk := (flt_key h).2.2
  rw [key_z] at hk
  obtain ⟨_, h2, h3⟩ := neg_nums h hf
  have hs : sgn a = true := by
    cases e : sgn a
    · unfold key at hk; rw [e] at hk; simp [sg] at hk; omega
    · rfl
  have hr : fneg a = rung a := by
    have e : fneg a = a ^^^ 2 ^ 31 := rfl
    rw [e]
    have h1 : 2 ^ 31 ≤ a := by
      unfold sgn at hs
      have : a / 2147483648 % 2 = 1 := by simpa using hs
      omega
    have e2 : a = 2 ^ 31 + (a - 2 ^ 31) := by omega
    have e3 : rung a = a - 2 ^ 31 := by unfold rung; omega
    rw [e3]
    generalize hr : a - 2 ^ 31 = r at *
    rw [e2]
    exact xor_top (by omega)
  refine word_of_key ?_ fsub_lt ?_ ?_
  · rw [hr]; unfold rung; omega
  · rw [h3, hr]
    have : key (rung a) = rung a := by
      unfold key
      have h4 : rung a < 2139095040 := hf
      have : sgn (rung a) = false := by unfold sgn; simp; omega
      rw [this]
      have : rung (rung a) = rung a := by unfold rung; omega
      rw [this]; rfl
    rw [this]
    unfold key; rw [hs]; simp [sg]
  · rw [hr]
    have : key (rung a) = rung a := by
      unfold key
      have h4 : rung a < 2139095040 := hf
      have : sgn (rung a) = false := by unfold sgn; simp; omega
      rw [this]
      have : rung (rung a) = rung a := by unfold rung; omega
      rw [this]; rfl
    rw [this]
    have : key a = -(rung a : Int) := by unfold key; rw [hs]; rfl
    omega
theorem siz_ok {a : Nat} (hf : fin a) (h1 : -(key 1065353216) ≤ key a) (h2 : key a ≤ key 1065353216) : F0 (sizF a) ∧ key (sizF a) ≤ key 1065353216 := by
  unfold sizF
  split
  · rename_i h
    obtain ⟨_, h3, h4⟩ := neg_nums h hf
    exact ⟨h3, by omega⟩
  · rename_i h
    have := flt_not hf.nn (y := 0) (by decide) (by simpa using h)
    rw [key_z] at this
    exact ⟨⟨hf, this⟩, h2⟩
theorem fmn_sw {q : Nat} (hn : nn q) (hl : q < 4294967296) : fmn q 1065353216 = if flt 1065353216 q then 1065353216 else q := by
  unfold fmn
  cases d : flt 1065353216 q
  · cases e : flt q 1065353216
    · have h1 := flt_not (by decide) hn d
      have h2 := flt_not hn (by decide) e
      have : q = 1065353216 := word_of_key hl (by decide) (by omega) (by rw [Int.le_antisymm h1 h2]; decide)
      subst this; decide
    · simp
  · have h1 := flt_key d
    have : flt q 1065353216 = false := by
      rw [flt_iff hn (by decide)]; simp only [decide_eq_false_iff_not]; omega
    simp [this]
theorem cos_low {h : Int} (h1 : 1 ≤ h) (h2 : h ≤ 64) : feq (cosF h) 0 = false → F0 (cosF h) ∧ key 1019804380 ≤ key (cosF h) ∧ key (cosF h) ≤ key 1065353216 := fun hc => by
  obtain ⟨n, rfl⟩ : ∃ n : Nat, h = n := ⟨h.toNat, by omega⟩
  rw [cos_up (by omega)] at hc ⊢
  by_cases e : n = 64
  · subst e
    rw [show 64 - 64 = 0 from rfl, quart_zero] at hc
    simp [show feq 0 0 = true by decide +kernel] at hc
  · have := quart_F0 (n := 64 - n) (by omega)
    exact ⟨this.1, one_le (by omega) (by omega), this.2⟩
/-- All that the blocked part goes through is a number. -/
structure BlkNum (w g : Nat) (t h : Int) : Prop where
  m1 : MulOk w (sizF (sineF (h + t)))
  m2 : MulOk g (cosF h)
  d : DivOk (fmul w (sizF (sineF (h + t)))) (fmul g (cosF h))
  n : nn (fdiv (fmul w (sizF (sineF (h + t)))) (fmul g (cosF h)))
theorem blk_num {w g : Nat} {t h : Int} (hw : isLen w = true) (hg : isLen g = true) (h1 : 1 ≤ h) (h2 : h ≤ 64) (hc : feq (cosF h) 0 = false) : BlkNum w g t h := by
  obtain ⟨c1, c2, c3⟩ := cos_low h1 h2 hc
  obtain ⟨w1, w2, w3⟩ := btw_P hw (by decide) (by decide)
  obtain ⟨g1, g2, g3⟩ := btw_P hg (by decide) (by decide)
  have l0 : 0 ≤ key 1031798784 := by decide
  obtain ⟨s1, s2⟩ := siz_ok (sineF_ok (h + t)).1 (sineF_ok (h + t)).2.1 (sineF_ok (h + t)).2.2
  have a1 := mul_part (x := w) ⟨w1, by omega⟩ s1 s2
  have a2 := mul_part (x := g) ⟨g1, by omega⟩ c1 c3
  have a3 := mul_mono (x := 1031798784) (y := 1019804380) (x' := g) (y' := cosF h) ⟨by decide, by decide⟩ ⟨by decide, by decide⟩ ⟨g1, by omega⟩ c1 g2 c2
  have a4 : 0 < key (fmul 1031798784 1019804380) := by decide +kernel
  have a5 := div_F0 a1.2.1 a2.2.1.1 (by omega)
  exact ⟨a1.1, a2.1, a5.1, a5.2.1⟩
theorem blk_F0 {w g : Nat} {t h : Int} (hw : isLen w = true) (hg : isLen g = true) (h1 : 1 ≤ h) (h2 : h ≤ 64) : F0 (blkF w g t h) ∧ key (blkF w g t h) ≤ key 1065353216 := by
  unfold blkF
  split
  · exact ⟨⟨by decide, by decide⟩, Int.le_refl _⟩
  · rename_i hc
    have hc' : feq (cosF h) 0 = false := by simpa using hc
    obtain ⟨c1, c2, c3⟩ := cos_low h1 h2 hc'
    obtain ⟨w1, w2, w3⟩ := btw_P hw (by decide) (by decide)
    obtain ⟨g1, g2, g3⟩ := btw_P hg (by decide) (by decide)
    have l0 : 0 ≤ key 1031798784 := by decide
    obtain ⟨s1, s2⟩ := siz_ok (sineF_ok (h + t)).1 (sineF_ok (h + t)).2.1 (sineF_ok (h + t)).2.2
    have a1 := mul_part (x := w) ⟨w1, by omega⟩ s1 s2
    have a2 := mul_part (x := g) ⟨g1, by omega⟩ c1 c3
    have a3 := mul_mono (x := 1031798784) (y := 1019804380) (x' := g) (y' := cosF h) ⟨by decide, by decide⟩ ⟨by decide, by decide⟩ ⟨g1, by omega⟩ c1 g2 c2
    have a4 : 0 < key (fmul 1031798784 1019804380) := by decide +kernel
    have a5 := div_F0 a1.2.1 a2.2.1.1 (by omega)
    rw [fmn_sw a5.2.1 fdiv_lt]
    split
    · exact ⟨⟨by decide, by decide⟩, Int.le_refl _⟩
    · rename_i hq
      have := flt_not (x := 1065353216) (by decide) a5.2.1 (by simpa using hq)
      exact ⟨F0_of_le a5.2 (by decide) this, this⟩
/-- All that what passes goes through is a number. -/
structure PassNum (w g : Nat) (t : Int) (s : Nat) (h : Int) : Prop where
  b0 : feq (cosF h) 0 = false → BlkNum w g t h
  b1 : feq (cosF 1) 0 = false → BlkNum w g t 1
  o1 : SubOk 1065353216 (blkF w g t h)
  o2 : SubOk 1065353216 (blkF w g t 1)
  m1 : MulOk (blkF w g t h) s
  m2 : MulOk (fmul (blkF w g t h) s) (opnF w g t 1)
  d : DivOk (fmul (fmul (blkF w g t h) s) (opnF w g t 1)) 1073741824
  a : AddOk (opnF w g t h) (fdiv (fmul (fmul (blkF w g t h) s) (opnF w g t 1)) 1073741824)
  f : F0 (passF w g t s h)
  l : key (passF w g t s h) ≤ key 1069547520
theorem pass_num {w g : Nat} {t : Int} {s : Nat} {h : Int} (hw : isLen w = true) (hg : isLen g = true) (hs : isPart s = true) (h1 : 1 ≤ h) (h2 : h ≤ 64) : PassNum w g t s h := by
  have one : F0 1065353216 := ⟨by decide, by decide⟩
  have b := blk_F0 (t := t) hw hg h1 h2
  have b' := blk_F0 (t := t) (h := 1) hw hg (by omega) (by omega)
  have o1 := sub_F0 one b.1 b.2
  have o2 := sub_F0 one b'.1 b'.2
  have p := isPart_F0 hs
  have m1 := mul_part b.1 p.1 p.2
  have m2 := mul_part m1.2.1 o2.2.1 o2.2.2
  have d := div_F0 m2.2.1 (y := 1073741824) (by decide) (by decide)
  have dm := div_mono (x' := 1065353216) (y := 1073741824) m2.2.1.1 (by decide) (by decide) (by decide) (by omega)
  have k1 : key (fdiv 1065353216 1073741824) = key 1056964608 := by decide +kernel
  rw [k1] at dm
  have a := add_P0 o1.2.1.p d.2
  have am := add_mono (x' := 1065353216) (y' := 1056964608) o1.2.1.p d.2 ⟨by decide, by decide⟩ ⟨by decide, by decide⟩ o1.2.2 dm
  have k2 : key (fadd 1065353216 1056964608) = key 1069547520 := by decide +kernel
  rw [k2] at am
  exact ⟨blk_num hw hg h1 h2, blk_num hw hg (by omega) (by omega), o1.1, o2.1, m1.1, m2.1, d.1, a.1, F0_of_le a.2.1 (by decide) am, am⟩
/-- The difference of what passes and of a part. -/
theorem off_num {p v : Nat} (hp : F0 p) (hl : key p ≤ key 1069547520) (hv : F0 v) (hv1 : key v ≤ key 1065353216) : SubOk p v ∧ fin (fsub p v) ∧ (flt (fsub p v) 0 = true → SubOk 0 (fsub p v)) ∧ F0 (sizF (fsub p v)) ∧ key (sizF (fsub p v)) ≤ key 1069547520 := by
  have h := sub_fin hp.1 hv.1
  have m1 := sub_mono (x' := 1069547520) (y' := 0) hp.1 hv.1 (by decide) (by decide) hl (by rw [key_z]; exact hv.2)
  have m2 := sub_mono (x := 0) (y := 1065353216) (x' := p) (y' := v) (by decide) (by decide) hp.1 hv.1 (by rw [key_z]; exact hp.2) hv1
  have k1 : key (fsub 1069547520 0) = key 1069547520 := by decide +kernel
  have k2 : key (fsub 0 1065353216) = -(key 1065353216) := by decide +kernel
  have k3 : key 1069547520 = 1069547520 := by decide
  have k4 : key 1065353216 = 1065353216 := by decide
  rw [k1] at m1
  rw [k2] at m2
  have hf : fin (fsub p v) := fin_of_key h.2.2 (by omega) (by omega)
  refine ⟨h.1, hf, fun hn => (neg_nums hn hf).1, ?_⟩
  unfold sizF
  split
  · rename_i hn
    obtain ⟨_, h3, h4⟩ := neg_nums hn hf
    exact ⟨h3, by omega⟩
  · rename_i hn
    have := flt_not hf.nn (y := 0) (by decide) (by simpa using hn)
    rw [key_z] at this
    exact ⟨⟨hf, this⟩, m1⟩
end Go.Proofs.Ytggamjjgdahaaac.Vx
