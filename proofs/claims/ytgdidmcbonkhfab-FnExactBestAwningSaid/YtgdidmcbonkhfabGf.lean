/- Awnings: all that the shaded part goes through is a number. Plain law. -/
import Derived.Test.YtgdidmcbonkhfabGr
namespace Go.Proofs.Ytgdidmcbonkhfab.Vx
open Go Go.RowKit Fl
set_option maxRecDepth 100000
set_option linter.unusedSimpArgs false
set_option linter.unusedVariables false

theorem fall_pos {x : Nat → Int} {t : Nat} {a : Int} (hv : vSun x = true) (ht : t < 24) (h : 0 < key (fallF x t a)) :
    ∃ n j : Nat, x t = n ∧ 1 ≤ n ∧ n ≤ 63 ∧ 1 ≤ j ∧ j ≤ 64 ∧ fallF x t a = fmul (quart (64 - n)) (quart j) := by
  have k0 : key 0 = 0 := by decide
  have hb := (vSun_at hv ht).1
  unfold fallF at h ⊢
  split at h
  · rename_i c
    rw [if_pos c]
    obtain ⟨n, hn⟩ : ∃ n : Nat, x t = n := ⟨(x t).toNat, by omega⟩
    rw [hn] at h c hb ⊢
    have hn64 : n ≤ 64 := by omega
    rw [cos_up hn64] at h ⊢
    have hc := cosF_ok (x (24 + t) - a)
    have hq := quart_F0 (n := 64 - n) (by omega)
    have hm := mul_fin hq.1.1 hc.1
    rw [at0_flt hm.2.2] at h ⊢
    split at h
    · rename_i d
      rw [if_pos d]
      have hp : 0 < key (cosF (x (24 + t) - a)) := by
        rcases Int.lt_or_le 0 (key (cosF (x (24 + t) - a))) with z | z
        · exact z
        · exfalso
          have v1 := (V_nonneg hq.1.1).2 hq.1.2
          have v2 := (V_nonpos hc.1).2 z
          have := KR_mono (-298) (Int.mul_nonpos_of_nonneg_of_nonpos v1 v2)
          rw [KR_zero, ← hm.2.1] at this
          omega
      obtain ⟨j, j1, j2, je⟩ := sinN_pos (ang_lt _) hp
      refine ⟨n, j, rfl, by omega, ?_, j1, j2, ?_⟩
      · rcases Nat.lt_or_ge n 64 with z | z
        · omega
        · exfalso
          have : n = 64 := by omega
          subst this
          rw [Nat.sub_self, quart_zero] at h
          have := (mul_fin (x := 0) (by decide) hc.1).2.1
          rw [V_zero, Int.zero_mul, KR_zero] at this
          omega
      · show fmul _ (cosF (x (24 + t) - a)) = _
        rw [show cosF (x (24 + t) - a) = quart j from je]
    · rw [k0] at h; omega
  · rw [k0] at h; omega
theorem fall_F0 {x : Nat → Int} {t : Nat} {a : Int} (hv : vSun x = true) (ht : t < 24) : F0 (fallF x t a) ∧ key (fallF x t a) ≤ key 1065353216 := by
  have k0 : key 0 = 0 := by decide
  by_cases h : 0 < key (fallF x t a)
  · obtain ⟨n, j, hn, h1, h2, h3, h4, e⟩ := fall_pos hv ht h
    have q1 := quart_F0 (n := 64 - n) (by omega)
    have q2 := quart_F0 h4
    have := mul_part q1.1 q2.1 q2.2
    rw [e]
    exact ⟨this.2.1, Int.le_trans this.2.2 q1.2⟩
  · have : fallF x t a = 0 := by
      unfold fallF at h ⊢
      split
      · rename_i c
        rw [if_pos c] at h
        have hm := mul_unit (cosF_ok (x t)) (cosF_ok (x (24 + t) - a))
        rw [at0_flt hm.2] at h ⊢
        split
        · rename_i d
          rw [if_pos d] at h
          have := (flt_key d).2.2
          omega
        · rfl
      · rfl
    rw [this]
    exact ⟨⟨by decide, by decide⟩, by decide⟩
theorem partOk_all0 {x : Nat → Int} {t : Nat} {a : Int} {o d g l : Nat} (hv : vSun x = true) (ht : t < 24) (hw : vAwning o d g l = true) (hf : feq (fallF x t a) 0 = false) :
    F0 d ∧ F0 g ∧ F0 (fmul o (ratioF x t a)) ∧ F0 (depthF x t a o d) ∧ fin (fsub (depthF x t a o d) g) ∧ F0 (ratioF x t a) ∧ PartOk x t a o d g l := by
  have k0 : key 0 = 0 := by decide
  have hF := fall_F0 (a := a) hv ht
  have hpos : 0 < key (fallF x t a) := by
    rw [feq_iff hF.1.1.nn (by decide)] at hf
    have := hF.1.2
    simp only [decide_eq_false_iff_not] at hf
    omega
  obtain ⟨n, j, hn, h1, h2, h3, h4, e⟩ := fall_pos hv ht hpos
  simp only [vAwning, Bool.and_eq_true] at hw
  obtain ⟨⟨⟨w1, w2⟩, w3⟩, w4⟩ := hw
  have b1 := btw_F0 w1 (by decide)
  have b2 := btw_F0 w2 (by decide)
  have b3 := btw_F0 w3 (by decide)
  have b4 := btw_P w4 (by decide) (by decide)
  have qn := quart_F0 (n := n) (by omega)
  have se : sineF (x t) = quart n := by rw [hn]; exact sine_up (by omega)
  have q1 : F0 1019804380 := ⟨by decide, by decide⟩
  -- the least fall
  have lo : key (fmul 1019804380 1019804380) ≤ key (fallF x t a) := by
    rw [e]
    exact mul_mono q1 q1 (quart_F0 (by omega)).1 (quart_F0 h4).1 (one_le (by omega) (by omega)) (one_le h3 h4)
  have lo0 : 0 < key (fmul 1019804380 1019804380) := by decide +kernel
  have lof : fin (fmul 1019804380 1019804380) := by decide +kernel
  have dr := div_F0 qn.1 hF.1.1 hpos
  have rk : key (fdiv (quart n) (fallF x t a)) ≤ key 1157627904 := by
    refine Int.le_trans (div_anti qn.1 lof hF.1.1 lo0 lo) (Int.le_trans (div_mono (x' := 1065353216) qn.1.1 (by decide) lof lo0 qn.2) ?_)
    decide +kernel
  have hr : F0 (ratioF x t a) ∧ key (ratioF x t a) ≤ key 1157627904 := by
    unfold ratioF; rw [se]
    exact ⟨F0_of_le dr.2 (by decide) rk, rk⟩
  have hm := mul_F0 b1.1 hr.1
  have mk : key (fmul o (ratioF x t a)) ≤ key 1182793728 := by
    refine Int.le_trans (mul_mono b1.1 hr.1 (x' := 1090519040) (y' := 1157627904) ⟨by decide, by decide⟩ ⟨by decide, by decide⟩ b1.2 hr.2) ?_
    decide +kernel
  have hmF := F0_of_le hm.2 (by decide) mk
  have ha := add_P0 hm.2 b2.1.p
  have ak : key (depthF x t a o d) ≤ key 1182797824 := by
    unfold depthF
    refine Int.le_trans (add_mono (x' := 1182793728) (y' := 1073741824) hm.2 b2.1.p ⟨by decide, by decide⟩ ⟨by decide, by decide⟩ mk b2.2) ?_
    decide +kernel
  have haF : F0 (depthF x t a o d) := F0_of_le ha.2.1 (by decide) ak
  have hs := sub_fin haF.1 b3.1.1
  have sk1 : key (fsub (depthF x t a o d) g) ≤ key 1182797824 := by
    refine Int.le_trans (sub_mono (x' := 1182797824) (y' := 0) haF.1 b3.1.1 (by decide) (by decide) ak (by have := b3.1.2; omega)) ?_
    decide +kernel
  have sk2 : key 3221225472 ≤ key (fsub (depthF x t a o d) g) := by
    refine Int.le_trans ?_ (sub_mono (x := 0) (y := 1073741824) (by decide) (by decide) haF.1 b3.1.1 (by have := haF.2; omega) b3.2)
    decide +kernel
  have hsF : fin (fsub (depthF x t a o d) g) := fin_of_key hs.2.2 (Int.lt_of_le_of_lt sk1 (by decide)) (Int.lt_of_lt_of_le (by decide) sk2)
  have k8 : key 1040187392 = 1040187392 := by decide
  have hq := div_fin hsF b4.1 (by have := b4.2.1; omega)
  have hrat : F0 (ratioF x t a) := hr.1
  exact ⟨b2.1, b3.1, hmF, haF, hsF, hrat, ⟨by rw [se]; exact dr.1, hm.1, ha.1, hs.1, hq.1, hq.2.2⟩⟩
theorem partOk_of {x : Nat → Int} {t : Nat} {a : Int} {o d g l : Nat} (hv : vSun x = true) (ht : t < 24) (hw : vAwning o d g l = true) (hf : feq (fallF x t a) 0 = false) : PartOk x t a o d g l :=
  (partOk_all0 hv ht hw hf).2.2.2.2.2.2
theorem partOk_all {x : Nat → Int} {t : Nat} {a : Int} {o d g l : Nat} (hv : vSun x = true) (ht : t < 24) (hw : vAwning o d g l = true) (hf : feq (fallF x t a) 0 = false) :
    F0 d ∧ F0 g ∧ F0 (fmul o (ratioF x t a)) ∧ F0 (depthF x t a o d) ∧ fin (fsub (depthF x t a o d) g) ∧ F0 (ratioF x t a) ∧ nn (quotF x t a o d g l) :=
  let h := partOk_all0 hv ht hw hf
  ⟨h.1, h.2.1, h.2.2.1, h.2.2.2.1, h.2.2.2.2.1, h.2.2.2.2.2.1, h.2.2.2.2.2.2.n⟩
theorem min_mono {q q' : Nat} (hq : nn q) (hq' : nn q') (h : key q ≤ key q') : key (fmn (at0 q) 1065353216) ≤ key (fmn (at0 q') 1065353216) := by
  have k0 : key 0 = 0 := by decide
  have e : ∀ q, nn q → key (fmn (at0 q) 1065353216) = min (max (key q) 0) (key 1065353216) := fun q hq => by
    have h1 : key (at0 q) = max (key q) 0 := by
      unfold at0
      cases c : fle q 0
      · have := fle_not (y := 0) hq (by decide) c
        simp only [Bool.false_eq_true, if_false]; omega
      · have := (fle_key c).2.2
        simp only [if_true]; omega
    have hn := at0_P hq
    rw [← h1]
    unfold fmn
    cases c : flt (at0 q) 1065353216
    · have c1 := flt_not (y := 1065353216) hn.1 (by decide) c
      cases c2 : flt 1065353216 (at0 q)
      · have c3 := flt_not (x := 1065353216) (by decide) hn.1 c2
        simp only [Bool.false_eq_true, if_false]; split <;> omega
      · simp only [Bool.false_eq_true, if_false, if_true]; omega
    · have c1 := (flt_key c).2.2
      simp only [if_true]; omega
  rw [e q hq, e q' hq']
  omega
theorem part_F0 {x : Nat → Int} {t : Nat} {a : Int} {o d g l : Nat} (h : feq (fallF x t a) 0 = false → PartOk x t a o d g l) : F0 (partF x t a o d g l) ∧ key (partF x t a o d g l) ≤ key 1065353216 := by
  have k0 : key 0 = 0 := by decide
  unfold partF
  split
  · exact ⟨⟨by decide, by decide⟩, by decide⟩
  · rename_i c
    have n := (h (by simpa using c)).n
    have hl : quotF x t a o d g l < 4294967296 := fdiv_lt
    rw [part_sw n hl]
    split
    · exact ⟨⟨by decide, by decide⟩, by decide⟩
    · rename_i c1
      split
      · exact ⟨⟨by decide, by decide⟩, by decide⟩
      · rename_i c2
        have h1 := fle_not (y := 0) n (by decide) (by simpa using c1)
        have h2 := flt_not (x := 1065353216) (by decide) n (by simpa using c2)
        exact ⟨F0_of_le ⟨n, by omega⟩ (by decide) h2, h2⟩
theorem behOk_of {x : Nat → Int} {t : Nat} {a : Int} {o d g l : Nat} (hv : vSun x = true) (ht : t < 24) (hw : vAwning o d g l = true) :
    BehOk x t a o d g l ∧ F0 (behindF x t a o d g l) ∧ key (behindF x t a o d g l) ≤ key 1065353216 := by
  have hF := fall_F0 (a := a) hv ht
  have hP := part_F0 (x := x) (t := t) (a := a) fun h => partOk_of hv ht hw h
  have hm := mul_part hF.1 hP.1 hP.2
  have hs := sub_F0 hF.1 hm.2.1 hm.2.2
  exact ⟨⟨fun h => partOk_of hv ht hw h, hm.1, hs.1⟩, hs.2.1, Int.le_trans hs.2.2 hF.2⟩
end Go.Proofs.Ytgdidmcbonkhfab.Vx
