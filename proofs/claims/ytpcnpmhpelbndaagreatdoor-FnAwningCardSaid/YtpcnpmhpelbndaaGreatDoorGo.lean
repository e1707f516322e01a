/- Awnings, in the abstract: how far an awning has to reach out. -/
import Derived.Test.YtpcnpmhpelbndaaGreatDoorGf
namespace Go.Proofs.YtpcnpmhpelbndaaGreatDoor.Vx
set_option linter.unusedSimpArgs false
set_option linter.unusedVariables false
open Go Go.RowKit Fl
set_option maxRecDepth 100000
set_option linter.unusedSimpArgs false
set_option linter.unusedVariables false

def en (x : Nat → Int) (t : Nat) (a : Int) (d g l part m : Nat) : Bool := fle part (partF x t a m d g l)
theorem outFor1_cv (x : Nat → Int) (t : Nat) (a : Int) (o d g l part m : Nat) (hx : Small x) (h1 : t < 24) (h2 : -32768 ≤ a) (h3 : a ≤ 32767) (hp : feq (fallF x t a) 0 = false → PartOk x t a m d g l) :
    CV Tryz.prog 124 [.f (.flt .f32 m), .ptr 0 0 0, .ptr 1 0 0, .ptr 2 0 0, .ptr 3 0 0, .ptr 4 0 0]
      [.lit [.f (.flt .f32 o), .f (.flt .f32 d), .f (.flt .f32 g), .f (.flt .f32 l)] true, .cells 48 (fun j => .int .i16 (x j)) true, .lit [.f (.int .i64 t)] true, .lit [.f (.int .i64 a)] true, .lit [.f (.flt .f32 part)] true]
      (fun v h => v = .f (.bool (en x t a d g l part m)) ∧ h = [.lit [.f (.flt .f32 m), .f (.flt .f32 d), .f (.flt .f32 g), .f (.flt .f32 l)] true, .cells 48 (fun j => .int .i16 (x j)) true, .lit [.f (.int .i64 t)] true, .lit [.f (.int .i64 a)] true, .lit [.f (.flt .f32 part)] true]) := by
  refine cv_of_run 1000 sc124 sb124 16 [.tmp 7] tabOk (by kernel_rfl) Tryz.func124 rfl (by kernel_rfl) Tryz.ntmps124 rfl (by simp) rfl (by simp [bdL, SV.bd]) ?_
  simp (config := { maxSteps := 1000000 }) (disch := omega) only [go_sem, Int.reduceToNat, ↓reduceIte, Nat.reduceLT, Nat.reduceEqDiff, Nat.reduceAdd, Nat.reduceMul, Nat.reduceSub, Nat.reduceBEq, Nat.reduceLeDiff, reduceCtorEq, Nat.reduceLT, ↓Br_true, ↓Br_false, bind, pure, sc124, sb124]
  refine ⟨by first | (unfold SOk; kernel_rfl) | (unfold SBOk; kernel_rfl), ?_⟩
  repeat' (first | (with_reducible refine And.intro (by first | (unfold SOk; kernel_rfl) | (unfold SBOk; kernel_rfl) | (with_reducible assumption) | omega | assumption) ?_) | (with_reducible refine Br_intro (fun hc => ?_) (fun hc => ?_)) | ((have cc := shaded_cv x t a m d g l hx h1 h2 h3 hp; (first | ((first | refine callR (by rfl) (by rfl) (by rfl) cc ?_ | refine callM (by rfl) (by rfl) (by rfl) cc ?_ | refine callMo (by rfl) (by rfl) (by rfl) cc ?_); clear cc; rintro _ _ ⟨rfl, rfl⟩) | (refine callE (by rfl) cc (by rfl) ?_; clear cc))); simp (config := { maxSteps := 1000000 }) (disch := omega) only [go_sem, Int.reduceToNat, ↓reduceIte, Nat.reduceLT, Nat.reduceEqDiff, Nat.reduceAdd, Nat.reduceMul, Nat.reduceSub, Nat.reduceBEq, Nat.reduceLeDiff, reduceCtorEq, Nat.reduceLT, ↓Br_true, ↓Br_false, bind, pure, sc124, sb124]) | ((with_reducible show WidN _ _ _ _ _ _ _ _); (first | refine widL (by decide) (by with_reducible assumption) ?_ | refine widL (by decide) (FWok_nn (by with_reducible assumption)) ?_ | refine widN (by decide) (fun c hc => ?_)); simp (config := { maxSteps := 1000000 }) (disch := omega) only [go_sem, Int.reduceToNat, ↓reduceIte, Nat.reduceLT, Nat.reduceEqDiff, Nat.reduceAdd, Nat.reduceMul, Nat.reduceSub, Nat.reduceBEq, Nat.reduceLeDiff, reduceCtorEq, Nat.reduceLT, ↓Br_true, ↓Br_false, bind, pure, sc124, sb124]))
  rfl
theorem l04With_cv (x : Nat → Int) (t : Nat) (a : Int) (o d g l part m : Nat) (hx : Small x) (h1 : t < 24) (h2 : -32768 ≤ a) (h3 : a ≤ 32767) (hp : feq (fallF x t a) 0 = false → PartOk x t a m d g l) :
    CV Tryz.prog 125 [.ptr 0 0 0, .ptr 1 0 0, .f (.int .i64 t), .f (.int .i64 a), .f (.flt .f32 m), .f (.flt .f32 part)] [awnB o d g l, sunB x] (fun v h => v = .f (.bool (en x t a d g l part m)) ∧ h = [awnB o d g l, sunB x]) := by
  refine cv_of_run 1000 sc125 sb125 34 [.tmp 12] tabOk (by kernel_rfl) Tryz.func125 rfl (by kernel_rfl) Tryz.ntmps125 rfl (by simp) rfl (by simp [bdL, SV.bd]) ?_
  simp (config := { maxSteps := 1000000 }) (disch := omega) only [go_sem, Int.reduceToNat, ↓reduceIte, Nat.reduceLT, Nat.reduceEqDiff, Nat.reduceAdd, Nat.reduceMul, Nat.reduceSub, Nat.reduceBEq, Nat.reduceLeDiff, reduceCtorEq, Nat.reduceLT, ↓Br_true, ↓Br_false, bind, pure, sc125, sb125]
  refine ⟨by first | (unfold SOk; kernel_rfl) | (unfold SBOk; kernel_rfl), ?_⟩
  repeat' (first | (with_reducible refine And.intro (by first | (unfold SOk; kernel_rfl) | (unfold SBOk; kernel_rfl) | (with_reducible assumption) | omega | assumption) ?_) | (with_reducible refine Br_intro (fun hc => ?_) (fun hc => ?_)) | ((first | (refine callR (by rfl) (by rfl) (by rfl) (l04Part_cv _ 0 _ x t a m d g l (awnAt_lit m d g l) hx h1 h2 h3 hp) ?_; rintro _ _ ⟨rfl, rfl⟩) | (refine callM (by rfl) (by rfl) (by rfl) (l04Part_cv _ 0 _ x t a m d g l (awnAt_lit m d g l) hx h1 h2 h3 hp) ?_; rintro _ _ ⟨rfl, rfl⟩) | (refine callMo (by rfl) (by rfl) (by rfl) (l04Part_cv _ 0 _ x t a m d g l (awnAt_lit m d g l) hx h1 h2 h3 hp) ?_; rintro _ _ ⟨rfl, rfl⟩) | (refine callE (by rfl) (l04Part_cv _ 0 _ x t a m d g l (awnAt_lit m d g l) hx h1 h2 h3 hp) (by rfl) ?_)); simp (config := { maxSteps := 1000000 }) (disch := omega) only [go_sem, Int.reduceToNat, ↓reduceIte, Nat.reduceLT, Nat.reduceEqDiff, Nat.reduceAdd, Nat.reduceMul, Nat.reduceSub, Nat.reduceBEq, Nat.reduceLeDiff, reduceCtorEq, Nat.reduceLT, ↓Br_true, ↓Br_false, bind, pure, sc125, sb125]) | ((with_reducible show WidN _ _ _ _ _ _ _ _); (first | refine widL (by decide) (by with_reducible assumption) ?_ | refine widL (by decide) (FWok_nn (by with_reducible assumption)) ?_ | refine widN (by decide) (fun c hc => ?_)); simp (config := { maxSteps := 1000000 }) (disch := omega) only [go_sem, Int.reduceToNat, ↓reduceIte, Nat.reduceLT, Nat.reduceEqDiff, Nat.reduceAdd, Nat.reduceMul, Nat.reduceSub, Nat.reduceBEq, Nat.reduceLeDiff, reduceCtorEq, Nat.reduceLT, ↓Br_true, ↓Br_false, bind, pure, sc125, sb125]))
  rfl
/-- The bounds after so many halvings. -/
def halve (x : Nat → Int) (t : Nat) (a : Int) (d g l part : Nat) : Nat → Nat × Nat
  | 0 => (0, 1090519040)
  | k + 1 =>
    let p := halve x t a d g l part k
    let m := fdiv (fadd p.1 p.2) 1073741824
    if en x t a d g l part m then (p.1, m) else (m, p.2)
abbrev In8 (m : Nat) : Prop := F0 m ∧ key m ≤ key 1090519040
theorem mid_ok {p q : Nat} (hp : In8 p) (hq : In8 q) : AddOk p q ∧ DivOk (fadd p q) 1073741824 ∧ In8 (fdiv (fadd p q) 1073741824) := by
  have ha := add_P0 hp.1.p hq.1.p
  have k := add_mono (x' := 1090519040) (y' := 1090519040) hp.1.p hq.1.p ⟨by decide, by decide⟩ ⟨by decide, by decide⟩ hp.2 hq.2
  have k2 : key (fadd 1090519040 1090519040) = key 1098907648 := by decide +kernel
  rw [k2] at k
  have hf := F0_of_le ha.2.1 (by decide) k
  have hd := div_F0 hf (y := 1073741824) (by decide) (by decide)
  have k3 := div_mono (x' := 1098907648) (y := 1073741824) hf.1 (by decide) (by decide) (by decide) k
  have k4 : key (fdiv 1098907648 1073741824) = key 1090519040 := by decide +kernel
  rw [k4] at k3
  exact ⟨ha.1, hd.1, F0_of_le hd.2 (by decide) k3, k3⟩
theorem halve_ok (x : Nat → Int) (t : Nat) (a : Int) (d g l part : Nat) : ∀ k, In8 (halve x t a d g l part k).1 ∧ In8 (halve x t a d g l part k).2
  | 0 => show In8 0 ∧ In8 1090519040 from ⟨⟨⟨by decide, by decide⟩, by decide⟩, ⟨by decide, by decide⟩, by decide⟩
  | k + 1 => by
    have h := halve_ok x t a d g l part k
    have m := (mid_ok h.1 h.2).2.2
    simp only [halve]
    split
    · exact ⟨h.1, m⟩
    · exact ⟨m, h.2⟩
theorem vAwning_in8 {o d g l m : Nat} (h : vAwning o d g l = true) (hm : In8 m) : vAwning m d g l = true := by
  simp only [vAwning, Bool.and_eq_true] at h ⊢
  refine ⟨⟨⟨?_, h.1.1.2⟩, h.1.2⟩, h.2⟩
  simp only [btw, Bool.and_eq_true]
  have k0 : key 0 = 0 := by decide
  exact ⟨fle_of (by decide) hm.1.1.nn (by have := hm.1.2; omega), fle_of hm.1.1.nn (by decide) hm.2⟩
/-- What an awning shades grows with how far it reaches out. -/
theorem part_mono {x : Nat → Int} {t : Nat} {a : Int} {d g l m m' : Nat} (hm : In8 m) (hm' : In8 m') (hk : key m ≤ key m') (hv : vSun x = true) (ht : t < 24) (hw : vAwning m d g l = true) : key (partF x t a m d g l) ≤ key (partF x t a m' d g l) := by
  have hw' := vAwning_in8 hw hm'
  unfold partF
  cases hf : feq (fallF x t a) 0
  · simp only [Bool.false_eq_true, if_false]
    have p1 := partOk_all hv ht hw hf
    have p2 := partOk_all hv ht hw' hf
    have b4 := btw_P (a := l) (l := 1040187392) (h := 1082130432) (by simp only [vAwning, Bool.and_eq_true] at hw; exact hw.2) (by decide) (by decide)
    have k8 : (0 : Int) < key 1040187392 := by decide
    obtain ⟨d1, g1, mm1, dd1, ss1, rr1, nn1⟩ := p1
    obtain ⟨d2, g2, mm2, dd2, ss2, rr2, nn2⟩ := p2
    have q : key (quotF x t a m d g l) ≤ key (quotF x t a m' d g l) := by
      refine div_mono ss1 ss2 b4.1 (by have := b4.2.1; omega) (sub_mono dd1.1 g1.1 dd2.1 g1.1 ?_ (Int.le_refl _))
      exact add_mono mm1.p d1.p mm2.p d1.p (mul_mono hm.1 rr1 hm'.1 rr1 hk (Int.le_refl _)) (Int.le_refl _)
    exact min_mono nn1 nn2 q
  · simp
theorem en_mono {x : Nat → Int} {t : Nat} {a : Int} {d g l m m' part : Nat} (hm : In8 m) (hm' : In8 m') (hk : key m ≤ key m') (hv : vSun x = true) (ht : t < 24) (hw : vAwning m d g l = true) (he : en x t a d g l part m = true) : en x t a d g l part m' = true := by
  have hw' := vAwning_in8 hw hm'
  have h1 := fle_key he
  exact fle_of h1.1 (part_F0 fun h => partOk_of hv ht hw' h).1.1.nn (Int.le_trans h1.2.2 (part_mono hm hm' hk hv ht hw))
def outC (x : Nat → Int) (t : Nat) (a : Int) (d g l part : Nat) : Nat × Int :=
  if en x t a d g l part 0 then (0, 0) else if en x t a d g l part 1090519040 then ((halve x t a d g l part 30).2, 0) else (0, 6)
theorem IsPart_cv (n : Nat) (h : List Blk) : CV Tryz.prog 55 [.f (.flt .f32 n)] h (fun v hh => v = .f (.bool (isPart n)) ∧ hh = h) :=
  CV.old0 trivial (enters_of Tryz.func55 (by kernel_rfl) (by kernel_rfl)) fun w β _ => IsPart_c n w
theorem l01Part_cv (n : Nat) (h : List Blk) : CV Tryz.prog 98 [.f (.flt .f32 n)] h (fun v hh => v = .f (.bool (isPart n)) ∧ hh = h) :=
  CV.old0 trivial (enters_of Tryz.func98 (by kernel_rfl) (by kernel_rfl)) fun w β _ => l01Part_c n w
theorem OutForGood_cv (x : Nat → Int) (t : Nat) (a : Int) (o d g l part : Nat) (hx : Small x) (hc : askC o d g l x (inn t 0 23 && inn a 0 255 && isPart part) = 0) :
    CV Tryz.prog 57 [awnV o d g l, sunV x, .f (.int .i64 t), .f (.int .i64 a), .f (.flt .f32 part)] [] (fun v h => v = numV (outC x t a d g l part).1 (outC x t a d g l part).2 ∧ h = []) := by
  have hp := (askC_zero hc).2.2
  simp only [Bool.and_eq_true] at hp
  obtain ⟨⟨hp1, hp2⟩, hp3⟩ := hp
  have z := askC_zero hc
  rw [hp1, hp2, hp3] at hc
  have hq1 := hp1
  have hq2 := hp2
  rw [inn_true] at hq1 hq2
  simp only [Bool.and_true, Bool.true_and] at hc
  have ht : t < 24 := by omega
  have pk := fun m (hm : In8 m) (hf : feq (fallF x t a) 0 = false) => partOk_of (a := a) z.2.1 ht (vAwning_in8 z.1 hm) hf
  have i0 : In8 0 := (halve_ok x t a d g l part 0).1
  have i8 : In8 1090519040 := (halve_ok x t a d g l part 0).2
  refine cv_of_run 1000 sc57 sb57 57 [.tmp 10, .tmp 11] tabOk (by kernel_rfl) Tryz.func57 rfl (by kernel_rfl) Tryz.ntmps57 rfl (by simp) rfl (by simp [bdL, SV.bd]) ?_
  simp (config := { maxSteps := 1000000 }) (disch := omega) only [go_sem, Int.reduceToNat, ↓reduceIte, Nat.reduceLT, Nat.reduceEqDiff, Nat.reduceAdd, Nat.reduceMul, Nat.reduceSub, Nat.reduceBEq, Nat.reduceLeDiff, reduceCtorEq, Nat.reduceLT, ↓Br_true, ↓Br_false, bind, pure, sc57, sb57]
  refine ⟨by first | (unfold SOk; kernel_rfl) | (unfold SBOk; kernel_rfl), ?_⟩
  repeat' (first | (with_reducible refine And.intro (by first | (unfold SOk; kernel_rfl) | (unfold SBOk; kernel_rfl) | (with_reducible assumption) | omega | assumption) ?_) | (with_reducible refine Br_intro (fun hc => ?_) (fun hc => ?_)) | ((first | (refine callR (by rfl) (by rfl) (by rfl) (isHour_cv t _) ?_; rintro _ _ ⟨rfl, rfl⟩) | (refine callM (by rfl) (by rfl) (by rfl) (isHour_cv t _) ?_; rintro _ _ ⟨rfl, rfl⟩) | (refine callMo (by rfl) (by rfl) (by rfl) (isHour_cv t _) ?_; rintro _ _ ⟨rfl, rfl⟩) | (refine callE (by rfl) (isHour_cv t _) (by rfl) ?_)); simp (config := { maxSteps := 1000000 }) (disch := omega) only [go_sem, Int.reduceToNat, ↓reduceIte, Nat.reduceLT, Nat.reduceEqDiff, Nat.reduceAdd, Nat.reduceMul, Nat.reduceSub, Nat.reduceBEq, Nat.reduceLeDiff, reduceCtorEq, Nat.reduceLT, ↓Br_true, ↓Br_false, bind, pure, sc57, sb57, hp1, hp2, hp3, hc]) | ((first | (refine callR (by rfl) (by rfl) (by rfl) (isFacing_cv a _) ?_; rintro _ _ ⟨rfl, rfl⟩) | (refine callM (by rfl) (by rfl) (by rfl) (isFacing_cv a _) ?_; rintro _ _ ⟨rfl, rfl⟩) | (refine callMo (by rfl) (by rfl) (by rfl) (isFacing_cv a _) ?_; rintro _ _ ⟨rfl, rfl⟩) | (refine callE (by rfl) (isFacing_cv a _) (by rfl) ?_)); simp (config := { maxSteps := 1000000 }) (disch := omega) only [go_sem, Int.reduceToNat, ↓reduceIte, Nat.reduceLT, Nat.reduceEqDiff, Nat.reduceAdd, Nat.reduceMul, Nat.reduceSub, Nat.reduceBEq, Nat.reduceLeDiff, reduceCtorEq, Nat.reduceLT, ↓Br_true, ↓Br_false, bind, pure, sc57, sb57, hp1, hp2, hp3, hc]) | ((first | (refine callR (by rfl) (by rfl) (by rfl) (IsPart_cv part _) ?_; rintro _ _ ⟨rfl, rfl⟩) | (refine callM (by rfl) (by rfl) (by rfl) (IsPart_cv part _) ?_; rintro _ _ ⟨rfl, rfl⟩) | (refine callMo (by rfl) (by rfl) (by rfl) (IsPart_cv part _) ?_; rintro _ _ ⟨rfl, rfl⟩) | (refine callE (by rfl) (IsPart_cv part _) (by rfl) ?_)); simp (config := { maxSteps := 1000000 }) (disch := omega) only [go_sem, Int.reduceToNat, ↓reduceIte, Nat.reduceLT, Nat.reduceEqDiff, Nat.reduceAdd, Nat.reduceMul, Nat.reduceSub, Nat.reduceBEq, Nat.reduceLeDiff, reduceCtorEq, Nat.reduceLT, ↓Br_true, ↓Br_false, bind, pure, sc57, sb57, hp1, hp2, hp3, hc]) | ((first | (refine callR (by rfl) (by rfl) (by rfl) (awningCode1_cv x _ o d g l hx) ?_; rintro _ _ ⟨rfl, rfl⟩) | (refine callM (by rfl) (by rfl) (by rfl) (awningCode1_cv x _ o d g l hx) ?_; rintro _ _ ⟨rfl, rfl⟩) | (refine callMo (by rfl) (by rfl) (by rfl) (awningCode1_cv x _ o d g l hx) ?_; rintro _ _ ⟨rfl, rfl⟩) | (refine callE (by rfl) (awningCode1_cv x _ o d g l hx) (by rfl) ?_)); simp (config := { maxSteps := 1000000 }) (disch := omega) only [go_sem, Int.reduceToNat, ↓reduceIte, Nat.reduceLT, Nat.reduceEqDiff, Nat.reduceAdd, Nat.reduceMul, Nat.reduceSub, Nat.reduceBEq, Nat.reduceLeDiff, reduceCtorEq, Nat.reduceLT, ↓Br_true, ↓Br_false, bind, pure, sc57, sb57, hp1, hp2, hp3, hc]) | ((with_reducible show WidN _ _ _ _ _ _ _ _); (first | refine widL (by decide) (by with_reducible assumption) ?_ | refine widL (by decide) (FWok_nn (by with_reducible assumption)) ?_ | refine widN (by decide) (fun c hc => ?_)); simp (config := { maxSteps := 1000000 }) (disch := omega) only [go_sem, Int.reduceToNat, ↓reduceIte, Nat.reduceLT, Nat.reduceEqDiff, Nat.reduceAdd, Nat.reduceMul, Nat.reduceSub, Nat.reduceBEq, Nat.reduceLeDiff, reduceCtorEq, Nat.reduceLT, ↓Br_true, ↓Br_false, bind, pure, sc57, sb57, hp1, hp2, hp3, hc]))
  refine callG (by rfl) (by rfl) (by rfl) (outFor1_cv x t a o d g l part 0 hx ht (by omega) (by omega) (pk 0 i0)) ?_; rintro _ _ ⟨rfl, rfl⟩
  simp (config := { maxSteps := 1000000 }) (disch := omega) only [go_sem, Int.reduceToNat, ↓reduceIte, Nat.reduceLT, Nat.reduceEqDiff, Nat.reduceAdd, Nat.reduceMul, Nat.reduceSub, Nat.reduceBEq, Nat.reduceLeDiff, reduceCtorEq, Nat.reduceLT, ↓Br_true, ↓Br_false, bind, pure, sc57, sb57]
  refine ⟨fun hc => ?_, fun hc => ?_⟩
  · simp [outC, hc]
  · rename_i h0
    refine callG (by rfl) (by rfl) (by rfl) (outFor1_cv x t a 0 d g l part 1090519040 hx ht (by omega) (by omega) (pk _ i8)) ?_; rintro _ _ ⟨rfl, rfl⟩
    simp (config := { maxSteps := 1000000 }) (disch := omega) only [go_sem, Int.reduceToNat, ↓reduceIte, Nat.reduceLT, Nat.reduceEqDiff, Nat.reduceAdd, Nat.reduceMul, Nat.reduceSub, Nat.reduceBEq, Nat.reduceLeDiff, reduceCtorEq, Nat.reduceLT, ↓Br_true, ↓Br_false, bind, pure, sc57, sb57]
    refine ⟨fun hc => ?_, fun hc => ?_⟩
    · rename_i h1
      simp only [Bool.not_eq_true'] at hc
      simp [outC, hc, h1]
    · rename_i h1
      simp only [Bool.not_eq_false'] at hc
      refine ⟨(Nat × Nat), fun s => s.1 ≤ 30, fun s => 30 - s.1, fun s => [(13, .fn 124 [] [.ptr 0 0 0, .ptr 1 0 0, .ptr 2 0 0, .ptr 3 0 0, .ptr 4 0 0]), (14, .f (.flt .f32 (halve x t a d g l part s.1).1)), (15, .f (.flt .f32 (halve x t a d g l part s.1).2)), (44, .f (.int .i64 s.1))], fun s => [.lit [.f (.flt .f32 s.2), .f (.flt .f32 d), .f (.flt .f32 g), .f (.flt .f32 l)] true, .cells 48 (fun j => .int .i16 (x j)) true, .lit [.f (.int .i64 t)] true, .lit [.f (.int .i64 a)] true, .lit [.f (.flt .f32 part)] true], (0, 1090519040), (by intro _; simp), ?_, (by (try refine Or.inl ?_); simp [Cov, covE, covH, cb_dead, cb_lit, cb_rows, cb_cells, cd_lit, cd_rows, cd_cells, cd_dead, covRow, look, SV.known, SV.bd, bdL, halve] <;> omega), ?_⟩
      · omega
      · rintro ⟨k, cur⟩ hk
        simp only at hk
        by_cases hlt : k < 30
        · have hd : decide ((k : Int) < 30) = true := decide_eq_true (by omega)
          have hh := halve_ok x t a d g l part k
          have hm := mid_ok hh.1 hh.2
          simp (config := { maxSteps := 1000000 }) (disch := omega) only [go_sem, Int.reduceToNat, ↓reduceIte, Nat.reduceLT, Nat.reduceEqDiff, Nat.reduceAdd, Nat.reduceMul, Nat.reduceSub, Nat.reduceBEq, Nat.reduceLeDiff, reduceCtorEq, Nat.reduceLT, ↓Br_true, ↓Br_false, bind, pure, sc57, sb57, hd]
          refine ⟨hm.1, hm.2.1, ?_⟩
          refine callG (by rfl) (by rfl) (by rfl) (outFor1_cv x t a cur d g l part _ hx ht (by omega) (by omega) (pk _ hm.2.2)) ?_; rintro _ _ ⟨rfl, rfl⟩
          simp (config := { maxSteps := 1000000 }) (disch := omega) only [go_sem, Int.reduceToNat, ↓reduceIte, Nat.reduceLT, Nat.reduceEqDiff, Nat.reduceAdd, Nat.reduceMul, Nat.reduceSub, Nat.reduceBEq, Nat.reduceLeDiff, reduceCtorEq, Nat.reduceLT, ↓Br_true, ↓Br_false, bind, pure, sc57, sb57, hd]
          refine ⟨fun hc => ?_, fun hc => ?_⟩
          · exact ⟨(k + 1, fdiv (fadd (halve x t a d g l part k).1 (halve x t a d g l part k).2) 1073741824), by omega, by omega, by (try refine Or.inl ?_); simp [Cov, covE, covH, cb_dead, cb_lit, cb_rows, cb_cells, cd_lit, cd_rows, cd_cells, cd_dead, covRow, look, SV.known, SV.bd, bdL, halve, hc] <;> omega⟩
          · exact ⟨(k + 1, fdiv (fadd (halve x t a d g l part k).1 (halve x t a d g l part k).2) 1073741824), by omega, by omega, by (try refine Or.inl ?_); simp [Cov, covE, covH, cb_dead, cb_lit, cb_rows, cb_cells, cd_lit, cd_rows, cd_cells, cd_dead, covRow, look, SV.known, SV.bd, bdL, halve, hc] <;> omega⟩
        · have hd : decide ((k : Int) < 30) = false := decide_eq_false (by omega)
          simp (config := { maxSteps := 1000000 }) (disch := omega) only [go_sem, Int.reduceToNat, ↓reduceIte, Nat.reduceLT, Nat.reduceEqDiff, Nat.reduceAdd, Nat.reduceMul, Nat.reduceSub, Nat.reduceBEq, Nat.reduceLeDiff, reduceCtorEq, Nat.reduceLT, ↓Br_true, ↓Br_false, bind, pure, sc57, sb57, hd]
          obtain rfl : k = 30 := by omega
          simp [outC, h1, hc]
theorem OutForBad_cv (x : Nat → Int) (t a : Int) (o d g l part : Nat) (hx : Small x) (hn : askC o d g l x (inn t 0 23 && inn a 0 255 && isPart part) ≠ 0) :
    CV Tryz.prog 57 [awnV o d g l, sunV x, .f (.int .i64 t), .f (.int .i64 a), .f (.flt .f32 part)] [] (fun v h => v = numV 0 (askC o d g l x (inn t 0 23 && inn a 0 255 && isPart part)) ∧ h = []) := by
  refine cv_of_run 1000 sc57 sb57 57 [.tmp 10, .tmp 11] tabOk (by kernel_rfl) Tryz.func57 rfl (by kernel_rfl) Tryz.ntmps57 rfl (by simp) rfl (by simp [bdL, SV.bd]) ?_
  simp (config := { maxSteps := 1000000 }) (disch := omega) only [go_sem, Int.reduceToNat, ↓reduceIte, Nat.reduceLT, Nat.reduceEqDiff, Nat.reduceAdd, Nat.reduceMul, Nat.reduceSub, Nat.reduceBEq, Nat.reduceLeDiff, reduceCtorEq, Nat.reduceLT, ↓Br_true, ↓Br_false, bind, pure, sc57, sb57]
  refine ⟨by first | (unfold SOk; kernel_rfl) | (unfold SBOk; kernel_rfl), ?_⟩
  repeat' (first | (with_reducible refine And.intro (by first | (unfold SOk; kernel_rfl) | (unfold SBOk; kernel_rfl) | (with_reducible assumption) | omega | assumption) ?_) | (with_reducible refine Br_intro (fun hc => ?_) (fun hc => ?_)) | ((first | (refine callR (by rfl) (by rfl) (by rfl) (isHour_cv t _) ?_; rintro _ _ ⟨rfl, rfl⟩) | (refine callM (by rfl) (by rfl) (by rfl) (isHour_cv t _) ?_; rintro _ _ ⟨rfl, rfl⟩) | (refine callMo (by rfl) (by rfl) (by rfl) (isHour_cv t _) ?_; rintro _ _ ⟨rfl, rfl⟩) | (refine callE (by rfl) (isHour_cv t _) (by rfl) ?_)); simp (config := { maxSteps := 1000000 }) (disch := omega) only [go_sem, Int.reduceToNat, ↓reduceIte, Nat.reduceLT, Nat.reduceEqDiff, Nat.reduceAdd, Nat.reduceMul, Nat.reduceSub, Nat.reduceBEq, Nat.reduceLeDiff, reduceCtorEq, Nat.reduceLT, ↓Br_true, ↓Br_false, bind, pure, sc57, sb57]) | ((first | (refine callR (by rfl) (by rfl) (by rfl) (isFacing_cv a _) ?_; rintro _ _ ⟨rfl, rfl⟩) | (refine callM (by rfl) (by rfl) (by rfl) (isFacing_cv a _) ?_; rintro _ _ ⟨rfl, rfl⟩) | (refine callMo (by rfl) (by rfl) (by rfl) (isFacing_cv a _) ?_; rintro _ _ ⟨rfl, rfl⟩) | (refine callE (by rfl) (isFacing_cv a _) (by rfl) ?_)); simp (config := { maxSteps := 1000000 }) (disch := omega) only [go_sem, Int.reduceToNat, ↓reduceIte, Nat.reduceLT, Nat.reduceEqDiff, Nat.reduceAdd, Nat.reduceMul, Nat.reduceSub, Nat.reduceBEq, Nat.reduceLeDiff, reduceCtorEq, Nat.reduceLT, ↓Br_true, ↓Br_false, bind, pure, sc57, sb57]) | ((first | (refine callR (by rfl) (by rfl) (by rfl) (IsPart_cv part _) ?_; rintro _ _ ⟨rfl, rfl⟩) | (refine callM (by rfl) (by rfl) (by rfl) (IsPart_cv part _) ?_; rintro _ _ ⟨rfl, rfl⟩) | (refine callMo (by rfl) (by rfl) (by rfl) (IsPart_cv part _) ?_; rintro _ _ ⟨rfl, rfl⟩) | (refine callE (by rfl) (IsPart_cv part _) (by rfl) ?_)); simp (config := { maxSteps := 1000000 }) (disch := omega) only [go_sem, Int.reduceToNat, ↓reduceIte, Nat.reduceLT, Nat.reduceEqDiff, Nat.reduceAdd, Nat.reduceMul, Nat.reduceSub, Nat.reduceBEq, Nat.reduceLeDiff, reduceCtorEq, Nat.reduceLT, ↓Br_true, ↓Br_false, bind, pure, sc57, sb57]) | ((first | (refine callR (by rfl) (by rfl) (by rfl) (awningCode1_cv x _ o d g l hx) ?_; rintro _ _ ⟨rfl, rfl⟩) | (refine callM (by rfl) (by rfl) (by rfl) (awningCode1_cv x _ o d g l hx) ?_; rintro _ _ ⟨rfl, rfl⟩) | (refine callMo (by rfl) (by rfl) (by rfl) (awningCode1_cv x _ o d g l hx) ?_; rintro _ _ ⟨rfl, rfl⟩) | (refine callE (by rfl) (awningCode1_cv x _ o d g l hx) (by rfl) ?_)); simp (config := { maxSteps := 1000000 }) (disch := omega) only [go_sem, Int.reduceToNat, ↓reduceIte, Nat.reduceLT, Nat.reduceEqDiff, Nat.reduceAdd, Nat.reduceMul, Nat.reduceSub, Nat.reduceBEq, Nat.reduceLeDiff, reduceCtorEq, Nat.reduceLT, ↓Br_true, ↓Br_false, bind, pure, sc57, sb57]) | ((with_reducible show WidN _ _ _ _ _ _ _ _); (first | refine widL (by decide) (by with_reducible assumption) ?_ | refine widL (by decide) (FWok_nn (by with_reducible assumption)) ?_ | refine widN (by decide) (fun c hc => ?_)); simp (config := { maxSteps := 1000000 }) (disch := omega) only [go_sem, Int.reduceToNat, ↓reduceIte, Nat.reduceLT, Nat.reduceEqDiff, Nat.reduceAdd, Nat.reduceMul, Nat.reduceSub, Nat.reduceBEq, Nat.reduceLeDiff, reduceCtorEq, Nat.reduceLT, ↓Br_true, ↓Br_false, bind, pure, sc57, sb57]))
  all_goals simp_all
theorem sOutForBad_cv (x : Nat → Int) (t a : Int) (o d g l part : Nat) (hx : Small x) (hn : askC o d g l x (inn t 0 23 && inn a 0 255 && isPart part) ≠ 0) :
    CV Tryz.prog 58 [awnV o d g l, sunV x, .f (.int .i64 t), .f (.int .i64 a), .f (.flt .f32 part)] [] (fun v h => v = numV 0 (askC o d g l x (inn t 0 23 && inn a 0 255 && isPart part)) ∧ h = []) := by
  refine cv_of_run 1000 sc58 sb58 50 [.tmp 10, .tmp 11] tabOk (by kernel_rfl) Tryz.func58 rfl (by kernel_rfl) Tryz.ntmps58 rfl (by simp) rfl (by simp [bdL, SV.bd]) ?_
  simp (config := { maxSteps := 1000000 }) (disch := omega) only [go_sem, Int.reduceToNat, ↓reduceIte, Nat.reduceLT, Nat.reduceEqDiff, Nat.reduceAdd, Nat.reduceMul, Nat.reduceSub, Nat.reduceBEq, Nat.reduceLeDiff, reduceCtorEq, Nat.reduceLT, ↓Br_true, ↓Br_false, bind, pure, sc58, sb58]
  repeat' (first | (with_reducible refine And.intro (by first | (unfold SOk; kernel_rfl) | (unfold SBOk; kernel_rfl) | (with_reducible assumption) | omega | assumption) ?_) | (with_reducible refine Br_intro (fun hc => ?_) (fun hc => ?_)) | ((first | (refine callR (by rfl) (by rfl) (by rfl) (l01Part_cv part _) ?_; rintro _ _ ⟨rfl, rfl⟩) | (refine callM (by rfl) (by rfl) (by rfl) (l01Part_cv part _) ?_; rintro _ _ ⟨rfl, rfl⟩) | (refine callMo (by rfl) (by rfl) (by rfl) (l01Part_cv part _) ?_; rintro _ _ ⟨rfl, rfl⟩) | (refine callE (by rfl) (l01Part_cv part _) (by rfl) ?_)); simp (config := { maxSteps := 1000000 }) (disch := omega) only [go_sem, Int.reduceToNat, ↓reduceIte, Nat.reduceLT, Nat.reduceEqDiff, Nat.reduceAdd, Nat.reduceMul, Nat.reduceSub, Nat.reduceBEq, Nat.reduceLeDiff, reduceCtorEq, Nat.reduceLT, ↓Br_true, ↓Br_false, bind, pure, sc58, sb58]) | ((first | (refine callR (by rfl) (by rfl) (by rfl) (l04Asked_cv _ 0 _ o d g l x t a (isPart part) hx (awnAt_lit o d g l)) ?_; rintro _ _ ⟨rfl, rfl⟩) | (refine callM (by rfl) (by rfl) (by rfl) (l04Asked_cv _ 0 _ o d g l x t a (isPart part) hx (awnAt_lit o d g l)) ?_; rintro _ _ ⟨rfl, rfl⟩) | (refine callMo (by rfl) (by rfl) (by rfl) (l04Asked_cv _ 0 _ o d g l x t a (isPart part) hx (awnAt_lit o d g l)) ?_; rintro _ _ ⟨rfl, rfl⟩) | (refine callE (by rfl) (l04Asked_cv _ 0 _ o d g l x t a (isPart part) hx (awnAt_lit o d g l)) (by rfl) ?_)); simp (config := { maxSteps := 1000000 }) (disch := omega) only [go_sem, Int.reduceToNat, ↓reduceIte, Nat.reduceLT, Nat.reduceEqDiff, Nat.reduceAdd, Nat.reduceMul, Nat.reduceSub, Nat.reduceBEq, Nat.reduceLeDiff, reduceCtorEq, Nat.reduceLT, ↓Br_true, ↓Br_false, bind, pure, sc58, sb58]) | ((with_reducible show WidN _ _ _ _ _ _ _ _); (first | refine widL (by decide) (by with_reducible assumption) ?_ | refine widL (by decide) (FWok_nn (by with_reducible assumption)) ?_ | refine widN (by decide) (fun c hc => ?_)); simp (config := { maxSteps := 1000000 }) (disch := omega) only [go_sem, Int.reduceToNat, ↓reduceIte, Nat.reduceLT, Nat.reduceEqDiff, Nat.reduceAdd, Nat.reduceMul, Nat.reduceSub, Nat.reduceBEq, Nat.reduceLeDiff, reduceCtorEq, Nat.reduceLT, ↓Br_true, ↓Br_false, bind, pure, sc58, sb58]))
  all_goals simp_all
theorem sOutForGood_cv (x : Nat → Int) (t : Nat) (a : Int) (o d g l part : Nat) (hx : Small x) (hc : askC o d g l x (inn t 0 23 && inn a 0 255 && isPart part) = 0) :
    CV Tryz.prog 58 [awnV o d g l, sunV x, .f (.int .i64 t), .f (.int .i64 a), .f (.flt .f32 part)] [] (fun v h => v = numV (outC x t a d g l part).1 (outC x t a d g l part).2 ∧ h = []) := by
  have hp := (askC_zero hc).2.2
  simp only [Bool.and_eq_true] at hp
  obtain ⟨⟨hp1, hp2⟩, hp3⟩ := hp
  have z := askC_zero hc
  have hq1 := hp1
  have hq2 := hp2
  rw [inn_true] at hq1 hq2
  have ht : t < 24 := by omega
  have pk := fun m (hm : In8 m) (hf : feq (fallF x t a) 0 = false) => partOk_of (a := a) z.2.1 ht (vAwning_in8 z.1 hm) hf
  have i0 : In8 0 := (halve_ok x t a d g l part 0).1
  have i8 : In8 1090519040 := (halve_ok x t a d g l part 0).2
  refine cv_of_run 1000 sc58 sb58 50 [.tmp 10, .tmp 11] tabOk (by kernel_rfl) Tryz.func58 rfl (by kernel_rfl) Tryz.ntmps58 rfl (by simp) rfl (by simp [bdL, SV.bd]) ?_
  simp (config := { maxSteps := 1000000 }) (disch := omega) only [go_sem, Int.reduceToNat, ↓reduceIte, Nat.reduceLT, Nat.reduceEqDiff, Nat.reduceAdd, Nat.reduceMul, Nat.reduceSub, Nat.reduceBEq, Nat.reduceLeDiff, reduceCtorEq, Nat.reduceLT, ↓Br_true, ↓Br_false, bind, pure, sc58, sb58]
  repeat' (first | (with_reducible refine And.intro (by first | (unfold SOk; kernel_rfl) | (unfold SBOk; kernel_rfl) | (with_reducible assumption) | omega | assumption) ?_) | (with_reducible refine Br_intro (fun hc => ?_) (fun hc => ?_)) | ((first | (refine callR (by rfl) (by rfl) (by rfl) (l01Part_cv part _) ?_; rintro _ _ ⟨rfl, rfl⟩) | (refine callM (by rfl) (by rfl) (by rfl) (l01Part_cv part _) ?_; rintro _ _ ⟨rfl, rfl⟩) | (refine callMo (by rfl) (by rfl) (by rfl) (l01Part_cv part _) ?_; rintro _ _ ⟨rfl, rfl⟩) | (refine callE (by rfl) (l01Part_cv part _) (by rfl) ?_)); simp (config := { maxSteps := 1000000 }) (disch := omega) only [go_sem, Int.reduceToNat, ↓reduceIte, Nat.reduceLT, Nat.reduceEqDiff, Nat.reduceAdd, Nat.reduceMul, Nat.reduceSub, Nat.reduceBEq, Nat.reduceLeDiff, reduceCtorEq, Nat.reduceLT, ↓Br_true, ↓Br_false, bind, pure, sc58, sb58, hc]) | ((first | (refine callR (by rfl) (by rfl) (by rfl) (l04Asked_cv _ 0 _ o d g l x t a (isPart part) hx (awnAt_lit o d g l)) ?_; rintro _ _ ⟨rfl, rfl⟩) | (refine callM (by rfl) (by rfl) (by rfl) (l04Asked_cv _ 0 _ o d g l x t a (isPart part) hx (awnAt_lit o d g l)) ?_; rintro _ _ ⟨rfl, rfl⟩) | (refine callMo (by rfl) (by rfl) (by rfl) (l04Asked_cv _ 0 _ o d g l x t a (isPart part) hx (awnAt_lit o d g l)) ?_; rintro _ _ ⟨rfl, rfl⟩) | (refine callE (by rfl) (l04Asked_cv _ 0 _ o d g l x t a (isPart part) hx (awnAt_lit o d g l)) (by rfl) ?_)); simp (config := { maxSteps := 1000000 }) (disch := omega) only [go_sem, Int.reduceToNat, ↓reduceIte, Nat.reduceLT, Nat.reduceEqDiff, Nat.reduceAdd, Nat.reduceMul, Nat.reduceSub, Nat.reduceBEq, Nat.reduceLeDiff, reduceCtorEq, Nat.reduceLT, ↓Br_true, ↓Br_false, bind, pure, sc58, sb58, hc]) | ((with_reducible show WidN _ _ _ _ _ _ _ _); (first | refine widL (by decide) (by with_reducible assumption) ?_ | refine widL (by decide) (FWok_nn (by with_reducible assumption)) ?_ | refine widN (by decide) (fun c hc => ?_)); simp (config := { maxSteps := 1000000 }) (disch := omega) only [go_sem, Int.reduceToNat, ↓reduceIte, Nat.reduceLT, Nat.reduceEqDiff, Nat.reduceAdd, Nat.reduceMul, Nat.reduceSub, Nat.reduceBEq, Nat.reduceLeDiff, reduceCtorEq, Nat.reduceLT, ↓Br_true, ↓Br_false, bind, pure, sc58, sb58, hc]))
  (first | (refine callR (by rfl) (by rfl) (by rfl) (l04With_cv x t a o d g l part _ hx ht (by omega) (by omega) (pk _ i8)) ?_; rintro _ _ ⟨rfl, rfl⟩) | (refine callM (by rfl) (by rfl) (by rfl) (l04With_cv x t a o d g l part _ hx ht (by omega) (by omega) (pk _ i8)) ?_; rintro _ _ ⟨rfl, rfl⟩) | (refine callMo (by rfl) (by rfl) (by rfl) (l04With_cv x t a o d g l part _ hx ht (by omega) (by omega) (pk _ i8)) ?_; rintro _ _ ⟨rfl, rfl⟩) | (refine callE (by rfl) (l04With_cv x t a o d g l part _ hx ht (by omega) (by omega) (pk _ i8)) (by rfl) ?_))
  simp (config := { maxSteps := 1000000 }) (disch := omega) only [go_sem, Int.reduceToNat, ↓reduceIte, Nat.reduceLT, Nat.reduceEqDiff, Nat.reduceAdd, Nat.reduceMul, Nat.reduceSub, Nat.reduceBEq, Nat.reduceLeDiff, reduceCtorEq, Nat.reduceLT, ↓Br_true, ↓Br_false, bind, pure, sc58, sb58]
  refine ⟨fun hc => ?_, fun hc => ?_⟩
  · simp only [Bool.not_eq_true'] at hc
    have e0 : en x t a d g l part 0 = false := by
      cases c : en x t a d g l part 0
      · rfl
      · rw [en_mono i0 i8 (by decide) z.2.1 ht (vAwning_in8 z.1 i0) c] at hc; cases hc
    simp [outC, e0, hc]
  · simp only [Bool.not_eq_false'] at hc
    have h8 := hc
    (first | (refine callR (by rfl) (by rfl) (by rfl) (l04With_cv x t a o d g l part _ hx ht (by omega) (by omega) (pk _ i0)) ?_; rintro _ _ ⟨rfl, rfl⟩) | (refine callM (by rfl) (by rfl) (by rfl) (l04With_cv x t a o d g l part _ hx ht (by omega) (by omega) (pk _ i0)) ?_; rintro _ _ ⟨rfl, rfl⟩) | (refine callMo (by rfl) (by rfl) (by rfl) (l04With_cv x t a o d g l part _ hx ht (by omega) (by omega) (pk _ i0)) ?_; rintro _ _ ⟨rfl, rfl⟩) | (refine callE (by rfl) (l04With_cv x t a o d g l part _ hx ht (by omega) (by omega) (pk _ i0)) (by rfl) ?_))
    simp (config := { maxSteps := 1000000 }) (disch := omega) only [go_sem, Int.reduceToNat, ↓reduceIte, Nat.reduceLT, Nat.reduceEqDiff, Nat.reduceAdd, Nat.reduceMul, Nat.reduceSub, Nat.reduceBEq, Nat.reduceLeDiff, reduceCtorEq, Nat.reduceLT, ↓Br_true, ↓Br_false, bind, pure, sc58, sb58]
    refine ⟨fun hc => ?_, fun hc => ?_⟩
    · simp [outC, hc]
    · have h1 := hc
      refine ⟨Nat, fun k => k ≤ 30, fun k => 30 - k, fun k => [(2, .f (.int .i64 t)), (3, .f (.int .i64 a)), (4, .f (.flt .f32 part)), (5, .ptr 0 0 0), (6, .ptr 1 0 0), (13, .f (.flt .f32 (halve x t a d g l part k).1)), (14, .f (.flt .f32 (halve x t a d g l part k).2)), (15, .f (.int .i64 k))], fun k => [.lit [.f (.flt .f32 o), .f (.flt .f32 d), .f (.flt .f32 g), .f (.flt .f32 l)] true, .cells 48 (fun j => .int .i16 (x j)) true], 0, (by intro _; simp), ?_, (by (try refine Or.inl ?_); simp [Cov, covE, covH, cb_dead, cb_lit, cb_rows, cb_cells, cd_lit, cd_rows, cd_cells, cd_dead, covRow, look, SV.known, SV.bd, bdL, halve] <;> omega), ?_⟩
      · omega
      · intro k hk
        by_cases hlt : k < 30
        · have hd : decide ((k : Int) < 30) = true := decide_eq_true (by omega)
          have hh := halve_ok x t a d g l part k
          have hm := mid_ok hh.1 hh.2
          simp (config := { maxSteps := 1000000 }) (disch := omega) only [go_sem, Int.reduceToNat, ↓reduceIte, Nat.reduceLT, Nat.reduceEqDiff, Nat.reduceAdd, Nat.reduceMul, Nat.reduceSub, Nat.reduceBEq, Nat.reduceLeDiff, reduceCtorEq, Nat.reduceLT, ↓Br_true, ↓Br_false, bind, pure, sc58, sb58, hd]
          refine ⟨hm.1, hm.2.1, ?_⟩
          (first | (refine callR (by rfl) (by rfl) (by rfl) (l04With_cv x t a o d g l part _ hx ht (by omega) (by omega) (pk _ hm.2.2)) ?_; rintro _ _ ⟨rfl, rfl⟩) | (refine callM (by rfl) (by rfl) (by rfl) (l04With_cv x t a o d g l part _ hx ht (by omega) (by omega) (pk _ hm.2.2)) ?_; rintro _ _ ⟨rfl, rfl⟩) | (refine callMo (by rfl) (by rfl) (by rfl) (l04With_cv x t a o d g l part _ hx ht (by omega) (by omega) (pk _ hm.2.2)) ?_; rintro _ _ ⟨rfl, rfl⟩) | (refine callE (by rfl) (l04With_cv x t a o d g l part _ hx ht (by omega) (by omega) (pk _ hm.2.2)) (by rfl) ?_))
          simp (config := { maxSteps := 1000000 }) (disch := omega) only [go_sem, Int.reduceToNat, ↓reduceIte, Nat.reduceLT, Nat.reduceEqDiff, Nat.reduceAdd, Nat.reduceMul, Nat.reduceSub, Nat.reduceBEq, Nat.reduceLeDiff, reduceCtorEq, Nat.reduceLT, ↓Br_true, ↓Br_false, bind, pure, sc58, sb58, hd]
          refine ⟨fun hc => ?_, fun hc => ?_⟩
          · exact ⟨k + 1, by omega, by omega, by (try refine Or.inl ?_); simp [Cov, covE, covH, cb_dead, cb_lit, cb_rows, cb_cells, cd_lit, cd_rows, cd_cells, cd_dead, covRow, look, SV.known, SV.bd, bdL, halve, hc] <;> omega⟩
          · exact ⟨k + 1, by omega, by omega, by (try refine Or.inl ?_); simp [Cov, covE, covH, cb_dead, cb_lit, cb_rows, cb_cells, cd_lit, cd_rows, cd_cells, cd_dead, covRow, look, SV.known, SV.bd, bdL, halve, hc] <;> omega⟩
        · have hd : decide ((k : Int) < 30) = false := decide_eq_false (by omega)
          simp (config := { maxSteps := 1000000 }) (disch := omega) only [go_sem, Int.reduceToNat, ↓reduceIte, Nat.reduceLT, Nat.reduceEqDiff, Nat.reduceAdd, Nat.reduceMul, Nat.reduceSub, Nat.reduceBEq, Nat.reduceLeDiff, reduceCtorEq, Nat.reduceLT, ↓Br_true, ↓Br_false, bind, pure, sc58, sb58, hd]
          obtain rfl : k = 30 := by omega
          simp [outC, h1, h8]
def outN (x : Nat → Int) (t a : Int) (o d g l part : Nat) : Nat × Int :=
  let c := askC o d g l x (inn t 0 23 && inn a 0 255 && isPart part)
  if c = 0 then outC x t.toNat a d g l part else (0, c)
theorem outN_cv {f : FuncId} {x : Nat → Int} {t a : Int} {o d g l part : Nat} {args : List SV} (h1 : askC o d g l x (inn t 0 23 && inn a 0 255 && isPart part) ≠ 0 → CV Tryz.prog f args [] (fun v h => v = numV 0 (askC o d g l x (inn t 0 23 && inn a 0 255 && isPart part)) ∧ h = []))
    (h2 : askC o d g l x (inn t 0 23 && inn a 0 255 && isPart part) = 0 → CV Tryz.prog f args [] (fun v h => v = numV (outC x t.toNat a d g l part).1 (outC x t.toNat a d g l part).2 ∧ h = [])) :
    CV Tryz.prog f args [] (fun v h => v = numV (outN x t a o d g l part).1 (outN x t a o d g l part).2 ∧ h = []) := by
  unfold outN
  by_cases c : askC o d g l x (inn t 0 23 && inn a 0 255 && isPart part) = 0
  · simp only [c, if_true]; exact h2 c
  · simp only [c, if_false]; exact h1 c
theorem sOutFor_cv (x : Nat → Int) (t a : Int) (o d g l part : Nat) (hx : Small x) :
    CV Tryz.prog 58 [awnV o d g l, sunV x, .f (.int .i64 t), .f (.int .i64 a), .f (.flt .f32 part)] [] (fun v h => v = numV (outN x t a o d g l part).1 (outN x t a o d g l part).2 ∧ h = []) :=
  outN_cv (sOutForBad_cv x t a o d g l part hx) fun hc => by
    obtain ⟨n, rfl, _⟩ := ask_hour hc
    exact sOutForGood_cv x n a o d g l part hx hc
theorem OutFor_cv (x : Nat → Int) (t a : Int) (o d g l part : Nat) (hx : Small x) :
    CV Tryz.prog 57 [awnV o d g l, sunV x, .f (.int .i64 t), .f (.int .i64 a), .f (.flt .f32 part)] [] (fun v h => v = numV (outN x t a o d g l part).1 (outN x t a o d g l part).2 ∧ h = []) :=
  outN_cv (OutForBad_cv x t a o d g l part hx) fun hc => by
    obtain ⟨n, rfl, _⟩ := ask_hour hc
    exact OutForGood_cv x n a o d g l part hx hc
theorem outN_nn (x : Nat → Int) (t a : Int) (o d g l part : Nat) : nn (outN x t a o d g l part).1 := by
  unfold outN
  simp only []
  split
  · unfold outC
    split
    · show nn 0; decide
    · split
      · exact (halve_ok x t.toNat a d g l part 30).2.1.1.nn
      · show nn 0; decide
  · show nn 0; decide
end Go.Proofs.YtpcnpmhpelbndaaGreatDoor.Vx
