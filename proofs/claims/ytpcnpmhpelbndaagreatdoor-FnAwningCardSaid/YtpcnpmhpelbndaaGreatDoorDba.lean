/- Draws, in the abstract: gusts, suns, awnings, trees. -/
import Derived.Test.YtpcnpmhpelbndaaGreatDoorDa
import Derived.Test.YtpcnpmhpelbndaaGreatDoorGs
namespace Go.Proofs.YtpcnpmhpelbndaaGreatDoor.Vx
open Go Go.RowKit Fl
set_option maxRecDepth 100000
set_option maxHeartbeats 2000000
set_option linter.unusedSimpArgs false
set_option linter.unusedVariables false

def updN (x : Nat → Nat) (k z : Nat) : Nat → Nat := fun j => if j = k then z else x j
def updZ (x : Nat → Int) (k : Nat) (z : Int) : Nat → Int := fun j => if j = k then z else x j
theorem updC_flt (x : Nat → Nat) (k z : Nat) : updC (fun j => .flt .f32 (x j)) k (.flt .f32 z) = fun j => .flt .f32 (updN x k z j) := by
  funext j; unfold updC updN; split <;> rfl
theorem updC_i16 (x : Nat → Int) (k : Nat) (z : Int) : updC (fun j => .int .i16 (x j)) k (.int .i16 z) = fun j => .int .i16 (updZ x k z j) := by
  funext j; unfold updC updZ; split <;> rfl
/-- A gust that is drawn: from 0 to 11.5. -/
def Gst (x : Nat) : Prop := F0 x ∧ key x ≤ key 1094189056
theorem gst_quo {n : Int} (h0 : 0 ≤ n) (h1 : n < 24) : DivOk (fofInt n) 1073741824 ∧ Gst (fdiv (fofInt n) 1073741824) := by
  obtain ⟨a, b, c⟩ := quo_ok (m := 23) (d := 1073741824) (T := key 1094189056) h0 (by omega) (by omega) (by decide) (by decide) (by decide) (by decide)
  exact ⟨a, b, c⟩
theorem gst_step {x : Nat → Nat} {k z : Nat} (h : ∀ j, j < k → Gst (x j)) (hz : Gst z) : ∀ j, j < k + 1 → Gst (updN x k z j) := fun j hj => by
  unfold updN; split
  · exact hz
  · exact h j (by omega)
theorem dmax_cv (a b : Int) (h : List Blk) : CV Tryz.prog 149 [.f (.int .i64 a), .f (.int .i64 b)] [] (fun v hh => ∃ m, v = .f (.int .i64 m) ∧ a ≤ m ∧ b ≤ m ∧ (m = a ∨ m = b) ∧ hh = []) := by
  refine cv_of_run 1000 sc149 sb149 10 [.tmp 4] tabOk (by kernel_rfl) Tryz.func149 rfl (by kernel_rfl) Tryz.ntmps149 rfl (by simp) rfl (by simp [bdL, SV.bd]) ?_
  simp (config := { maxSteps := 1000000 }) (disch := omega) only [go_sem, Int.reduceToNat, ↓reduceIte, Nat.reduceLT, Nat.reduceEqDiff, Nat.reduceAdd, Nat.reduceMul, Nat.reduceSub, Nat.reduceBEq, Nat.reduceLeDiff, reduceCtorEq, Nat.reduceLT, ↓Br_true, ↓Br_false, bind, pure, sc149, sb149]
  refine ⟨fun hc => ?_, fun hc => ?_⟩
  · simp only [decide_eq_true_eq] at hc
    exact ⟨_, rfl, by omega, by omega, by omega⟩
  · simp only [decide_eq_false_iff_not] at hc
    exact ⟨_, rfl, by omega, by omega, by omega⟩
theorem dmin_cv (a b : Int) (h : List Blk) : CV Tryz.prog 130 [.f (.int .i64 a), .f (.int .i64 b)] [] (fun v hh => ∃ m, v = .f (.int .i64 m) ∧ m ≤ a ∧ m ≤ b ∧ (m = a ∨ m = b) ∧ hh = []) := by
  refine cv_of_run 1000 sc130 sb130 10 [.tmp 4] tabOk (by kernel_rfl) Tryz.func130 rfl (by kernel_rfl) Tryz.ntmps130 rfl (by simp) rfl (by simp [bdL, SV.bd]) ?_
  simp (config := { maxSteps := 1000000 }) (disch := omega) only [go_sem, Int.reduceToNat, ↓reduceIte, Nat.reduceLT, Nat.reduceEqDiff, Nat.reduceAdd, Nat.reduceMul, Nat.reduceSub, Nat.reduceBEq, Nat.reduceLeDiff, reduceCtorEq, Nat.reduceLT, ↓Br_true, ↓Br_false, bind, pure, sc130, sb130]
  refine ⟨fun hc => ?_, fun hc => ?_⟩
  · simp only [decide_eq_true_eq] at hc
    exact ⟨_, rfl, by omega, by omega, by omega⟩
  · simp only [decide_eq_false_iff_not] at hc
    exact ⟨_, rfl, by omega, by omega, by omega⟩
def SunI (x : Nat → Int) (k : Nat) : Prop := (∀ j, -64 ≤ x j ∧ x j ≤ 255) ∧ ∀ j, j < k → x j ≤ 64 ∧ 0 ≤ x (24 + j)
theorem SunI.step {x : Nat → Int} {k : Nat} {a b : Int} (h : SunI x k) (hk : k < 24) (ha : -64 ≤ a ∧ a ≤ 64) (hb : 0 ≤ b ∧ b ≤ 255) : SunI (updZ (updZ x k a) (24 + k) b) (k + 1) := by
  refine ⟨fun j => ?_, fun j hj => ?_⟩
  · have := h.1 j
    unfold updZ
    split
    · omega
    · split <;> omega
  · unfold updZ
    rw [if_neg (by omega)]
    by_cases c : j = k
    · subst c; rw [if_pos rfl, if_pos rfl]; omega
    · have := h.2 j (by omega)
      rw [if_neg c, if_neg (by omega), if_neg (by omega)]; exact this
theorem SunI.small {x : Nat → Int} {k : Nat} (h : SunI x k) : Small x := fun j => by have := h.1 j; omega
theorem SunI.valid {x : Nat → Int} (h : SunI x 24) : vSun x = true := by
  unfold vSun
  rw [List.all_eq_true]
  intro j hj
  have := h.2 j (by simpa using hj)
  have a := h.1 j
  have b := h.1 (24 + j)
  simp only [sunH, Bool.and_eq_true, inn_true]
  omega
theorem b8 {n m : Int} {T : Int} (h0 : 0 ≤ n) (h1 : n ≤ m) (hm : m ≤ 16777216) (hT : key (fdiv (fofInt m) 1090519040) ≤ T) (hi : T < 2139095040) : DivOk (fofInt n) 1090519040 ∧ F0 (fdiv (fofInt n) 1090519040) ∧ key (fdiv (fofInt n) 1090519040) ≤ T :=
  quo_ok h0 h1 hm (by decide) (by decide) hT hi
def Bnd (x t : Nat) : Prop := F0 x ∧ key x ≤ key t
theorem bnd_btw {x t : Nat} (h : Bnd x t) (ht : fin t) : btw x 0 t = true := by
  unfold btw
  rw [fle_of (by decide) h.1.1.nn (by have := h.1.2; exact this), fle_of h.1.1.nn ht.nn h.2]; rfl
theorem awn_ok {o d g l : Nat} (ho : Bnd o 1090519040) (hd : Bnd d 1073741824) (hg : Bnd g 1073741824) (hl : Bnd l 1082130432 ∧ key 1040187392 ≤ key l) : vAwning o d g l = true := by
  unfold vAwning
  rw [bnd_btw ho (by decide), bnd_btw hd (by decide), bnd_btw hg (by decide)]
  unfold btw
  rw [fle_of (by decide) hl.1.1.1.nn hl.2, fle_of hl.1.1.1.nn (by decide) hl.1.2]; rfl
theorem mul8 {x : Nat} (h : Prt x) : MulOk x 1090519040 ∧ Bnd (fmul x 1090519040) 1090519040 := by
  have e : F0 1090519040 := ⟨by decide, by decide⟩
  have o : F0 1065353216 := ⟨by decide, by decide⟩
  obtain ⟨m1, m2⟩ := mul_F0 h.1 e
  have k := mul_mono h.1 e o e h.2 (Int.le_refl _)
  have k1 : key (fmul 1065353216 1090519040) = key 1090519040 := by decide
  rw [k1] at k
  exact ⟨m1, F0_of_le m2 (by decide) k, k⟩
theorem tall_ok {n : Int} (h0 : 0 ≤ n) (h1 : n < 32) : DivOk (fofInt (1 + n)) 1090519040 ∧ Bnd (fdiv (fofInt (1 + n)) 1090519040) 1082130432 ∧ key 1040187392 ≤ key (fdiv (fofInt (1 + n)) 1090519040) := by
  obtain ⟨a, b, c⟩ := b8 (n := 1 + n) (m := 32) (T := key 1082130432) (by omega) (by omega) (by omega) (by decide) (by decide)
  have k := div_mono (ofInt_F0 (n := 1) (by omega) (by omega)).1 (ofInt_F0 (n := 1 + n) (by omega) (by omega)).1 (by decide : fin 1090519040) (by decide) (ofInt_mono (show (1 : Int) ≤ 1 + n by omega))
  exact ⟨a, ⟨b, c⟩, Int.le_trans (by decide) k⟩
/-- Trees that are drawn. -/
theorem sunDS_cv (n cap : Nat) (f : Nat → List FV) (hB : BytesAt n f) (hcap : n ≤ cap) (hn : n ≤ 4096) (a sd : Int) (ha : 0 ≤ a ∧ a ≤ 1000) :
    CV Tryz.prog 103 [.ptr 0 0 0] [srcS n cap a sd, .rows n cap 1 f false] (fun v h => ∃ (x : Nat → Int) (a' s' : Int), SunI x 24 ∧ v = sunV x ∧ h = [srcS n cap a' s', .rows n cap 1 f false]) := by
  have e0 : constF (FV.int .i16 0) = fun _ => FV.int .i16 0 := rfl
  refine cv_of_run 1000 sc103 sb103 57 [.cell 2 72] tabOk (by kernel_rfl) Tryz.func103 rfl (by kernel_rfl) Tryz.ntmps103 rfl (by simp) rfl (by simp [bdL, SV.bd]) ?_
  simp (config := { maxSteps := 1000000 }) (disch := omega) only [go_sem, Int.reduceToNat, ↓reduceIte, Nat.reduceLT, Nat.reduceEqDiff, Nat.reduceAdd, Nat.reduceMul, Nat.reduceSub, Nat.reduceBEq, Nat.reduceLeDiff, reduceCtorEq, Nat.reduceLT, ↓Br_true, ↓Br_false, bind, pure, sc103, sb103]
  repeat (with_reducible refine And.intro (by first | omega | assumption | (unfold SOk; kernel_rfl) | (unfold SBOk; kernel_rfl)) ?_)
  have cc := pickS_cv n cap f hB hcap hn a sd 56 (by omega) (by omega); (first | refine callR (by rfl) (by rfl) (by rfl) cc ?_ | refine callM (by rfl) (by rfl) (by rfl) cc ?_ | refine callMo (by rfl) (by rfl) (by rfl) cc ?_ | refine callG (by rfl) (by rfl) (by rfl) cc ?_ | refine callW (by rfl) (by first | rfl | (simp [ofL, kpB, kpR, ofB, isOwnB, isDead, inL, hget]; done)) (by rfl) (by rfl) cc ?_); clear cc; rintro _ _ ⟨top, a1, s1, rfl, ht, ha1, rfl⟩
  simp (config := { maxSteps := 1000000 }) (disch := omega) only [go_sem, Int.reduceToNat, ↓reduceIte, Nat.reduceLT, Nat.reduceEqDiff, Nat.reduceAdd, Nat.reduceMul, Nat.reduceSub, Nat.reduceBEq, Nat.reduceLeDiff, reduceCtorEq, Nat.reduceLT, ↓Br_true, ↓Br_false, bind, pure, sc103, sb103]
  repeat (with_reducible refine And.intro (by first | omega | assumption | (unfold SOk; kernel_rfl) | (unfold SBOk; kernel_rfl)) ?_)
  have cc := pickS_cv n cap f hB hcap hn a1 s1 256 (by omega) (by omega); (first | refine callR (by rfl) (by rfl) (by rfl) cc ?_ | refine callM (by rfl) (by rfl) (by rfl) cc ?_ | refine callMo (by rfl) (by rfl) (by rfl) cc ?_ | refine callG (by rfl) (by rfl) (by rfl) cc ?_ | refine callW (by rfl) (by first | rfl | (simp [ofL, kpB, kpR, ofB, isOwnB, isDead, inL, hget]; done)) (by rfl) (by rfl) cc ?_); clear cc; rintro _ _ ⟨turn, a2, s2, rfl, hu, ha2, rfl⟩
  simp (config := { maxSteps := 1000000 }) (disch := omega) only [go_sem, Int.reduceToNat, ↓reduceIte, Nat.reduceLT, Nat.reduceEqDiff, Nat.reduceAdd, Nat.reduceMul, Nat.reduceSub, Nat.reduceBEq, Nat.reduceLeDiff, reduceCtorEq, Nat.reduceLT, ↓Br_true, ↓Br_false, bind, pure, sc103, sb103]
  repeat (with_reducible refine And.intro (by first | omega | assumption | (unfold SOk; kernel_rfl) | (unfold SBOk; kernel_rfl)) ?_)
  have cc := pickS_cv n cap f hB hcap hn a2 s2 10 (by omega) (by omega); (first | refine callR (by rfl) (by rfl) (by rfl) cc ?_ | refine callM (by rfl) (by rfl) (by rfl) cc ?_ | refine callMo (by rfl) (by rfl) (by rfl) cc ?_ | refine callG (by rfl) (by rfl) (by rfl) cc ?_ | refine callW (by rfl) (by first | rfl | (simp [ofL, kpB, kpR, ofB, isOwnB, isDead, inL, hget]; done)) (by rfl) (by rfl) cc ?_); clear cc; rintro _ _ ⟨rise, a3, s3, rfl, hr, ha3, rfl⟩
  simp (config := { maxSteps := 1000000 }) (disch := omega) only [go_sem, Int.reduceToNat, ↓reduceIte, Nat.reduceLT, Nat.reduceEqDiff, Nat.reduceAdd, Nat.reduceMul, Nat.reduceSub, Nat.reduceBEq, Nat.reduceLeDiff, reduceCtorEq, Nat.reduceLT, ↓Br_true, ↓Br_false, bind, pure, sc103, sb103]
  refine ⟨(Nat × Int × Int × (Nat → Int)), fun s => s.1 ≤ 24 ∧ (0 ≤ s.2.1 ∧ s.2.1 ≤ 1006 + 6 * (s.1 : Int)) ∧ SunI s.2.2.2 s.1, fun s => 24 - s.1, fun s => [(0, .ptr 0 0 0), (2, .ptr 2 0 0), (3, .ptr 3 0 0), (4, .f (.int .i64 (8 + top))), (5, .f (.int .i64 turn)), (6, .f (.int .i64 rise)), (7, .f (.int .i64 s.1))], fun s => [srcS n cap s.2.1 s.2.2.1, .rows n cap 1 f false, .cells 48 (fun _ => .int .i16 0) true, .cells 48 (fun j => .int .i16 (s.2.2.2 j)) true], (0, a3, s3, fun _ => 0), (by intro _; simp), ?_, (by (try refine Or.inl ?_); simp [Cov, covE, covH, cb_dead, cb_lit, cb_rows, cb_cells, cd_lit, cd_rows, cd_cells, cd_dead, covRow, look, SV.known, SV.bd, bdL, e0, hcap] <;> omega), ?_⟩
  · exact ⟨by omega, by simp only; omega, fun j => by simp, fun j hj => by omega⟩
  · rintro ⟨k, a4, s4, x⟩ ⟨hk, ha4, hx⟩
    simp only at hk ha4 hx
    by_cases hlt : k < 24
    · have hd : decide ((k : Int) < 24) = true := decide_eq_true (by omega)
      simp (config := { maxSteps := 1000000 }) (disch := omega) only [go_sem, Int.reduceToNat, ↓reduceIte, Nat.reduceLT, Nat.reduceEqDiff, Nat.reduceAdd, Nat.reduceMul, Nat.reduceSub, Nat.reduceBEq, Nat.reduceLeDiff, reduceCtorEq, Nat.reduceLT, ↓Br_true, ↓Br_false, bind, pure, sc103, sb103, hd]
      (first | (refine callR (by rfl) (by rfl) (by rfl) (dmax_cv _ _ []) ?_; rintro _ _ ⟨m, rfl, hm1, hm2, hm3, rfl⟩) | (refine callM (by rfl) (by rfl) (by rfl) (dmax_cv _ _ []) ?_; rintro _ _ ⟨m, rfl, hm1, hm2, hm3, rfl⟩) | (refine callG (by rfl) (by rfl) (by rfl) (dmax_cv _ _ []) ?_; rintro _ _ ⟨m, rfl, hm1, hm2, hm3, rfl⟩))
      simp (config := { maxSteps := 1000000 }) (disch := omega) only [go_sem, Int.reduceToNat, ↓reduceIte, Nat.reduceLT, Nat.reduceEqDiff, Nat.reduceAdd, Nat.reduceMul, Nat.reduceSub, Nat.reduceBEq, Nat.reduceLeDiff, reduceCtorEq, Nat.reduceLT, ↓Br_true, ↓Br_false, bind, pure, sc103, sb103]
      have cc := oneS_cv n cap f hB hcap hn a4 s4 6 (by omega) (by omega); (first | refine callR (by rfl) (by rfl) (by rfl) cc ?_ | refine callM (by rfl) (by rfl) (by rfl) cc ?_ | refine callMo (by rfl) (by rfl) (by rfl) cc ?_ | refine callG (by rfl) (by rfl) (by rfl) cc ?_ | refine callW (by rfl) (by first | rfl | (simp [ofL, kpB, kpR, ofB, isOwnB, isDead, inL, hget]; done)) (by rfl) (by rfl) cc ?_); clear cc; rintro _ _ ⟨t, a5, s5, rfl, ha5, rfl⟩
      simp (config := { maxSteps := 1000000 }) (disch := omega) only [go_sem, Int.reduceToNat, ↓reduceIte, Nat.reduceLT, Nat.reduceEqDiff, Nat.reduceAdd, Nat.reduceMul, Nat.reduceSub, Nat.reduceBEq, Nat.reduceLeDiff, reduceCtorEq, Nat.reduceLT, ↓Br_true, ↓Br_false, bind, pure, sc103, sb103]
      refine ⟨fun hc => ?_, fun hc => ?_⟩
      · have cc := pickS_cv n cap f hB hcap hn a5 s5 129 (by omega) (by omega); (first | refine callR (by rfl) (by rfl) (by rfl) cc ?_ | refine callM (by rfl) (by rfl) (by rfl) cc ?_ | refine callMo (by rfl) (by rfl) (by rfl) cc ?_ | refine callG (by rfl) (by rfl) (by rfl) cc ?_ | refine callW (by rfl) (by first | rfl | (simp [ofL, kpB, kpR, ofB, isOwnB, isDead, inL, hget]; done)) (by rfl) (by rfl) cc ?_); clear cc; rintro _ _ ⟨p, a6, s6, rfl, hp, ha6, rfl⟩
        simp (config := { maxSteps := 1000000 }) (disch := omega) only [go_sem, Int.reduceToNat, ↓reduceIte, Nat.reduceLT, Nat.reduceEqDiff, Nat.reduceAdd, Nat.reduceMul, Nat.reduceSub, Nat.reduceBEq, Nat.reduceLeDiff, reduceCtorEq, Nat.reduceLT, ↓Br_true, ↓Br_false, bind, pure, sc103, sb103]
        (first | (refine callR (by rfl) (by rfl) (by rfl) (dmin_cv _ _ []) ?_; rintro _ _ ⟨m2, rfl, hn1, hn2, hn3, rfl⟩) | (refine callM (by rfl) (by rfl) (by rfl) (dmin_cv _ _ []) ?_; rintro _ _ ⟨m2, rfl, hn1, hn2, hn3, rfl⟩) | (refine callG (by rfl) (by rfl) (by rfl) (dmin_cv _ _ []) ?_; rintro _ _ ⟨m2, rfl, hn1, hn2, hn3, rfl⟩))
        simp (config := { maxSteps := 1000000 }) (disch := omega) only [go_sem, Int.reduceToNat, ↓reduceIte, Nat.reduceLT, Nat.reduceEqDiff, Nat.reduceAdd, Nat.reduceMul, Nat.reduceSub, Nat.reduceBEq, Nat.reduceLeDiff, reduceCtorEq, Nat.reduceLT, ↓Br_true, ↓Br_false, bind, pure, sc103, sb103]
        (first | (refine callR (by rfl) (by rfl) (by rfl) (dmax_cv _ _ []) ?_; rintro _ _ ⟨m3, rfl, ho1, ho2, ho3, rfl⟩) | (refine callM (by rfl) (by rfl) (by rfl) (dmax_cv _ _ []) ?_; rintro _ _ ⟨m3, rfl, ho1, ho2, ho3, rfl⟩) | (refine callG (by rfl) (by rfl) (by rfl) (dmax_cv _ _ []) ?_; rintro _ _ ⟨m3, rfl, ho1, ho2, ho3, rfl⟩))
        simp (config := { maxSteps := 1000000 }) (disch := omega) only [go_sem, Int.reduceToNat, ↓reduceIte, Nat.reduceLT, Nat.reduceEqDiff, Nat.reduceAdd, Nat.reduceMul, Nat.reduceSub, Nat.reduceBEq, Nat.reduceLeDiff, reduceCtorEq, Nat.reduceLT, ↓Br_true, ↓Br_false, bind, pure, sc103, sb103]
        refine ⟨by omega, ?_⟩
        have cc := pickS_cv n cap f hB hcap hn a6 s6 4 (by omega) (by omega); (first | refine callR (by rfl) (by rfl) (by rfl) cc ?_ | refine callM (by rfl) (by rfl) (by rfl) cc ?_ | refine callMo (by rfl) (by rfl) (by rfl) cc ?_ | refine callG (by rfl) (by rfl) (by rfl) cc ?_ | refine callW (by rfl) (by first | rfl | (simp [ofL, kpB, kpR, ofB, isOwnB, isDead, inL, hget]; done)) (by rfl) (by rfl) cc ?_); clear cc; rintro _ _ ⟨q, a7, s7, rfl, hq, ha7, rfl⟩
        simp (config := { maxSteps := 1000000 }) (disch := omega) only [go_sem, Int.reduceToNat, ↓reduceIte, Nat.reduceLT, Nat.reduceEqDiff, Nat.reduceAdd, Nat.reduceMul, Nat.reduceSub, Nat.reduceBEq, Nat.reduceLeDiff, reduceCtorEq, Nat.reduceLT, ↓Br_true, ↓Br_false, bind, pure, sc103, sb103]
        have hz := tm_ok (b := turn + 10 * (k : Int) + q) (k := 256) (by omega) (by omega)
        have hw : IntKind.i16.wrap ((turn + 10 * (k : Int) + q).tmod 256) = (turn + 10 * (k : Int) + q).tmod 256 := wr_i16 _ (by omega) (by omega)
        exact ⟨by omega, by omega, by omega, (k + 1, a7, s7, updZ (updZ x k m3) (24 + k) ((turn + 10 * (k : Int) + q).tmod 256)), ⟨by omega, by simp only; omega, hx.step hlt (by omega) (by omega)⟩, by simp only; omega, by (try refine Or.inl ?_); simp [Cov, covE, covH, cb_dead, cb_lit, cb_rows, cb_cells, cd_lit, cd_rows, cd_cells, cd_dead, covRow, look, SV.known, SV.bd, bdL, hw, updC_i16, hcap] <;> omega⟩
      · (first | (refine callR (by rfl) (by rfl) (by rfl) (dmin_cv _ _ []) ?_; rintro _ _ ⟨m2, rfl, hn1, hn2, hn3, rfl⟩) | (refine callM (by rfl) (by rfl) (by rfl) (dmin_cv _ _ []) ?_; rintro _ _ ⟨m2, rfl, hn1, hn2, hn3, rfl⟩) | (refine callG (by rfl) (by rfl) (by rfl) (dmin_cv _ _ []) ?_; rintro _ _ ⟨m2, rfl, hn1, hn2, hn3, rfl⟩))
        simp (config := { maxSteps := 1000000 }) (disch := omega) only [go_sem, Int.reduceToNat, ↓reduceIte, Nat.reduceLT, Nat.reduceEqDiff, Nat.reduceAdd, Nat.reduceMul, Nat.reduceSub, Nat.reduceBEq, Nat.reduceLeDiff, reduceCtorEq, Nat.reduceLT, ↓Br_true, ↓Br_false, bind, pure, sc103, sb103]
        (first | (refine callR (by rfl) (by rfl) (by rfl) (dmax_cv _ _ []) ?_; rintro _ _ ⟨m3, rfl, ho1, ho2, ho3, rfl⟩) | (refine callM (by rfl) (by rfl) (by rfl) (dmax_cv _ _ []) ?_; rintro _ _ ⟨m3, rfl, ho1, ho2, ho3, rfl⟩) | (refine callG (by rfl) (by rfl) (by rfl) (dmax_cv _ _ []) ?_; rintro _ _ ⟨m3, rfl, ho1, ho2, ho3, rfl⟩))
        simp (config := { maxSteps := 1000000 }) (disch := omega) only [go_sem, Int.reduceToNat, ↓reduceIte, Nat.reduceLT, Nat.reduceEqDiff, Nat.reduceAdd, Nat.reduceMul, Nat.reduceSub, Nat.reduceBEq, Nat.reduceLeDiff, reduceCtorEq, Nat.reduceLT, ↓Br_true, ↓Br_false, bind, pure, sc103, sb103]
        refine ⟨by omega, ?_⟩
        have cc := pickS_cv n cap f hB hcap hn a5 s5 4 (by omega) (by omega); (first | refine callR (by rfl) (by rfl) (by rfl) cc ?_ | refine callM (by rfl) (by rfl) (by rfl) cc ?_ | refine callMo (by rfl) (by rfl) (by rfl) cc ?_ | refine callG (by rfl) (by rfl) (by rfl) cc ?_ | refine callW (by rfl) (by first | rfl | (simp [ofL, kpB, kpR, ofB, isOwnB, isDead, inL, hget]; done)) (by rfl) (by rfl) cc ?_); clear cc; rintro _ _ ⟨q, a7, s7, rfl, hq, ha7, rfl⟩
        simp (config := { maxSteps := 1000000 }) (disch := omega) only [go_sem, Int.reduceToNat, ↓reduceIte, Nat.reduceLT, Nat.reduceEqDiff, Nat.reduceAdd, Nat.reduceMul, Nat.reduceSub, Nat.reduceBEq, Nat.reduceLeDiff, reduceCtorEq, Nat.reduceLT, ↓Br_true, ↓Br_false, bind, pure, sc103, sb103]
        have hz := tm_ok (b := turn + 10 * (k : Int) + q) (k := 256) (by omega) (by omega)
        have hw : IntKind.i16.wrap ((turn + 10 * (k : Int) + q).tmod 256) = (turn + 10 * (k : Int) + q).tmod 256 := wr_i16 _ (by omega) (by omega)
        exact ⟨by omega, by omega, by omega, (k + 1, a7, s7, updZ (updZ x k m3) (24 + k) ((turn + 10 * (k : Int) + q).tmod 256)), ⟨by omega, by simp only; omega, hx.step hlt (by omega) (by omega)⟩, by simp only; omega, by (try refine Or.inl ?_); simp [Cov, covE, covH, cb_dead, cb_lit, cb_rows, cb_cells, cd_lit, cd_rows, cd_cells, cd_dead, covRow, look, SV.known, SV.bd, bdL, hw, updC_i16, hcap] <;> omega⟩
    · have hd : decide ((k : Int) < 24) = false := decide_eq_false (by omega)
      obtain rfl : k = 24 := by omega
      simp (config := { maxSteps := 1000000 }) (disch := omega) only [go_sem, Int.reduceToNat, ↓reduceIte, Nat.reduceLT, Nat.reduceEqDiff, Nat.reduceAdd, Nat.reduceMul, Nat.reduceSub, Nat.reduceBEq, Nat.reduceLeDiff, reduceCtorEq, Nat.reduceLT, ↓Br_true, ↓Br_false, bind, pure, sc103, sb103, hd]
      exact ⟨x, _, _, hx, rfl, rfl⟩
theorem P6SunS_cv (n cap : Nat) (f : Nat → List FV) (hB : BytesAt n f) (hcap : n ≤ cap) (hn : n ≤ 4096) :
    CV Tryz.prog 38 [.slc 0 0 n cap] [.rows n cap 1 f false] (fun v h => ∃ x : Nat → Int, SunI x 24 ∧ v = sunV x ∧ h = [.rows n cap 1 f false]) := by
  refine cv_of_run 1000 sc38 sb38 6 [.cell 2 72] tabOk (by kernel_rfl) Tryz.func38 rfl (by kernel_rfl) Tryz.ntmps38 rfl (by simp) rfl (by simp [bdL, SV.bd]) ?_
  simp (config := { maxSteps := 1000000 }) (disch := omega) only [go_sem, Int.reduceToNat, ↓reduceIte, Nat.reduceLT, Nat.reduceEqDiff, Nat.reduceAdd, Nat.reduceMul, Nat.reduceSub, Nat.reduceBEq, Nat.reduceLeDiff, reduceCtorEq, Nat.reduceLT, ↓Br_true, ↓Br_false, bind, pure, sc38, sb38]
  have cc := fromS_cv n cap f hB hcap hn; (first | refine callR (by rfl) (by rfl) (by rfl) cc ?_ | refine callM (by rfl) (by rfl) (by rfl) cc ?_ | refine callMo (by rfl) (by rfl) (by rfl) cc ?_ | refine callG (by rfl) (by rfl) (by rfl) cc ?_ | refine callW (by rfl) (by first | rfl | (simp [ofL, kpB, kpR, ofB, isOwnB, isDead, inL, hget]; done)) (by rfl) (by rfl) cc ?_); clear cc; rintro _ _ ⟨rfl, rfl⟩
  simp (config := { maxSteps := 1000000 }) (disch := omega) only [go_sem, Int.reduceToNat, ↓reduceIte, Nat.reduceLT, Nat.reduceEqDiff, Nat.reduceAdd, Nat.reduceMul, Nat.reduceSub, Nat.reduceBEq, Nat.reduceLeDiff, reduceCtorEq, Nat.reduceLT, ↓Br_true, ↓Br_false, bind, pure, sc38, sb38]
  have cc := sunDS_cv n cap f hB hcap hn 0 0 (by omega); (first | refine callR (by rfl) (by rfl) (by rfl) cc ?_ | refine callM (by rfl) (by rfl) (by rfl) cc ?_ | refine callMo (by rfl) (by rfl) (by rfl) cc ?_ | refine callG (by rfl) (by rfl) (by rfl) cc ?_ | refine callW (by rfl) (by first | rfl | (simp [ofL, kpB, kpR, ofB, isOwnB, isDead, inL, hget]; done)) (by rfl) (by rfl) cc ?_); clear cc; rintro _ _ ⟨x, a1, s1, hx, rfl, rfl⟩
  simp (config := { maxSteps := 1000000 }) (disch := omega) only [go_sem, Int.reduceToNat, ↓reduceIte, Nat.reduceLT, Nat.reduceEqDiff, Nat.reduceAdd, Nat.reduceMul, Nat.reduceSub, Nat.reduceBEq, Nat.reduceLeDiff, reduceCtorEq, Nat.reduceLT, ↓Br_true, ↓Br_false, bind, pure, sc38, sb38]
  exact ⟨x, hx, rfl⟩
theorem awnDS_cv (n cap : Nat) (f : Nat → List FV) (hB : BytesAt n f) (hcap : n ≤ cap) (hn : n ≤ 4096) (a sd : Int) (ha : 0 ≤ a ∧ a ≤ 1000) :
    CV Tryz.prog 102 [.ptr 0 0 0] [srcS n cap a sd, .rows n cap 1 f false] (fun v h => ∃ (o d g l : Nat) (a' s' : Int), vAwning o d g l = true ∧ (o < 4294967296 ∧ d < 4294967296 ∧ g < 4294967296 ∧ l < 4294967296) ∧ v = awnV o d g l ∧ h = [srcS n cap a' s', .rows n cap 1 f false]) := by
  refine cv_of_run 1000 sc102 sb102 37 [.cell 2 67] tabOk (by kernel_rfl) Tryz.func102 rfl (by kernel_rfl) Tryz.ntmps102 rfl (by simp) rfl (by simp [bdL, SV.bd]) ?_
  simp (config := { maxSteps := 1000000 }) (disch := omega) only [go_sem, Int.reduceToNat, ↓reduceIte, Nat.reduceLT, Nat.reduceEqDiff, Nat.reduceAdd, Nat.reduceMul, Nat.reduceSub, Nat.reduceBEq, Nat.reduceLeDiff, reduceCtorEq, Nat.reduceLT, ↓Br_true, ↓Br_false, bind, pure, sc102, sb102]
  repeat (with_reducible refine And.intro (by first | omega | assumption | (unfold SOk; kernel_rfl) | (unfold SBOk; kernel_rfl)) ?_)
  have cc := pickS_cv n cap f hB hcap hn a sd 65 (by omega) (by omega); (first | refine callR (by rfl) (by rfl) (by rfl) cc ?_ | refine callM (by rfl) (by rfl) (by rfl) cc ?_ | refine callMo (by rfl) (by rfl) (by rfl) cc ?_ | refine callG (by rfl) (by rfl) (by rfl) cc ?_ | refine callW (by rfl) (by first | rfl | (simp [ofL, kpB, kpR, ofB, isOwnB, isDead, inL, hget]; done)) (by rfl) (by rfl) cc ?_); clear cc; rintro _ _ ⟨b1, a1, s1, rfl, h1, ha1, rfl⟩
  simp (config := { maxSteps := 1000000 }) (disch := omega) only [go_sem, Int.reduceToNat, ↓reduceIte, Nat.reduceLT, Nat.reduceEqDiff, Nat.reduceAdd, Nat.reduceMul, Nat.reduceSub, Nat.reduceBEq, Nat.reduceLeDiff, reduceCtorEq, Nat.reduceLT, ↓Br_true, ↓Br_false, bind, pure, sc102, sb102]
  have q1 := b8 (n := b1) (m := 64) (T := key 1090519040) h1.1 (by omega) (by omega) (by decide) (by decide)
  refine ⟨q1.1, ?_⟩
  have cc := pickS_cv n cap f hB hcap hn a1 s1 17 (by omega) (by omega); (first | refine callR (by rfl) (by rfl) (by rfl) cc ?_ | refine callM (by rfl) (by rfl) (by rfl) cc ?_ | refine callMo (by rfl) (by rfl) (by rfl) cc ?_ | refine callG (by rfl) (by rfl) (by rfl) cc ?_ | refine callW (by rfl) (by first | rfl | (simp [ofL, kpB, kpR, ofB, isOwnB, isDead, inL, hget]; done)) (by rfl) (by rfl) cc ?_); clear cc; rintro _ _ ⟨b2, a2, s2, rfl, h2, ha2, rfl⟩
  simp (config := { maxSteps := 1000000 }) (disch := omega) only [go_sem, Int.reduceToNat, ↓reduceIte, Nat.reduceLT, Nat.reduceEqDiff, Nat.reduceAdd, Nat.reduceMul, Nat.reduceSub, Nat.reduceBEq, Nat.reduceLeDiff, reduceCtorEq, Nat.reduceLT, ↓Br_true, ↓Br_false, bind, pure, sc102, sb102]
  have q2 := b8 (n := b2) (m := 16) (T := key 1073741824) h2.1 (by omega) (by omega) (by decide) (by decide)
  refine ⟨q2.1, ?_⟩
  have cc := pickS_cv n cap f hB hcap hn a2 s2 17 (by omega) (by omega); (first | refine callR (by rfl) (by rfl) (by rfl) cc ?_ | refine callM (by rfl) (by rfl) (by rfl) cc ?_ | refine callMo (by rfl) (by rfl) (by rfl) cc ?_ | refine callG (by rfl) (by rfl) (by rfl) cc ?_ | refine callW (by rfl) (by first | rfl | (simp [ofL, kpB, kpR, ofB, isOwnB, isDead, inL, hget]; done)) (by rfl) (by rfl) cc ?_); clear cc; rintro _ _ ⟨b3, a3, s3, rfl, h3, ha3, rfl⟩
  simp (config := { maxSteps := 1000000 }) (disch := omega) only [go_sem, Int.reduceToNat, ↓reduceIte, Nat.reduceLT, Nat.reduceEqDiff, Nat.reduceAdd, Nat.reduceMul, Nat.reduceSub, Nat.reduceBEq, Nat.reduceLeDiff, reduceCtorEq, Nat.reduceLT, ↓Br_true, ↓Br_false, bind, pure, sc102, sb102]
  have q3 := b8 (n := b3) (m := 16) (T := key 1073741824) h3.1 (by omega) (by omega) (by decide) (by decide)
  refine ⟨q3.1, ?_⟩
  have cc := pickS_cv n cap f hB hcap hn a3 s3 32 (by omega) (by omega); (first | refine callR (by rfl) (by rfl) (by rfl) cc ?_ | refine callM (by rfl) (by rfl) (by rfl) cc ?_ | refine callMo (by rfl) (by rfl) (by rfl) cc ?_ | refine callG (by rfl) (by rfl) (by rfl) cc ?_ | refine callW (by rfl) (by first | rfl | (simp [ofL, kpB, kpR, ofB, isOwnB, isDead, inL, hget]; done)) (by rfl) (by rfl) cc ?_); clear cc; rintro _ _ ⟨b4, a4, s4, rfl, h4, ha4, rfl⟩
  simp (config := { maxSteps := 1000000 }) (disch := omega) only [go_sem, Int.reduceToNat, ↓reduceIte, Nat.reduceLT, Nat.reduceEqDiff, Nat.reduceAdd, Nat.reduceMul, Nat.reduceSub, Nat.reduceBEq, Nat.reduceLeDiff, reduceCtorEq, Nat.reduceLT, ↓Br_true, ↓Br_false, bind, pure, sc102, sb102]
  have q4 := tall_ok h4.1 h4.2
  refine ⟨q4.1, ?_⟩
  have L1 : ∀ x, Prt x → Bnd x 1073741824 := fun x h => ⟨h.1, Int.le_trans h.2 (by decide)⟩
  have cc := oneS_cv n cap f hB hcap hn a4 s4 3 (by omega) (by omega); (first | refine callR (by rfl) (by rfl) (by rfl) cc ?_ | refine callM (by rfl) (by rfl) (by rfl) cc ?_ | refine callMo (by rfl) (by rfl) (by rfl) cc ?_ | refine callG (by rfl) (by rfl) (by rfl) cc ?_ | refine callW (by rfl) (by first | rfl | (simp [ofL, kpB, kpR, ofB, isOwnB, isDead, inL, hget]; done)) (by rfl) (by rfl) cc ?_); clear cc; rintro _ _ ⟨t, a5, s5, rfl, ha5, rfl⟩
  simp (config := { maxSteps := 1000000 }) (disch := omega) only [go_sem, Int.reduceToNat, ↓reduceIte, Nat.reduceLT, Nat.reduceEqDiff, Nat.reduceAdd, Nat.reduceMul, Nat.reduceSub, Nat.reduceBEq, Nat.reduceLeDiff, reduceCtorEq, Nat.reduceLT, ↓Br_true, ↓Br_false, bind, pure, sc102, sb102]
  refine ⟨fun hc => ?_, fun hc => ?_⟩
  · have cc := toneS_cv n cap f hB hcap hn a5 s5 (by omega); (first | refine callR (by rfl) (by rfl) (by rfl) cc ?_ | refine callM (by rfl) (by rfl) (by rfl) cc ?_ | refine callMo (by rfl) (by rfl) (by rfl) cc ?_ | refine callG (by rfl) (by rfl) (by rfl) cc ?_ | refine callW (by rfl) (by first | rfl | (simp [ofL, kpB, kpR, ofB, isOwnB, isDead, inL, hget]; done)) (by rfl) (by rfl) cc ?_); clear cc; rintro _ _ ⟨x, a6, s6, rfl, hx, ha6, rfl⟩
    simp (config := { maxSteps := 1000000 }) (disch := omega) only [go_sem, Int.reduceToNat, ↓reduceIte, Nat.reduceLT, Nat.reduceEqDiff, Nat.reduceAdd, Nat.reduceMul, Nat.reduceSub, Nat.reduceBEq, Nat.reduceLeDiff, reduceCtorEq, Nat.reduceLT, ↓Br_true, ↓Br_false, bind, pure, sc102, sb102]
    refine ⟨(mul8 hx).1, ?_⟩
    have cc := oneS_cv n cap f hB hcap hn a6 s6 3 (by omega) (by omega); (first | refine callR (by rfl) (by rfl) (by rfl) cc ?_ | refine callM (by rfl) (by rfl) (by rfl) cc ?_ | refine callMo (by rfl) (by rfl) (by rfl) cc ?_ | refine callG (by rfl) (by rfl) (by rfl) cc ?_ | refine callW (by rfl) (by first | rfl | (simp [ofL, kpB, kpR, ofB, isOwnB, isDead, inL, hget]; done)) (by rfl) (by rfl) cc ?_); clear cc; rintro _ _ ⟨t2, a7, s7, rfl, ha7, rfl⟩
    simp (config := { maxSteps := 1000000 }) (disch := omega) only [go_sem, Int.reduceToNat, ↓reduceIte, Nat.reduceLT, Nat.reduceEqDiff, Nat.reduceAdd, Nat.reduceMul, Nat.reduceSub, Nat.reduceBEq, Nat.reduceLeDiff, reduceCtorEq, Nat.reduceLT, ↓Br_true, ↓Br_false, bind, pure, sc102, sb102]
    refine ⟨fun hc => ?_, fun hc => ?_⟩
    · have cc := toneS_cv n cap f hB hcap hn a7 s7 (by omega); (first | refine callR (by rfl) (by rfl) (by rfl) cc ?_ | refine callM (by rfl) (by rfl) (by rfl) cc ?_ | refine callMo (by rfl) (by rfl) (by rfl) cc ?_ | refine callG (by rfl) (by rfl) (by rfl) cc ?_ | refine callW (by rfl) (by first | rfl | (simp [ofL, kpB, kpR, ofB, isOwnB, isDead, inL, hget]; done)) (by rfl) (by rfl) cc ?_); clear cc; rintro _ _ ⟨y, a8, s8, rfl, hy, ha8, rfl⟩
      simp (config := { maxSteps := 1000000 }) (disch := omega) only [go_sem, Int.reduceToNat, ↓reduceIte, Nat.reduceLT, Nat.reduceEqDiff, Nat.reduceAdd, Nat.reduceMul, Nat.reduceSub, Nat.reduceBEq, Nat.reduceLeDiff, reduceCtorEq, Nat.reduceLT, ↓Br_true, ↓Br_false, bind, pure, sc102, sb102]
      exact ⟨_, _, _, _, _, _, awn_ok (mul8 hx).2 q2.2 (L1 _ hy) q4.2, ⟨fmul_lt, fdiv_lt, ha8.2, fdiv_lt⟩, rfl, rfl⟩
    · exact ⟨_, _, _, _, _, _, awn_ok (mul8 hx).2 q2.2 q3.2 q4.2, ⟨fmul_lt, fdiv_lt, fdiv_lt, fdiv_lt⟩, rfl, rfl⟩
  · have cc := oneS_cv n cap f hB hcap hn a5 s5 3 (by omega) (by omega); (first | refine callR (by rfl) (by rfl) (by rfl) cc ?_ | refine callM (by rfl) (by rfl) (by rfl) cc ?_ | refine callMo (by rfl) (by rfl) (by rfl) cc ?_ | refine callG (by rfl) (by rfl) (by rfl) cc ?_ | refine callW (by rfl) (by first | rfl | (simp [ofL, kpB, kpR, ofB, isOwnB, isDead, inL, hget]; done)) (by rfl) (by rfl) cc ?_); clear cc; rintro _ _ ⟨t2, a7, s7, rfl, ha7, rfl⟩
    simp (config := { maxSteps := 1000000 }) (disch := omega) only [go_sem, Int.reduceToNat, ↓reduceIte, Nat.reduceLT, Nat.reduceEqDiff, Nat.reduceAdd, Nat.reduceMul, Nat.reduceSub, Nat.reduceBEq, Nat.reduceLeDiff, reduceCtorEq, Nat.reduceLT, ↓Br_true, ↓Br_false, bind, pure, sc102, sb102]
    refine ⟨fun hc => ?_, fun hc => ?_⟩
    · have cc := toneS_cv n cap f hB hcap hn a7 s7 (by omega); (first | refine callR (by rfl) (by rfl) (by rfl) cc ?_ | refine callM (by rfl) (by rfl) (by rfl) cc ?_ | refine callMo (by rfl) (by rfl) (by rfl) cc ?_ | refine callG (by rfl) (by rfl) (by rfl) cc ?_ | refine callW (by rfl) (by first | rfl | (simp [ofL, kpB, kpR, ofB, isOwnB, isDead, inL, hget]; done)) (by rfl) (by rfl) cc ?_); clear cc; rintro _ _ ⟨y, a8, s8, rfl, hy, ha8, rfl⟩
      simp (config := { maxSteps := 1000000 }) (disch := omega) only [go_sem, Int.reduceToNat, ↓reduceIte, Nat.reduceLT, Nat.reduceEqDiff, Nat.reduceAdd, Nat.reduceMul, Nat.reduceSub, Nat.reduceBEq, Nat.reduceLeDiff, reduceCtorEq, Nat.reduceLT, ↓Br_true, ↓Br_false, bind, pure, sc102, sb102]
      exact ⟨_, _, _, _, _, _, awn_ok q1.2 q2.2 (L1 _ hy) q4.2, ⟨fdiv_lt, fdiv_lt, ha8.2, fdiv_lt⟩, rfl, rfl⟩
    · exact ⟨_, _, _, _, _, _, awn_ok q1.2 q2.2 q3.2 q4.2, ⟨fdiv_lt, fdiv_lt, fdiv_lt, fdiv_lt⟩, rfl, rfl⟩
theorem P6AwningS_cv (n cap : Nat) (f : Nat → List FV) (hB : BytesAt n f) (hcap : n ≤ cap) (hn : n ≤ 4096) :
    CV Tryz.prog 37 [.slc 0 0 n cap] [.rows n cap 1 f false] (fun v h => ∃ o d g l : Nat, vAwning o d g l = true ∧ (o < 4294967296 ∧ d < 4294967296 ∧ g < 4294967296 ∧ l < 4294967296) ∧ v = awnV o d g l ∧ h = [.rows n cap 1 f false]) := by
  refine cv_of_run 1000 sc37 sb37 6 [.cell 2 67] tabOk (by kernel_rfl) Tryz.func37 rfl (by kernel_rfl) Tryz.ntmps37 rfl (by simp) rfl (by simp [bdL, SV.bd]) ?_
  simp (config := { maxSteps := 1000000 }) (disch := omega) only [go_sem, Int.reduceToNat, ↓reduceIte, Nat.reduceLT, Nat.reduceEqDiff, Nat.reduceAdd, Nat.reduceMul, Nat.reduceSub, Nat.reduceBEq, Nat.reduceLeDiff, reduceCtorEq, Nat.reduceLT, ↓Br_true, ↓Br_false, bind, pure, sc37, sb37]
  have cc := fromS_cv n cap f hB hcap hn; (first | refine callR (by rfl) (by rfl) (by rfl) cc ?_ | refine callM (by rfl) (by rfl) (by rfl) cc ?_ | refine callMo (by rfl) (by rfl) (by rfl) cc ?_ | refine callG (by rfl) (by rfl) (by rfl) cc ?_ | refine callW (by rfl) (by first | rfl | (simp [ofL, kpB, kpR, ofB, isOwnB, isDead, inL, hget]; done)) (by rfl) (by rfl) cc ?_); clear cc; rintro _ _ ⟨rfl, rfl⟩
  simp (config := { maxSteps := 1000000 }) (disch := omega) only [go_sem, Int.reduceToNat, ↓reduceIte, Nat.reduceLT, Nat.reduceEqDiff, Nat.reduceAdd, Nat.reduceMul, Nat.reduceSub, Nat.reduceBEq, Nat.reduceLeDiff, reduceCtorEq, Nat.reduceLT, ↓Br_true, ↓Br_false, bind, pure, sc37, sb37]
  have cc := awnDS_cv n cap f hB hcap hn 0 0 (by omega); (first | refine callR (by rfl) (by rfl) (by rfl) cc ?_ | refine callM (by rfl) (by rfl) (by rfl) cc ?_ | refine callMo (by rfl) (by rfl) (by rfl) cc ?_ | refine callG (by rfl) (by rfl) (by rfl) cc ?_ | refine callW (by rfl) (by first | rfl | (simp [ofL, kpB, kpR, ofB, isOwnB, isDead, inL, hget]; done)) (by rfl) (by rfl) cc ?_); clear cc; rintro _ _ ⟨o, d, g, l, a1, s1, hv, hb, rfl, rfl⟩
  simp (config := { maxSteps := 1000000 }) (disch := omega) only [go_sem, Int.reduceToNat, ↓reduceIte, Nat.reduceLT, Nat.reduceEqDiff, Nat.reduceAdd, Nat.reduceMul, Nat.reduceSub, Nat.reduceBEq, Nat.reduceLeDiff, reduceCtorEq, Nat.reduceLT, ↓Br_true, ↓Br_false, bind, pure, sc37, sb37]
  exact ⟨o, d, g, l, hv, hb, rfl⟩
end Go.Proofs.YtpcnpmhpelbndaaGreatDoor.Vx
