/- Draws, in the abstract: gusts, suns, awnings, trees. -/
import Derived.Test.YtdncopphjamilaaDa
import Derived.Test.YtdncopphjamilaaKv
import Derived.Test.YtdncopphjamilaaGs
namespace Go.Proofs.Ytdncopphjamilaa.Vx
open Go Go.RowKit Fl
set_option maxRecDepth 100000
set_option maxHeartbeats 2000000
set_option linter.unusedSimpArgs false
set_option linter.unusedVariables false

def updN (x : Nat → Nat) (k z : Nat) : Nat → Nat := fun j => if j = k then z else x j
def updZ (x : Nat → Int) (k : Nat) (z : Int) : Nat → Int := fun j => if j = k then z else x j
theorem updC_flt (x : Nat → Nat) (k z : Nat) : updC (fun j => .flt .f32 (x j)) k (.flt .f32 z) = fun j => .flt .f32 (updN x k z j) := by
  funext j; unfold updC updN; split <;> rfl
theorem updC_i16 (x : Nat → Int) (k : Nat) (z : Int) : updC (fun j => .int .i16 (x j)) k (.int .i16 z) = fun j => .int .i16 (updZ x k z j) := by
  funext j; unfold updC updZ; split <;> rfl
/-- A gust that is drawn: from 0 to 11.5. -/
def Gst (x : Nat) : Prop := F0 x ∧ key x ≤ key 1094189056
theorem gst_quo {n : Int} (h0 : 0 ≤ n) (h1 : n < 24) : DivOk (fofInt n) 1073741824 ∧ Gst (fdiv (fofInt n) 1073741824) := by
  obtain ⟨a, b, c⟩ := quo_ok (m := 23) (d := 1073741824) (T := key 1094189056) h0 (by omega) (by omega) (by decide) (by decide) (by decide) (by decide)
  exact ⟨a, b, c⟩
theorem gst_step {x : Nat → Nat} {k z : Nat} (h : ∀ j, j < k → Gst (x j)) (hz : Gst z) : ∀ j, j < k + 1 → Gst (updN x k z j) := fun j hj => by
  unfold updN; split
  · exact hz
  · exact h j (by omega)
theorem dmax_cv (a b : Int) (h : List Blk) : CV Try.prog 158 [.f (.int .i64 a), .f (.int .i64 b)] [] (fun v hh => ∃ m, v = .f (.int .i64 m) ∧ a ≤ m ∧ b ≤ m ∧ (m = a ∨ m = b) ∧ hh = []) := by
  refine cv_of_run 1000 sc158 sb158 10 [.tmp 4] tabOk (by kernel_rfl) Try.func158 rfl (by kernel_rfl) Try.ntmps158 rfl (by simp) rfl (by simp [bdL, SV.bd]) ?_
  simp (config := { maxSteps := 1000000 }) (disch := omega) only [go_sem, Int.reduceToNat, ↓reduceIte, Nat.reduceLT, Nat.reduceEqDiff, Nat.reduceAdd, Nat.reduceMul, Nat.reduceSub, Nat.reduceBEq, Nat.reduceLeDiff, reduceCtorEq, Nat.reduceLT, ↓Br_true, ↓Br_false, bind, pure, sc158, sb158]
  refine ⟨fun hc => ?_, fun hc => ?_⟩
  · simp only [decide_eq_true_eq] at hc
    exact ⟨_, rfl, by omega, by omega, by omega⟩
  · simp only [decide_eq_false_iff_not] at hc
    exact ⟨_, rfl, by omega, by omega, by omega⟩
theorem dmin_cv (a b : Int) (h : List Blk) : CV Try.prog 159 [.f (.int .i64 a), .f (.int .i64 b)] [] (fun v hh => ∃ m, v = .f (.int .i64 m) ∧ m ≤ a ∧ m ≤ b ∧ (m = a ∨ m = b) ∧ hh = []) := by
  refine cv_of_run 1000 sc159 sb159 10 [.tmp 4] tabOk (by kernel_rfl) Try.func159 rfl (by kernel_rfl) Try.ntmps159 rfl (by simp) rfl (by simp [bdL, SV.bd]) ?_
  simp (config := { maxSteps := 1000000 }) (disch := omega) only [go_sem, Int.reduceToNat, ↓reduceIte, Nat.reduceLT, Nat.reduceEqDiff, Nat.reduceAdd, Nat.reduceMul, Nat.reduceSub, Nat.reduceBEq, Nat.reduceLeDiff, reduceCtorEq, Nat.reduceLT, ↓Br_true, ↓Br_false, bind, pure, sc159, sb159]
  refine ⟨fun hc => ?_, fun hc => ?_⟩
  · simp only [decide_eq_true_eq] at hc
    exact ⟨_, rfl, by omega, by omega, by omega⟩
  · simp only [decide_eq_false_iff_not] at hc
    exact ⟨_, rfl, by omega, by omega, by omega⟩
def SunI (x : Nat → Int) (k : Nat) : Prop := (∀ j, -64 ≤ x j ∧ x j ≤ 255) ∧ ∀ j, j < k → x j ≤ 64 ∧ 0 ≤ x (24 + j)
theorem SunI.step {x : Nat → Int} {k : Nat} {a b : Int} (h : SunI x k) (hk : k < 24) (ha : -64 ≤ a ∧ a ≤ 64) (hb : 0 ≤ b ∧ b ≤ 255) : SunI (updZ (updZ x k a) (24 + k) b) (k + 1) := by
  refine ⟨fun j => ?_, fun j hj => ?_⟩
  · have := h.1 j
    unfold updZ
    split
    · omega
    · split <;> omega
  · unfold updZ
    rw [if_neg (by omega)]
    by_cases c : j = k
    · subst c; rw [if_pos rfl, if_pos rfl]; omega
    · have := h.2 j (by omega)
      rw [if_neg c, if_neg (by omega), if_neg (by omega)]; exact this
theorem SunI.small {x : Nat → Int} {k : Nat} (h : SunI x k) : Small x := fun j => by have := h.1 j; omega
theorem SunI.valid {x : Nat → Int} (h : SunI x 24) : vSun x = true := by
  unfold vSun
  rw [List.all_eq_true]
  intro j hj
  have := h.2 j (by simpa using hj)
  have a := h.1 j
  have b := h.1 (24 + j)
  simp only [sunH, Bool.and_eq_true, inn_true]
  omega
theorem b8 {n m : Int} {T : Int} (h0 : 0 ≤ n) (h1 : n ≤ m) (hm : m ≤ 16777216) (hT : key (fdiv (fofInt m) 1090519040) ≤ T) (hi : T < 2139095040) : DivOk (fofInt n) 1090519040 ∧ F0 (fdiv (fofInt n) 1090519040) ∧ key (fdiv (fofInt n) 1090519040) ≤ T :=
  quo_ok h0 h1 hm (by decide) (by decide) hT hi
def Bnd (x t : Nat) : Prop := F0 x ∧ key x ≤ key t
theorem bnd_btw {x t : Nat} (h : Bnd x t) (ht : fin t) : btw x 0 t = true := by
  unfold btw
  rw [fle_of (by decide) h.1.1.nn (by have := h.1.2; exact this), fle_of h.1.1.nn ht.nn h.2]; rfl
theorem awn_ok {o d g l : Nat} (ho : Bnd o 1090519040) (hd : Bnd d 1073741824) (hg : Bnd g 1073741824) (hl : Bnd l 1082130432 ∧ key 1040187392 ≤ key l) : vAwning o d g l = true := by
  unfold vAwning
  rw [bnd_btw ho (by decide), bnd_btw hd (by decide), bnd_btw hg (by decide)]
  unfold btw
  rw [fle_of (by decide) hl.1.1.1.nn hl.2, fle_of hl.1.1.1.nn (by decide) hl.1.2]; rfl
theorem mul8 {x : Nat} (h : Prt x) : MulOk x 1090519040 ∧ Bnd (fmul x 1090519040) 1090519040 := by
  have e : F0 1090519040 := ⟨by decide, by decide⟩
  have o : F0 1065353216 := ⟨by decide, by decide⟩
  obtain ⟨m1, m2⟩ := mul_F0 h.1 e
  have k := mul_mono h.1 e o e h.2 (Int.le_refl _)
  have k1 : key (fmul 1065353216 1090519040) = key 1090519040 := by decide
  rw [k1] at k
  exact ⟨m1, F0_of_le m2 (by decide) k, k⟩
theorem tall_ok {n : Int} (h0 : 0 ≤ n) (h1 : n < 32) : DivOk (fofInt (1 + n)) 1090519040 ∧ Bnd (fdiv (fofInt (1 + n)) 1090519040) 1082130432 ∧ key 1040187392 ≤ key (fdiv (fofInt (1 + n)) 1090519040) := by
  obtain ⟨a, b, c⟩ := b8 (n := 1 + n) (m := 32) (T := key 1082130432) (by omega) (by omega) (by omega) (by decide) (by decide)
  have k := div_mono (ofInt_F0 (n := 1) (by omega) (by omega)).1 (ofInt_F0 (n := 1 + n) (by omega) (by omega)).1 (by decide : fin 1090519040) (by decide) (ofInt_mono (show (1 : Int) ≤ 1 + n by omega))
  exact ⟨a, ⟨b, c⟩, Int.le_trans (by decide) k⟩
/-- Trees that are drawn. -/
def TreAt (n : Nat) (f : Nat → List FV) : Prop := ∀ i, i < n → ∃ t : Hd.Tr, f i = t.row ∧ t.sm ∧ t.ok = true
theorem TreAt.push {n : Nat} {f : Nat → List FV} (h : TreAt n f) {a b c : Int} (ha : 0 ≤ a ∧ a < 256) (hb : 0 ≤ b ∧ b < 60) (hc : 0 ≤ c ∧ c < 65) : TreAt (n + 1) (catR f n (shR (nthR [ [.int .i16 a, .int .i16 b, .int .i16 c] ]) 0)) := fun i hi => by
  unfold catR
  by_cases q : i < n
  · rw [if_pos q]; exact h i q
  · obtain rfl : i = n := by omega
    rw [if_neg q]
    refine ⟨⟨a, b, c⟩, by simp [shR, nthR, Hd.Tr.row], ⟨by simp only; omega, by simp only; omega, by simp only; omega⟩, ?_⟩
    simp only [Hd.Tr.ok, Bool.and_eq_true, inn_true]; omega

theorem blowS_cv (n cap : Nat) (f : Nat → List FV) (hB : BytesAt n f) (hcap : n ≤ cap) (hn : n ≤ 4096) (a sd : Int) (ha : 0 ≤ a ∧ a ≤ 1000) :
    CV Try.prog 109 [.ptr 0 0 0] [srcS n cap a sd, .rows n cap 1 f false] (fun v h => ∃ (x : Nat → Nat) (a' s' : Int), (∀ j, j < 24 → Gst (x j)) ∧ v = .arr 24 (fun j => .flt .f32 (x j)) ∧ h = [srcS n cap a' s', .rows n cap 1 f false]) := by
  have e0 : constF (FV.flt .f32 0) = fun _ => FV.flt .f32 0 := rfl
  refine cv_of_run 1000 sc109 sb109 23 [.cell 2 88] tabOk (by kernel_rfl) Try.func109 rfl (by kernel_rfl) Try.ntmps109 rfl (by simp) rfl (by simp [bdL, SV.bd]) ?_
  simp (config := { maxSteps := 1000000 }) (disch := omega) only [go_sem, Int.reduceToNat, ↓reduceIte, Nat.reduceLT, Nat.reduceEqDiff, Nat.reduceAdd, Nat.reduceMul, Nat.reduceSub, Nat.reduceBEq, Nat.reduceLeDiff, reduceCtorEq, Nat.reduceLT, ↓Br_true, ↓Br_false, bind, pure, sc109, sb109]
  repeat (with_reducible refine And.intro (by first | omega | assumption | (unfold SOk; kernel_rfl) | (unfold SBOk; kernel_rfl)) ?_)
  have cc := pickS_cv n cap f hB hcap hn a sd 16 (by omega) (by omega); (first | refine callR (by rfl) (by rfl) (by rfl) cc ?_ | refine callM (by rfl) (by rfl) (by rfl) cc ?_ | refine callG (by rfl) (by rfl) (by rfl) cc ?_); clear cc; rintro _ _ ⟨b, a1, s1, rfl, hb, ha1, rfl⟩
  simp (config := { maxSteps := 1000000 }) (disch := omega) only [go_sem, Int.reduceToNat, ↓reduceIte, Nat.reduceLT, Nat.reduceEqDiff, Nat.reduceAdd, Nat.reduceMul, Nat.reduceSub, Nat.reduceBEq, Nat.reduceLeDiff, reduceCtorEq, Nat.reduceLT, ↓Br_true, ↓Br_false, bind, pure, sc109, sb109]
  refine ⟨(Nat × Int × Int × Int × (Nat → Nat)), fun s => s.1 ≤ 24 ∧ (0 ≤ s.2.1 ∧ s.2.1 < 24) ∧ (0 ≤ s.2.2.1 ∧ s.2.2.1 ≤ 1002 + 4 * (s.1 : Int)) ∧ ∀ j, j < s.1 → Gst (s.2.2.2.2 j), fun s => 24 - s.1, fun s => [(0, .ptr 0 0 0), (2, .ptr 2 0 0), (3, .ptr 3 0 0), (4, .f (.int .i64 s.2.1)), (5, .f (.int .i64 s.1))], fun s => [srcS n cap s.2.2.1 s.2.2.2.1, .rows n cap 1 f false, .cells 24 (fun _ => .flt .f32 0) true, .cells 24 (fun j => .flt .f32 (s.2.2.2.2 j)) true], (0, b, a1, s1, fun _ => 0), (by intro _; simp), ?_, (by (try refine Or.inl ?_); simp [Cov, covE, covH, cb_dead, cb_lit, cb_rows, cb_cells, cd_lit, cd_rows, cd_cells, cd_dead, covRow, look, SV.known, SV.bd, bdL, e0, hcap] <;> omega), ?_⟩
  · exact ⟨by omega, by simp only; omega, by simp only; omega, fun j hj => by omega⟩
  · rintro ⟨k, now, a2, s2, x⟩ ⟨hk, hnow, ha2, hx⟩
    simp only at hk hnow ha2 hx
    by_cases hlt : k < 24
    · have hd : decide ((k : Int) < 24) = true := decide_eq_true (by omega)
      simp (config := { maxSteps := 1000000 }) (disch := omega) only [go_sem, Int.reduceToNat, ↓reduceIte, Nat.reduceLT, Nat.reduceEqDiff, Nat.reduceAdd, Nat.reduceMul, Nat.reduceSub, Nat.reduceBEq, Nat.reduceLeDiff, reduceCtorEq, Nat.reduceLT, ↓Br_true, ↓Br_false, bind, pure, sc109, sb109, hd]
      have cc := oneS_cv n cap f hB hcap hn a2 s2 3 (by omega) (by omega); (first | refine callR (by rfl) (by rfl) (by rfl) cc ?_ | refine callM (by rfl) (by rfl) (by rfl) cc ?_ | refine callG (by rfl) (by rfl) (by rfl) cc ?_); clear cc; rintro _ _ ⟨t, a3, s3, rfl, ha3, rfl⟩
      simp (config := { maxSteps := 1000000 }) (disch := omega) only [go_sem, Int.reduceToNat, ↓reduceIte, Nat.reduceLT, Nat.reduceEqDiff, Nat.reduceAdd, Nat.reduceMul, Nat.reduceSub, Nat.reduceBEq, Nat.reduceLeDiff, reduceCtorEq, Nat.reduceLT, ↓Br_true, ↓Br_false, bind, pure, sc109, sb109]
      refine ⟨fun hc => ?_, fun hc => ?_⟩
      · have cc := pickS_cv n cap f hB hcap hn a3 s3 24 (by omega) (by omega); (first | refine callR (by rfl) (by rfl) (by rfl) cc ?_ | refine callM (by rfl) (by rfl) (by rfl) cc ?_ | refine callG (by rfl) (by rfl) (by rfl) cc ?_); clear cc; rintro _ _ ⟨b2, a4, s4, rfl, hb2, ha4, rfl⟩
        simp (config := { maxSteps := 1000000 }) (disch := omega) only [go_sem, Int.reduceToNat, ↓reduceIte, Nat.reduceLT, Nat.reduceEqDiff, Nat.reduceAdd, Nat.reduceMul, Nat.reduceSub, Nat.reduceBEq, Nat.reduceLeDiff, reduceCtorEq, Nat.reduceLT, ↓Br_true, ↓Br_false, bind, pure, sc109, sb109]
        have q := gst_quo hb2.1 hb2.2
        refine ⟨q.1, ?_⟩
        simp (config := { maxSteps := 1000000 }) (disch := omega) only [go_sem, Int.reduceToNat, ↓reduceIte, Nat.reduceLT, Nat.reduceEqDiff, Nat.reduceAdd, Nat.reduceMul, Nat.reduceSub, Nat.reduceBEq, Nat.reduceLeDiff, reduceCtorEq, Nat.reduceLT, ↓Br_true, ↓Br_false, bind, pure, sc109, sb109, updC_flt]
        refine ⟨by omega, by omega, (k + 1, b2, a4, s4, updN x k (fdiv (fofInt b2) 1073741824)), ⟨by omega, hb2, by simp only; omega, gst_step hx q.2⟩, by simp only; omega, by (try refine Or.inl ?_); simp [Cov, covE, covH, cb_dead, cb_lit, cb_rows, cb_cells, cd_lit, cd_rows, cd_cells, cd_dead, covRow, look, SV.known, SV.bd, bdL, updC_flt, hcap] <;> omega⟩
      · have q := gst_quo hnow.1 hnow.2
        refine ⟨q.1, ?_⟩
        simp (config := { maxSteps := 1000000 }) (disch := omega) only [go_sem, Int.reduceToNat, ↓reduceIte, Nat.reduceLT, Nat.reduceEqDiff, Nat.reduceAdd, Nat.reduceMul, Nat.reduceSub, Nat.reduceBEq, Nat.reduceLeDiff, reduceCtorEq, Nat.reduceLT, ↓Br_true, ↓Br_false, bind, pure, sc109, sb109, updC_flt]
        refine ⟨by omega, by omega, (k + 1, now, a3, s3, updN x k (fdiv (fofInt now) 1073741824)), ⟨by omega, hnow, by simp only; omega, gst_step hx q.2⟩, by simp only; omega, by (try refine Or.inl ?_); simp [Cov, covE, covH, cb_dead, cb_lit, cb_rows, cb_cells, cd_lit, cd_rows, cd_cells, cd_dead, covRow, look, SV.known, SV.bd, bdL, updC_flt, hcap] <;> omega⟩
    · have hd : decide ((k : Int) < 24) = false := decide_eq_false (by omega)
      obtain rfl : k = 24 := by omega
      simp (config := { maxSteps := 1000000 }) (disch := omega) only [go_sem, Int.reduceToNat, ↓reduceIte, Nat.reduceLT, Nat.reduceEqDiff, Nat.reduceAdd, Nat.reduceMul, Nat.reduceSub, Nat.reduceBEq, Nat.reduceLeDiff, reduceCtorEq, Nat.reduceLT, ↓Br_true, ↓Br_false, bind, pure, sc109, sb109, hd]
      exact ⟨x, _, _, hx, rfl, rfl⟩
theorem P6GustsS_cv (n cap : Nat) (f : Nat → List FV) (hB : BytesAt n f) (hcap : n ≤ cap) (hn : n ≤ 4096) :
    CV Try.prog 47 [.slc 0 0 n cap] [.rows n cap 1 f false] (fun v h => ∃ x : Nat → Nat, (∀ j, j < 24 → Gst (x j)) ∧ v = .arr 24 (fun j => .flt .f32 (x j)) ∧ h = [.rows n cap 1 f false]) := by
  refine cv_of_run 1000 sc47 sb47 6 [.cell 2 88] tabOk (by kernel_rfl) Try.func47 rfl (by kernel_rfl) Try.ntmps47 rfl (by simp) rfl (by simp [bdL, SV.bd]) ?_
  simp (config := { maxSteps := 1000000 }) (disch := omega) only [go_sem, Int.reduceToNat, ↓reduceIte, Nat.reduceLT, Nat.reduceEqDiff, Nat.reduceAdd, Nat.reduceMul, Nat.reduceSub, Nat.reduceBEq, Nat.reduceLeDiff, reduceCtorEq, Nat.reduceLT, ↓Br_true, ↓Br_false, bind, pure, sc47, sb47]
  have cc := fromS_cv n cap f hB hcap hn; (first | refine callR (by rfl) (by rfl) (by rfl) cc ?_ | refine callM (by rfl) (by rfl) (by rfl) cc ?_ | refine callG (by rfl) (by rfl) (by rfl) cc ?_); clear cc; rintro _ _ ⟨rfl, rfl⟩
  simp (config := { maxSteps := 1000000 }) (disch := omega) only [go_sem, Int.reduceToNat, ↓reduceIte, Nat.reduceLT, Nat.reduceEqDiff, Nat.reduceAdd, Nat.reduceMul, Nat.reduceSub, Nat.reduceBEq, Nat.reduceLeDiff, reduceCtorEq, Nat.reduceLT, ↓Br_true, ↓Br_false, bind, pure, sc47, sb47]
  have cc := blowS_cv n cap f hB hcap hn 0 0 (by omega); (first | refine callR (by rfl) (by rfl) (by rfl) cc ?_ | refine callM (by rfl) (by rfl) (by rfl) cc ?_ | refine callG (by rfl) (by rfl) (by rfl) cc ?_); clear cc; rintro _ _ ⟨x, a1, s1, hx, rfl, rfl⟩
  simp (config := { maxSteps := 1000000 }) (disch := omega) only [go_sem, Int.reduceToNat, ↓reduceIte, Nat.reduceLT, Nat.reduceEqDiff, Nat.reduceAdd, Nat.reduceMul, Nat.reduceSub, Nat.reduceBEq, Nat.reduceLeDiff, reduceCtorEq, Nat.reduceLT, ↓Br_true, ↓Br_false, bind, pure, sc47, sb47]
  exact ⟨x, hx, rfl⟩
theorem sunDS_cv (n cap : Nat) (f : Nat → List FV) (hB : BytesAt n f) (hcap : n ≤ cap) (hn : n ≤ 4096) (a sd : Int) (ha : 0 ≤ a ∧ a ≤ 1000) :
    CV Try.prog 113 [.ptr 0 0 0] [srcS n cap a sd, .rows n cap 1 f false] (fun v h => ∃ (x : Nat → Int) (a' s' : Int), SunI x 24 ∧ v = sunV x ∧ h = [srcS n cap a' s', .rows n cap 1 f false]) := by
  have e0 : constF (FV.int .i16 0) = fun _ => FV.int .i16 0 := rfl
  refine cv_of_run 1000 sc113 sb113 57 [.cell 2 99] tabOk (by kernel_rfl) Try.func113 rfl (by kernel_rfl) Try.ntmps113 rfl (by simp) rfl (by simp [bdL, SV.bd]) ?_
  simp (config := { maxSteps := 1000000 }) (disch := omega) only [go_sem, Int.reduceToNat, ↓reduceIte, Nat.reduceLT, Nat.reduceEqDiff, Nat.reduceAdd, Nat.reduceMul, Nat.reduceSub, Nat.reduceBEq, Nat.reduceLeDiff, reduceCtorEq, Nat.reduceLT, ↓Br_true, ↓Br_false, bind, pure, sc113, sb113]
  repeat (with_reducible refine And.intro (by first | omega | assumption | (unfold SOk; kernel_rfl) | (unfold SBOk; kernel_rfl)) ?_)
  have cc := pickS_cv n cap f hB hcap hn a sd 56 (by omega) (by omega); (first | refine callR (by rfl) (by rfl) (by rfl) cc ?_ | refine callM (by rfl) (by rfl) (by rfl) cc ?_ | refine callG (by rfl) (by rfl) (by rfl) cc ?_); clear cc; rintro _ _ ⟨top, a1, s1, rfl, ht, ha1, rfl⟩
  simp (config := { maxSteps := 1000000 }) (disch := omega) only [go_sem, Int.reduceToNat, ↓reduceIte, Nat.reduceLT, Nat.reduceEqDiff, Nat.reduceAdd, Nat.reduceMul, Nat.reduceSub, Nat.reduceBEq, Nat.reduceLeDiff, reduceCtorEq, Nat.reduceLT, ↓Br_true, ↓Br_false, bind, pure, sc113, sb113]
  repeat (with_reducible refine And.intro (by first | omega | assumption | (unfold SOk; kernel_rfl) | (unfold SBOk; kernel_rfl)) ?_)
  have cc := pickS_cv n cap f hB hcap hn a1 s1 256 (by omega) (by omega); (first | refine callR (by rfl) (by rfl) (by rfl) cc ?_ | refine callM (by rfl) (by rfl) (by rfl) cc ?_ | refine callG (by rfl) (by rfl) (by rfl) cc ?_); clear cc; rintro _ _ ⟨turn, a2, s2, rfl, hu, ha2, rfl⟩
  simp (config := { maxSteps := 1000000 }) (disch := omega) only [go_sem, Int.reduceToNat, ↓reduceIte, Nat.reduceLT, Nat.reduceEqDiff, Nat.reduceAdd, Nat.reduceMul, Nat.reduceSub, Nat.reduceBEq, Nat.reduceLeDiff, reduceCtorEq, Nat.reduceLT, ↓Br_true, ↓Br_false, bind, pure, sc113, sb113]
  repeat (with_reducible refine And.intro (by first | omega | assumption | (unfold SOk; kernel_rfl) | (unfold SBOk; kernel_rfl)) ?_)
  have cc := pickS_cv n cap f hB hcap hn a2 s2 10 (by omega) (by omega); (first | refine callR (by rfl) (by rfl) (by rfl) cc ?_ | refine callM (by rfl) (by rfl) (by rfl) cc ?_ | refine callG (by rfl) (by rfl) (by rfl) cc ?_); clear cc; rintro _ _ ⟨rise, a3, s3, rfl, hr, ha3, rfl⟩
  simp (config := { maxSteps := 1000000 }) (disch := omega) only [go_sem, Int.reduceToNat, ↓reduceIte, Nat.reduceLT, Nat.reduceEqDiff, Nat.reduceAdd, Nat.reduceMul, Nat.reduceSub, Nat.reduceBEq, Nat.reduceLeDiff, reduceCtorEq, Nat.reduceLT, ↓Br_true, ↓Br_false, bind, pure, sc113, sb113]
  refine ⟨(Nat × Int × Int × (Nat → Int)), fun s => s.1 ≤ 24 ∧ (0 ≤ s.2.1 ∧ s.2.1 ≤ 1006 + 6 * (s.1 : Int)) ∧ SunI s.2.2.2 s.1, fun s => 24 - s.1, fun s => [(0, .ptr 0 0 0), (2, .ptr 2 0 0), (3, .ptr 3 0 0), (4, .f (.int .i64 (8 + top))), (5, .f (.int .i64 turn)), (6, .f (.int .i64 rise)), (7, .f (.int .i64 s.1))], fun s => [srcS n cap s.2.1 s.2.2.1, .rows n cap 1 f false, .cells 48 (fun _ => .int .i16 0) true, .cells 48 (fun j => .int .i16 (s.2.2.2 j)) true], (0, a3, s3, fun _ => 0), (by intro _; simp), ?_, (by (try refine Or.inl ?_); simp [Cov, covE, covH, cb_dead, cb_lit, cb_rows, cb_cells, cd_lit, cd_rows, cd_cells, cd_dead, covRow, look, SV.known, SV.bd, bdL, e0, hcap] <;> omega), ?_⟩
  · exact ⟨by omega, by simp only; omega, fun j => by simp, fun j hj => by omega⟩
  · rintro ⟨k, a4, s4, x⟩ ⟨hk, ha4, hx⟩
    simp only at hk ha4 hx
    by_cases hlt : k < 24
    · have hd : decide ((k : Int) < 24) = true := decide_eq_true (by omega)
      simp (config := { maxSteps := 1000000 }) (disch := omega) only [go_sem, Int.reduceToNat, ↓reduceIte, Nat.reduceLT, Nat.reduceEqDiff, Nat.reduceAdd, Nat.reduceMul, Nat.reduceSub, Nat.reduceBEq, Nat.reduceLeDiff, reduceCtorEq, Nat.reduceLT, ↓Br_true, ↓Br_false, bind, pure, sc113, sb113, hd]
      (first | (refine callR (by rfl) (by rfl) (by rfl) (dmax_cv _ _ []) ?_; rintro _ _ ⟨m, rfl, hm1, hm2, hm3, rfl⟩) | (refine callM (by rfl) (by rfl) (by rfl) (dmax_cv _ _ []) ?_; rintro _ _ ⟨m, rfl, hm1, hm2, hm3, rfl⟩) | (refine callG (by rfl) (by rfl) (by rfl) (dmax_cv _ _ []) ?_; rintro _ _ ⟨m, rfl, hm1, hm2, hm3, rfl⟩))
      simp (config := { maxSteps := 1000000 }) (disch := omega) only [go_sem, Int.reduceToNat, ↓reduceIte, Nat.reduceLT, Nat.reduceEqDiff, Nat.reduceAdd, Nat.reduceMul, Nat.reduceSub, Nat.reduceBEq, Nat.reduceLeDiff, reduceCtorEq, Nat.reduceLT, ↓Br_true, ↓Br_false, bind, pure, sc113, sb113]
      have cc := oneS_cv n cap f hB hcap hn a4 s4 6 (by omega) (by omega); (first | refine callR (by rfl) (by rfl) (by rfl) cc ?_ | refine callM (by rfl) (by rfl) (by rfl) cc ?_ | refine callG (by rfl) (by rfl) (by rfl) cc ?_); clear cc; rintro _ _ ⟨t, a5, s5, rfl, ha5, rfl⟩
      simp (config := { maxSteps := 1000000 }) (disch := omega) only [go_sem, Int.reduceToNat, ↓reduceIte, Nat.reduceLT, Nat.reduceEqDiff, Nat.reduceAdd, Nat.reduceMul, Nat.reduceSub, Nat.reduceBEq, Nat.reduceLeDiff, reduceCtorEq, Nat.reduceLT, ↓Br_true, ↓Br_false, bind, pure, sc113, sb113]
      refine ⟨fun hc => ?_, fun hc => ?_⟩
      · have cc := pickS_cv n cap f hB hcap hn a5 s5 129 (by omega) (by omega); (first | refine callR (by rfl) (by rfl) (by rfl) cc ?_ | refine callM (by rfl) (by rfl) (by rfl) cc ?_ | refine callG (by rfl) (by rfl) (by rfl) cc ?_); clear cc; rintro _ _ ⟨p, a6, s6, rfl, hp, ha6, rfl⟩
        simp (config := { maxSteps := 1000000 }) (disch := omega) only [go_sem, Int.reduceToNat, ↓reduceIte, Nat.reduceLT, Nat.reduceEqDiff, Nat.reduceAdd, Nat.reduceMul, Nat.reduceSub, Nat.reduceBEq, Nat.reduceLeDiff, reduceCtorEq, Nat.reduceLT, ↓Br_true, ↓Br_false, bind, pure, sc113, sb113]
        (first | (refine callR (by rfl) (by rfl) (by rfl) (dmin_cv _ _ []) ?_; rintro _ _ ⟨m2, rfl, hn1, hn2, hn3, rfl⟩) | (refine callM (by rfl) (by rfl) (by rfl) (dmin_cv _ _ []) ?_; rintro _ _ ⟨m2, rfl, hn1, hn2, hn3, rfl⟩) | (refine callG (by rfl) (by rfl) (by rfl) (dmin_cv _ _ []) ?_; rintro _ _ ⟨m2, rfl, hn1, hn2, hn3, rfl⟩))
        simp (config := { maxSteps := 1000000 }) (disch := omega) only [go_sem, Int.reduceToNat, ↓reduceIte, Nat.reduceLT, Nat.reduceEqDiff, Nat.reduceAdd, Nat.reduceMul, Nat.reduceSub, Nat.reduceBEq, Nat.reduceLeDiff, reduceCtorEq, Nat.reduceLT, ↓Br_true, ↓Br_false, bind, pure, sc113, sb113]
        (first | (refine callR (by rfl) (by rfl) (by rfl) (dmax_cv _ _ []) ?_; rintro _ _ ⟨m3, rfl, ho1, ho2, ho3, rfl⟩) | (refine callM (by rfl) (by rfl) (by rfl) (dmax_cv _ _ []) ?_; rintro _ _ ⟨m3, rfl, ho1, ho2, ho3, rfl⟩) | (refine callG (by rfl) (by rfl) (by rfl) (dmax_cv _ _ []) ?_; rintro _ _ ⟨m3, rfl, ho1, ho2, ho3, rfl⟩))
        simp (config := { maxSteps := 1000000 }) (disch := omega) only [go_sem, Int.reduceToNat, ↓reduceIte, Nat.reduceLT, Nat.reduceEqDiff, Nat.reduceAdd, Nat.reduceMul, Nat.reduceSub, Nat.reduceBEq, Nat.reduceLeDiff, reduceCtorEq, Nat.reduceLT, ↓Br_true, ↓Br_false, bind, pure, sc113, sb113]
        refine ⟨by omega, ?_⟩
        have cc := pickS_cv n cap f hB hcap hn a6 s6 4 (by omega) (by omega); (first | refine callR (by rfl) (by rfl) (by rfl) cc ?_ | refine callM (by rfl) (by rfl) (by rfl) cc ?_ | refine callG (by rfl) (by rfl) (by rfl) cc ?_); clear cc; rintro _ _ ⟨q, a7, s7, rfl, hq, ha7, rfl⟩
        simp (config := { maxSteps := 1000000 }) (disch := omega) only [go_sem, Int.reduceToNat, ↓reduceIte, Nat.reduceLT, Nat.reduceEqDiff, Nat.reduceAdd, Nat.reduceMul, Nat.reduceSub, Nat.reduceBEq, Nat.reduceLeDiff, reduceCtorEq, Nat.reduceLT, ↓Br_true, ↓Br_false, bind, pure, sc113, sb113]
        have hz := tm_ok (b := turn + 10 * (k : Int) + q) (k := 256) (by omega) (by omega)
        have hw : IntKind.i16.wrap ((turn + 10 * (k : Int) + q).tmod 256) = (turn + 10 * (k : Int) + q).tmod 256 := wr_i16 _ (by omega) (by omega)
        exact ⟨by omega, by omega, by omega, (k + 1, a7, s7, updZ (updZ x k m3) (24 + k) ((turn + 10 * (k : Int) + q).tmod 256)), ⟨by omega, by simp only; omega, hx.step hlt (by omega) (by omega)⟩, by simp only; omega, by (try refine Or.inl ?_); simp [Cov, covE, covH, cb_dead, cb_lit, cb_rows, cb_cells, cd_lit, cd_rows, cd_cells, cd_dead, covRow, look, SV.known, SV.bd, bdL, hw, updC_i16, hcap] <;> omega⟩
      · (first | (refine callR (by rfl) (by rfl) (by rfl) (dmin_cv _ _ []) ?_; rintro _ _ ⟨m2, rfl, hn1, hn2, hn3, rfl⟩) | (refine callM (by rfl) (by rfl) (by rfl) (dmin_cv _ _ []) ?_; rintro _ _ ⟨m2, rfl, hn1, hn2, hn3, rfl⟩) | (refine callG (by rfl) (by rfl) (by rfl) (dmin_cv _ _ []) ?_; rintro _ _ ⟨m2, rfl, hn1, hn2, hn3, rfl⟩))
        simp (config := { maxSteps := 1000000 }) (disch := omega) only [go_sem, Int.reduceToNat, ↓reduceIte, Nat.reduceLT, Nat.reduceEqDiff, Nat.reduceAdd, Nat.reduceMul, Nat.reduceSub, Nat.reduceBEq, Nat.reduceLeDiff, reduceCtorEq, Nat.reduceLT, ↓Br_true, ↓Br_false, bind, pure, sc113, sb113]
        (first | (refine callR (by rfl) (by rfl) (by rfl) (dmax_cv _ _ []) ?_; rintro _ _ ⟨m3, rfl, ho1, ho2, ho3, rfl⟩) | (refine callM (by rfl) (by rfl) (by rfl) (dmax_cv _ _ []) ?_; rintro _ _ ⟨m3, rfl, ho1, ho2, ho3, rfl⟩) | (refine callG (by rfl) (by rfl) (by rfl) (dmax_cv _ _ []) ?_; rintro _ _ ⟨m3, rfl, ho1, ho2, ho3, rfl⟩))
        simp (config := { maxSteps := 1000000 }) (disch := omega) only [go_sem, Int.reduceToNat, ↓reduceIte, Nat.reduceLT, Nat.reduceEqDiff, Nat.reduceAdd, Nat.reduceMul, Nat.reduceSub, Nat.reduceBEq, Nat.reduceLeDiff, reduceCtorEq, Nat.reduceLT, ↓Br_true, ↓Br_false, bind, pure, sc113, sb113]
        refine ⟨by omega, ?_⟩
        have cc := pickS_cv n cap f hB hcap hn a5 s5 4 (by omega) (by omega); (first | refine callR (by rfl) (by rfl) (by rfl) cc ?_ | refine callM (by rfl) (by rfl) (by rfl) cc ?_ | refine callG (by rfl) (by rfl) (by rfl) cc ?_); clear cc; rintro _ _ ⟨q, a7, s7, rfl, hq, ha7, rfl⟩
        simp (config := { maxSteps := 1000000 }) (disch := omega) only [go_sem, Int.reduceToNat, ↓reduceIte, Nat.reduceLT, Nat.reduceEqDiff, Nat.reduceAdd, Nat.reduceMul, Nat.reduceSub, Nat.reduceBEq, Nat.reduceLeDiff, reduceCtorEq, Nat.reduceLT, ↓Br_true, ↓Br_false, bind, pure, sc113, sb113]
        have hz := tm_ok (b := turn + 10 * (k : Int) + q) (k := 256) (by omega) (by omega)
        have hw : IntKind.i16.wrap ((turn + 10 * (k : Int) + q).tmod 256) = (turn + 10 * (k : Int) + q).tmod 256 := wr_i16 _ (by omega) (by omega)
        exact ⟨by omega, by omega, by omega, (k + 1, a7, s7, updZ (updZ x k m3) (24 + k) ((turn + 10 * (k : Int) + q).tmod 256)), ⟨by omega, by simp only; omega, hx.step hlt (by omega) (by omega)⟩, by simp only; omega, by (try refine Or.inl ?_); simp [Cov, covE, covH, cb_dead, cb_lit, cb_rows, cb_cells, cd_lit, cd_rows, cd_cells, cd_dead, covRow, look, SV.known, SV.bd, bdL, hw, updC_i16, hcap] <;> omega⟩
    · have hd : decide ((k : Int) < 24) = false := decide_eq_false (by omega)
      obtain rfl : k = 24 := by omega
      simp (config := { maxSteps := 1000000 }) (disch := omega) only [go_sem, Int.reduceToNat, ↓reduceIte, Nat.reduceLT, Nat.reduceEqDiff, Nat.reduceAdd, Nat.reduceMul, Nat.reduceSub, Nat.reduceBEq, Nat.reduceLeDiff, reduceCtorEq, Nat.reduceLT, ↓Br_true, ↓Br_false, bind, pure, sc113, sb113, hd]
      exact ⟨x, _, _, hx, rfl, rfl⟩
theorem P6SunS_cv (n cap : Nat) (f : Nat → List FV) (hB : BytesAt n f) (hcap : n ≤ cap) (hn : n ≤ 4096) :
    CV Try.prog 51 [.slc 0 0 n cap] [.rows n cap 1 f false] (fun v h => ∃ x : Nat → Int, SunI x 24 ∧ v = sunV x ∧ h = [.rows n cap 1 f false]) := by
  refine cv_of_run 1000 sc51 sb51 6 [.cell 2 99] tabOk (by kernel_rfl) Try.func51 rfl (by kernel_rfl) Try.ntmps51 rfl (by simp) rfl (by simp [bdL, SV.bd]) ?_
  simp (config := { maxSteps := 1000000 }) (disch := omega) only [go_sem, Int.reduceToNat, ↓reduceIte, Nat.reduceLT, Nat.reduceEqDiff, Nat.reduceAdd, Nat.reduceMul, Nat.reduceSub, Nat.reduceBEq, Nat.reduceLeDiff, reduceCtorEq, Nat.reduceLT, ↓Br_true, ↓Br_false, bind, pure, sc51, sb51]
  have cc := fromS_cv n cap f hB hcap hn; (first | refine callR (by rfl) (by rfl) (by rfl) cc ?_ | refine callM (by rfl) (by rfl) (by rfl) cc ?_ | refine callG (by rfl) (by rfl) (by rfl) cc ?_); clear cc; rintro _ _ ⟨rfl, rfl⟩
  simp (config := { maxSteps := 1000000 }) (disch := omega) only [go_sem, Int.reduceToNat, ↓reduceIte, Nat.reduceLT, Nat.reduceEqDiff, Nat.reduceAdd, Nat.reduceMul, Nat.reduceSub, Nat.reduceBEq, Nat.reduceLeDiff, reduceCtorEq, Nat.reduceLT, ↓Br_true, ↓Br_false, bind, pure, sc51, sb51]
  have cc := sunDS_cv n cap f hB hcap hn 0 0 (by omega); (first | refine callR (by rfl) (by rfl) (by rfl) cc ?_ | refine callM (by rfl) (by rfl) (by rfl) cc ?_ | refine callG (by rfl) (by rfl) (by rfl) cc ?_); clear cc; rintro _ _ ⟨x, a1, s1, hx, rfl, rfl⟩
  simp (config := { maxSteps := 1000000 }) (disch := omega) only [go_sem, Int.reduceToNat, ↓reduceIte, Nat.reduceLT, Nat.reduceEqDiff, Nat.reduceAdd, Nat.reduceMul, Nat.reduceSub, Nat.reduceBEq, Nat.reduceLeDiff, reduceCtorEq, Nat.reduceLT, ↓Br_true, ↓Br_false, bind, pure, sc51, sb51]
  exact ⟨x, hx, rfl⟩
theorem awnDS_cv (n cap : Nat) (f : Nat → List FV) (hB : BytesAt n f) (hcap : n ≤ cap) (hn : n ≤ 4096) (a sd : Int) (ha : 0 ≤ a ∧ a ≤ 1000) :
    CV Try.prog 114 [.ptr 0 0 0] [srcS n cap a sd, .rows n cap 1 f false] (fun v h => ∃ (o d g l : Nat) (a' s' : Int), vAwning o d g l = true ∧ v = awnV o d g l ∧ h = [srcS n cap a' s', .rows n cap 1 f false]) := by
  refine cv_of_run 1000 sc114 sb114 37 [.cell 2 102] tabOk (by kernel_rfl) Try.func114 rfl (by kernel_rfl) Try.ntmps114 rfl (by simp) rfl (by simp [bdL, SV.bd]) ?_
  simp (config := { maxSteps := 1000000 }) (disch := omega) only [go_sem, Int.reduceToNat, ↓reduceIte, Nat.reduceLT, Nat.reduceEqDiff, Nat.reduceAdd, Nat.reduceMul, Nat.reduceSub, Nat.reduceBEq, Nat.reduceLeDiff, reduceCtorEq, Nat.reduceLT, ↓Br_true, ↓Br_false, bind, pure, sc114, sb114]
  repeat (with_reducible refine And.intro (by first | omega | assumption | (unfold SOk; kernel_rfl) | (unfold SBOk; kernel_rfl)) ?_)
  have cc := pickS_cv n cap f hB hcap hn a sd 65 (by omega) (by omega); (first | refine callR (by rfl) (by rfl) (by rfl) cc ?_ | refine callM (by rfl) (by rfl) (by rfl) cc ?_ | refine callG (by rfl) (by rfl) (by rfl) cc ?_); clear cc; rintro _ _ ⟨b1, a1, s1, rfl, h1, ha1, rfl⟩
  simp (config := { maxSteps := 1000000 }) (disch := omega) only [go_sem, Int.reduceToNat, ↓reduceIte, Nat.reduceLT, Nat.reduceEqDiff, Nat.reduceAdd, Nat.reduceMul, Nat.reduceSub, Nat.reduceBEq, Nat.reduceLeDiff, reduceCtorEq, Nat.reduceLT, ↓Br_true, ↓Br_false, bind, pure, sc114, sb114]
  have q1 := b8 (n := b1) (m := 64) (T := key 1090519040) h1.1 (by omega) (by omega) (by decide) (by decide)
  refine ⟨q1.1, ?_⟩
  have cc := pickS_cv n cap f hB hcap hn a1 s1 17 (by omega) (by omega); (first | refine callR (by rfl) (by rfl) (by rfl) cc ?_ | refine callM (by rfl) (by rfl) (by rfl) cc ?_ | refine callG (by rfl) (by rfl) (by rfl) cc ?_); clear cc; rintro _ _ ⟨b2, a2, s2, rfl, h2, ha2, rfl⟩
  simp (config := { maxSteps := 1000000 }) (disch := omega) only [go_sem, Int.reduceToNat, ↓reduceIte, Nat.reduceLT, Nat.reduceEqDiff, Nat.reduceAdd, Nat.reduceMul, Nat.reduceSub, Nat.reduceBEq, Nat.reduceLeDiff, reduceCtorEq, Nat.reduceLT, ↓Br_true, ↓Br_false, bind, pure, sc114, sb114]
  have q2 := b8 (n := b2) (m := 16) (T := key 1073741824) h2.1 (by omega) (by omega) (by decide) (by decide)
  refine ⟨q2.1, ?_⟩
  have cc := pickS_cv n cap f hB hcap hn a2 s2 17 (by omega) (by omega); (first | refine callR (by rfl) (by rfl) (by rfl) cc ?_ | refine callM (by rfl) (by rfl) (by rfl) cc ?_ | refine callG (by rfl) (by rfl) (by rfl) cc ?_); clear cc; rintro _ _ ⟨b3, a3, s3, rfl, h3, ha3, rfl⟩
  simp (config := { maxSteps := 1000000 }) (disch := omega) only [go_sem, Int.reduceToNat, ↓reduceIte, Nat.reduceLT, Nat.reduceEqDiff, Nat.reduceAdd, Nat.reduceMul, Nat.reduceSub, Nat.reduceBEq, Nat.reduceLeDiff, reduceCtorEq, Nat.reduceLT, ↓Br_true, ↓Br_false, bind, pure, sc114, sb114]
  have q3 := b8 (n := b3) (m := 16) (T := key 1073741824) h3.1 (by omega) (by omega) (by decide) (by decide)
  refine ⟨q3.1, ?_⟩
  have cc := pickS_cv n cap f hB hcap hn a3 s3 32 (by omega) (by omega); (first | refine callR (by rfl) (by rfl) (by rfl) cc ?_ | refine callM (by rfl) (by rfl) (by rfl) cc ?_ | refine callG (by rfl) (by rfl) (by rfl) cc ?_); clear cc; rintro _ _ ⟨b4, a4, s4, rfl, h4, ha4, rfl⟩
  simp (config := { maxSteps := 1000000 }) (disch := omega) only [go_sem, Int.reduceToNat, ↓reduceIte, Nat.reduceLT, Nat.reduceEqDiff, Nat.reduceAdd, Nat.reduceMul, Nat.reduceSub, Nat.reduceBEq, Nat.reduceLeDiff, reduceCtorEq, Nat.reduceLT, ↓Br_true, ↓Br_false, bind, pure, sc114, sb114]
  have q4 := tall_ok h4.1 h4.2
  refine ⟨q4.1, ?_⟩
  have L1 : ∀ x, Prt x → Bnd x 1073741824 := fun x h => ⟨h.1, Int.le_trans h.2 (by decide)⟩
  have cc := oneS_cv n cap f hB hcap hn a4 s4 3 (by omega) (by omega); (first | refine callR (by rfl) (by rfl) (by rfl) cc ?_ | refine callM (by rfl) (by rfl) (by rfl) cc ?_ | refine callG (by rfl) (by rfl) (by rfl) cc ?_); clear cc; rintro _ _ ⟨t, a5, s5, rfl, ha5, rfl⟩
  simp (config := { maxSteps := 1000000 }) (disch := omega) only [go_sem, Int.reduceToNat, ↓reduceIte, Nat.reduceLT, Nat.reduceEqDiff, Nat.reduceAdd, Nat.reduceMul, Nat.reduceSub, Nat.reduceBEq, Nat.reduceLeDiff, reduceCtorEq, Nat.reduceLT, ↓Br_true, ↓Br_false, bind, pure, sc114, sb114]
  refine ⟨fun hc => ?_, fun hc => ?_⟩
  · have cc := toneS_cv n cap f hB hcap hn a5 s5 (by omega); (first | refine callR (by rfl) (by rfl) (by rfl) cc ?_ | refine callM (by rfl) (by rfl) (by rfl) cc ?_ | refine callG (by rfl) (by rfl) (by rfl) cc ?_); clear cc; rintro _ _ ⟨x, a6, s6, rfl, hx, ha6, rfl⟩
    simp (config := { maxSteps := 1000000 }) (disch := omega) only [go_sem, Int.reduceToNat, ↓reduceIte, Nat.reduceLT, Nat.reduceEqDiff, Nat.reduceAdd, Nat.reduceMul, Nat.reduceSub, Nat.reduceBEq, Nat.reduceLeDiff, reduceCtorEq, Nat.reduceLT, ↓Br_true, ↓Br_false, bind, pure, sc114, sb114]
    refine ⟨(mul8 hx).1, ?_⟩
    have cc := oneS_cv n cap f hB hcap hn a6 s6 3 (by omega) (by omega); (first | refine callR (by rfl) (by rfl) (by rfl) cc ?_ | refine callM (by rfl) (by rfl) (by rfl) cc ?_ | refine callG (by rfl) (by rfl) (by rfl) cc ?_); clear cc; rintro _ _ ⟨t2, a7, s7, rfl, ha7, rfl⟩
    simp (config := { maxSteps := 1000000 }) (disch := omega) only [go_sem, Int.reduceToNat, ↓reduceIte, Nat.reduceLT, Nat.reduceEqDiff, Nat.reduceAdd, Nat.reduceMul, Nat.reduceSub, Nat.reduceBEq, Nat.reduceLeDiff, reduceCtorEq, Nat.reduceLT, ↓Br_true, ↓Br_false, bind, pure, sc114, sb114]
    refine ⟨fun hc => ?_, fun hc => ?_⟩
    · have cc := toneS_cv n cap f hB hcap hn a7 s7 (by omega); (first | refine callR (by rfl) (by rfl) (by rfl) cc ?_ | refine callM (by rfl) (by rfl) (by rfl) cc ?_ | refine callG (by rfl) (by rfl) (by rfl) cc ?_); clear cc; rintro _ _ ⟨y, a8, s8, rfl, hy, ha8, rfl⟩
      simp (config := { maxSteps := 1000000 }) (disch := omega) only [go_sem, Int.reduceToNat, ↓reduceIte, Nat.reduceLT, Nat.reduceEqDiff, Nat.reduceAdd, Nat.reduceMul, Nat.reduceSub, Nat.reduceBEq, Nat.reduceLeDiff, reduceCtorEq, Nat.reduceLT, ↓Br_true, ↓Br_false, bind, pure, sc114, sb114]
      exact ⟨_, _, _, _, _, _, awn_ok (mul8 hx).2 q2.2 (L1 _ hy) q4.2, rfl, rfl⟩
    · exact ⟨_, _, _, _, _, _, awn_ok (mul8 hx).2 q2.2 q3.2 q4.2, rfl, rfl⟩
  · have cc := oneS_cv n cap f hB hcap hn a5 s5 3 (by omega) (by omega); (first | refine callR (by rfl) (by rfl) (by rfl) cc ?_ | refine callM (by rfl) (by rfl) (by rfl) cc ?_ | refine callG (by rfl) (by rfl) (by rfl) cc ?_); clear cc; rintro _ _ ⟨t2, a7, s7, rfl, ha7, rfl⟩
    simp (config := { maxSteps := 1000000 }) (disch := omega) only [go_sem, Int.reduceToNat, ↓reduceIte, Nat.reduceLT, Nat.reduceEqDiff, Nat.reduceAdd, Nat.reduceMul, Nat.reduceSub, Nat.reduceBEq, Nat.reduceLeDiff, reduceCtorEq, Nat.reduceLT, ↓Br_true, ↓Br_false, bind, pure, sc114, sb114]
    refine ⟨fun hc => ?_, fun hc => ?_⟩
    · have cc := toneS_cv n cap f hB hcap hn a7 s7 (by omega); (first | refine callR (by rfl) (by rfl) (by rfl) cc ?_ | refine callM (by rfl) (by rfl) (by rfl) cc ?_ | refine callG (by rfl) (by rfl) (by rfl) cc ?_); clear cc; rintro _ _ ⟨y, a8, s8, rfl, hy, ha8, rfl⟩
      simp (config := { maxSteps := 1000000 }) (disch := omega) only [go_sem, Int.reduceToNat, ↓reduceIte, Nat.reduceLT, Nat.reduceEqDiff, Nat.reduceAdd, Nat.reduceMul, Nat.reduceSub, Nat.reduceBEq, Nat.reduceLeDiff, reduceCtorEq, Nat.reduceLT, ↓Br_true, ↓Br_false, bind, pure, sc114, sb114]
      exact ⟨_, _, _, _, _, _, awn_ok q1.2 q2.2 (L1 _ hy) q4.2, rfl, rfl⟩
    · exact ⟨_, _, _, _, _, _, awn_ok q1.2 q2.2 q3.2 q4.2, rfl, rfl⟩
theorem P6AwningS_cv (n cap : Nat) (f : Nat → List FV) (hB : BytesAt n f) (hcap : n ≤ cap) (hn : n ≤ 4096) :
    CV Try.prog 52 [.slc 0 0 n cap] [.rows n cap 1 f false] (fun v h => ∃ o d g l : Nat, vAwning o d g l = true ∧ v = awnV o d g l ∧ h = [.rows n cap 1 f false]) := by
  refine cv_of_run 1000 sc52 sb52 6 [.cell 2 102] tabOk (by kernel_rfl) Try.func52 rfl (by kernel_rfl) Try.ntmps52 rfl (by simp) rfl (by simp [bdL, SV.bd]) ?_
  simp (config := { maxSteps := 1000000 }) (disch := omega) only [go_sem, Int.reduceToNat, ↓reduceIte, Nat.reduceLT, Nat.reduceEqDiff, Nat.reduceAdd, Nat.reduceMul, Nat.reduceSub, Nat.reduceBEq, Nat.reduceLeDiff, reduceCtorEq, Nat.reduceLT, ↓Br_true, ↓Br_false, bind, pure, sc52, sb52]
  have cc := fromS_cv n cap f hB hcap hn; (first | refine callR (by rfl) (by rfl) (by rfl) cc ?_ | refine callM (by rfl) (by rfl) (by rfl) cc ?_ | refine callG (by rfl) (by rfl) (by rfl) cc ?_); clear cc; rintro _ _ ⟨rfl, rfl⟩
  simp (config := { maxSteps := 1000000 }) (disch := omega) only [go_sem, Int.reduceToNat, ↓reduceIte, Nat.reduceLT, Nat.reduceEqDiff, Nat.reduceAdd, Nat.reduceMul, Nat.reduceSub, Nat.reduceBEq, Nat.reduceLeDiff, reduceCtorEq, Nat.reduceLT, ↓Br_true, ↓Br_false, bind, pure, sc52, sb52]
  have cc := awnDS_cv n cap f hB hcap hn 0 0 (by omega); (first | refine callR (by rfl) (by rfl) (by rfl) cc ?_ | refine callM (by rfl) (by rfl) (by rfl) cc ?_ | refine callG (by rfl) (by rfl) (by rfl) cc ?_); clear cc; rintro _ _ ⟨o, d, g, l, a1, s1, hv, rfl, rfl⟩
  simp (config := { maxSteps := 1000000 }) (disch := omega) only [go_sem, Int.reduceToNat, ↓reduceIte, Nat.reduceLT, Nat.reduceEqDiff, Nat.reduceAdd, Nat.reduceMul, Nat.reduceSub, Nat.reduceBEq, Nat.reduceLeDiff, reduceCtorEq, Nat.reduceLT, ↓Br_true, ↓Br_false, bind, pure, sc52, sb52]
  exact ⟨o, d, g, l, hv, rfl⟩
theorem P6TreesS_cv (n cap : Nat) (f : Nat → List FV) (hB : BytesAt n f) (hcap : n ≤ cap) (hn : n ≤ 4096) :
    CV Try.prog 57 [.slc 0 0 n cap] [.rows n cap 1 f false] (fun v h => ∃ (m cap' : Nat) (g : Nat → List FV), TreAt m g ∧ m ≤ 4 ∧ m ≤ cap' ∧ v = .slc 1 0 m cap' ∧ h = [.rows n cap 1 f false, .rows m cap' 3 g true]) := by
  refine cv_of_run 1000 sc57 sb57 33 [.tmp 2] tabOk (by kernel_rfl) Try.func57 rfl (by kernel_rfl) Try.ntmps57 rfl (by simp) rfl (by simp [bdL, SV.bd]) ?_
  simp (config := { maxSteps := 1000000 }) (disch := omega) only [go_sem, Int.reduceToNat, ↓reduceIte, Nat.reduceLT, Nat.reduceEqDiff, Nat.reduceAdd, Nat.reduceMul, Nat.reduceSub, Nat.reduceBEq, Nat.reduceLeDiff, reduceCtorEq, Nat.reduceLT, ↓Br_true, ↓Br_false, bind, pure, sc57, sb57]
  have cc := fromS_cv n cap f hB hcap hn; (first | refine callR (by rfl) (by rfl) (by rfl) cc ?_ | refine callM (by rfl) (by rfl) (by rfl) cc ?_ | refine callG (by rfl) (by rfl) (by rfl) cc ?_); clear cc; rintro _ _ ⟨rfl, rfl⟩
  simp (config := { maxSteps := 1000000 }) (disch := omega) only [go_sem, Int.reduceToNat, ↓reduceIte, Nat.reduceLT, Nat.reduceEqDiff, Nat.reduceAdd, Nat.reduceMul, Nat.reduceSub, Nat.reduceBEq, Nat.reduceLeDiff, reduceCtorEq, Nat.reduceLT, ↓Br_true, ↓Br_false, bind, pure, sc57, sb57]
  have cc := pickS_cv n cap f hB hcap hn 0 0 5 (by omega) (by omega); (first | refine callR (by rfl) (by rfl) (by rfl) cc ?_ | refine callM (by rfl) (by rfl) (by rfl) cc ?_ | refine callG (by rfl) (by rfl) (by rfl) cc ?_); clear cc; rintro _ _ ⟨b, a1, s1, rfl, hb, ha1, rfl⟩
  simp (config := { maxSteps := 1000000 }) (disch := omega) only [go_sem, Int.reduceToNat, ↓reduceIte, Nat.reduceLT, Nat.reduceEqDiff, Nat.reduceAdd, Nat.reduceMul, Nat.reduceSub, Nat.reduceBEq, Nat.reduceLeDiff, reduceCtorEq, Nat.reduceLT, ↓Br_true, ↓Br_false, bind, pure, sc57, sb57]
  refine ⟨(Nat × Nat × (Nat → List FV) × Int × Int), fun s => (s.1 : Int) ≤ b ∧ s.1 ≤ s.2.1 ∧ TreAt s.1 s.2.2.1 ∧ (0 ≤ s.2.2.2.1 ∧ s.2.2.2.1 ≤ 2 + 6 * (s.1 : Int)), fun s => b.toNat - s.1, fun s => [(2, .f .nils), (3, .ptr 1 0 0), (4, .slc 2 0 s.1 s.2.1), (5, .f (.int .i64 (b - s.1)))], fun s => [.rows n cap 1 f false, .lit [.slc 0 0 n cap, .f (.int .i64 s.2.2.2.1), .f (.int .u64 s.2.2.2.2)] true, .rows s.1 s.2.1 3 s.2.2.1 true], (0, 0, nthR [], a1, s1), (by intro _; simp), ?_, (by (try refine Or.inl ?_); simp [Cov, covE, covH, cb_dead, cb_lit, cb_rows, cb_cells, cd_lit, cd_rows, cd_cells, cd_dead, covRow, look, SV.known, SV.bd, bdL, Int.sub_zero, hcap] <;> omega), ?_⟩
  · exact ⟨hb.1, by omega, fun i hi => by omega, by simp only; omega⟩
  · rintro ⟨m, c1, g, a2, s2⟩ ⟨hm, hc1, hg, ha2⟩
    simp only at hm hc1 hg ha2
    by_cases hlt : (m : Int) < b
    · have hd : decide (0 < b - (m : Int)) = true := decide_eq_true (by omega)
      simp (config := { maxSteps := 1000000 }) (disch := omega) only [go_sem, Int.reduceToNat, ↓reduceIte, Nat.reduceLT, Nat.reduceEqDiff, Nat.reduceAdd, Nat.reduceMul, Nat.reduceSub, Nat.reduceBEq, Nat.reduceLeDiff, reduceCtorEq, Nat.reduceLT, ↓Br_true, ↓Br_false, bind, pure, sc57, sb57, hd]
      have cc := pickS_cv n cap f hB hcap hn a2 s2 256 (by omega) (by omega); (first | refine callR (by rfl) (by rfl) (by rfl) cc ?_ | refine callM (by rfl) (by rfl) (by rfl) cc ?_ | refine callG (by rfl) (by rfl) (by rfl) cc ?_); clear cc; rintro _ _ ⟨p1, a3, s3, rfl, h1, ha3, rfl⟩
      simp (config := { maxSteps := 1000000 }) (disch := omega) only [go_sem, Int.reduceToNat, ↓reduceIte, Nat.reduceLT, Nat.reduceEqDiff, Nat.reduceAdd, Nat.reduceMul, Nat.reduceSub, Nat.reduceBEq, Nat.reduceLeDiff, reduceCtorEq, Nat.reduceLT, ↓Br_true, ↓Br_false, bind, pure, sc57, sb57]
      have cc := pickS_cv n cap f hB hcap hn a3 s3 60 (by omega) (by omega); (first | refine callR (by rfl) (by rfl) (by rfl) cc ?_ | refine callM (by rfl) (by rfl) (by rfl) cc ?_ | refine callG (by rfl) (by rfl) (by rfl) cc ?_); clear cc; rintro _ _ ⟨p2, a4, s4, rfl, h2, ha4, rfl⟩
      simp (config := { maxSteps := 1000000 }) (disch := omega) only [go_sem, Int.reduceToNat, ↓reduceIte, Nat.reduceLT, Nat.reduceEqDiff, Nat.reduceAdd, Nat.reduceMul, Nat.reduceSub, Nat.reduceBEq, Nat.reduceLeDiff, reduceCtorEq, Nat.reduceLT, ↓Br_true, ↓Br_false, bind, pure, sc57, sb57]
      have cc := pickS_cv n cap f hB hcap hn a4 s4 65 (by omega) (by omega); (first | refine callR (by rfl) (by rfl) (by rfl) cc ?_ | refine callM (by rfl) (by rfl) (by rfl) cc ?_ | refine callG (by rfl) (by rfl) (by rfl) cc ?_); clear cc; rintro _ _ ⟨p3, a5, s5, rfl, h3, ha5, rfl⟩
      simp (config := { maxSteps := 1000000 }) (disch := omega) only [go_sem, Int.reduceToNat, ↓reduceIte, Nat.reduceLT, Nat.reduceEqDiff, Nat.reduceAdd, Nat.reduceMul, Nat.reduceSub, Nat.reduceBEq, Nat.reduceLeDiff, reduceCtorEq, Nat.reduceLT, ↓Br_true, ↓Br_false, bind, pure, sc57, sb57]
      refine ⟨⟨Nat.le_refl _, by omega⟩, Or.inr (Or.inl ⟨⟨rfl, Nat.le_refl _⟩, fun c2 hc2 => ?_⟩)⟩
      have hc2 : m + 1 ≤ c2 := hc2
      simp (config := { maxSteps := 1000000 }) (disch := omega) only [go_sem, Int.reduceToNat, ↓reduceIte, Nat.reduceLT, Nat.reduceEqDiff, Nat.reduceAdd, Nat.reduceMul, Nat.reduceSub, Nat.reduceBEq, Nat.reduceLeDiff, reduceCtorEq, Nat.reduceLT, ↓Br_true, ↓Br_false, bind, pure, sc57, sb57]
      have e1 : b - (m : Int) - 1 = b - ((m + 1 : Nat) : Int) := by omega
      exact ⟨(m + 1, c2, catR g m (shR (nthR [ [.int .i16 p1, .int .i16 p2, .int .i16 p3] ]) 0), a5, s5), ⟨by simp only; omega, hc2, hg.push h1 h2 h3, by simp only; omega⟩, by simp only; omega, by refine Or.inr ⟨[0, 1, 5], by rfl, ?_⟩; simp [Cov, covE, covH, cb_dead, cb_lit, cb_rows, cb_cells, cd_lit, cd_rows, cd_cells, cd_dead, covRow, look, SV.known, SV.bd, bdL, locE, locV, locH, hget, SV.lin, inL, SV.ren, idx, bk_ren_lit, bk_ren_rows, bk_ren_cells, renL, e1, hcap, hc2] <;> omega⟩
    · have hd : decide (0 < b - (m : Int)) = false := decide_eq_false (by omega)
      simp (config := { maxSteps := 1000000 }) (disch := omega) only [go_sem, Int.reduceToNat, ↓reduceIte, Nat.reduceLT, Nat.reduceEqDiff, Nat.reduceAdd, Nat.reduceMul, Nat.reduceSub, Nat.reduceBEq, Nat.reduceLeDiff, reduceCtorEq, Nat.reduceLT, ↓Br_true, ↓Br_false, bind, pure, sc57, sb57, hd]
      exact ⟨m, c1, g, hg, by omega, hc1, rfl, rfl⟩

theorem blowN_cv (a sd : Int) (ha : 0 ≤ a ∧ a ≤ 1000) :
    CV Try.prog 109 [.ptr 0 0 0] [srcN a sd] (fun v h => ∃ (x : Nat → Nat) (a' s' : Int), (∀ j, j < 24 → Gst (x j)) ∧ v = .arr 24 (fun j => .flt .f32 (x j)) ∧ h = [srcN a' s']) := by
  have e0 : constF (FV.flt .f32 0) = fun _ => FV.flt .f32 0 := rfl
  refine cv_of_run 1000 sc109 sb109 23 [.cell 2 88] tabOk (by kernel_rfl) Try.func109 rfl (by kernel_rfl) Try.ntmps109 rfl (by simp) rfl (by simp [bdL, SV.bd]) ?_
  simp (config := { maxSteps := 1000000 }) (disch := omega) only [go_sem, Int.reduceToNat, ↓reduceIte, Nat.reduceLT, Nat.reduceEqDiff, Nat.reduceAdd, Nat.reduceMul, Nat.reduceSub, Nat.reduceBEq, Nat.reduceLeDiff, reduceCtorEq, Nat.reduceLT, ↓Br_true, ↓Br_false, bind, pure, sc109, sb109]
  repeat (with_reducible refine And.intro (by first | omega | assumption | (unfold SOk; kernel_rfl) | (unfold SBOk; kernel_rfl)) ?_)
  have cc := pickN_cv  a sd 16 (by omega) (by omega); (first | refine callR (by rfl) (by rfl) (by rfl) cc ?_ | refine callM (by rfl) (by rfl) (by rfl) cc ?_ | refine callG (by rfl) (by rfl) (by rfl) cc ?_); clear cc; rintro _ _ ⟨b, a1, s1, rfl, hb, ha1, rfl⟩
  simp (config := { maxSteps := 1000000 }) (disch := omega) only [go_sem, Int.reduceToNat, ↓reduceIte, Nat.reduceLT, Nat.reduceEqDiff, Nat.reduceAdd, Nat.reduceMul, Nat.reduceSub, Nat.reduceBEq, Nat.reduceLeDiff, reduceCtorEq, Nat.reduceLT, ↓Br_true, ↓Br_false, bind, pure, sc109, sb109]
  refine ⟨(Nat × Int × Int × Int × (Nat → Nat)), fun s => s.1 ≤ 24 ∧ (0 ≤ s.2.1 ∧ s.2.1 < 24) ∧ (0 ≤ s.2.2.1 ∧ s.2.2.1 ≤ 1002 + 4 * (s.1 : Int)) ∧ ∀ j, j < s.1 → Gst (s.2.2.2.2 j), fun s => 24 - s.1, fun s => [(0, .ptr 0 0 0), (2, .ptr 1 0 0), (3, .ptr 2 0 0), (4, .f (.int .i64 s.2.1)), (5, .f (.int .i64 s.1))], fun s => [srcN s.2.2.1 s.2.2.2.1, .cells 24 (fun _ => .flt .f32 0) true, .cells 24 (fun j => .flt .f32 (s.2.2.2.2 j)) true], (0, b, a1, s1, fun _ => 0), (by intro _; simp), ?_, (by (try refine Or.inl ?_); simp [Cov, covE, covH, cb_dead, cb_lit, cb_rows, cb_cells, cd_lit, cd_rows, cd_cells, cd_dead, covRow, look, SV.known, SV.bd, bdL, e0] <;> omega), ?_⟩
  · exact ⟨by omega, by simp only; omega, by simp only; omega, fun j hj => by omega⟩
  · rintro ⟨k, now, a2, s2, x⟩ ⟨hk, hnow, ha2, hx⟩
    simp only at hk hnow ha2 hx
    by_cases hlt : k < 24
    · have hd : decide ((k : Int) < 24) = true := decide_eq_true (by omega)
      simp (config := { maxSteps := 1000000 }) (disch := omega) only [go_sem, Int.reduceToNat, ↓reduceIte, Nat.reduceLT, Nat.reduceEqDiff, Nat.reduceAdd, Nat.reduceMul, Nat.reduceSub, Nat.reduceBEq, Nat.reduceLeDiff, reduceCtorEq, Nat.reduceLT, ↓Br_true, ↓Br_false, bind, pure, sc109, sb109, hd]
      have cc := oneN_cv  a2 s2 3 (by omega) (by omega); (first | refine callR (by rfl) (by rfl) (by rfl) cc ?_ | refine callM (by rfl) (by rfl) (by rfl) cc ?_ | refine callG (by rfl) (by rfl) (by rfl) cc ?_); clear cc; rintro _ _ ⟨t, a3, s3, rfl, ha3, rfl⟩
      simp (config := { maxSteps := 1000000 }) (disch := omega) only [go_sem, Int.reduceToNat, ↓reduceIte, Nat.reduceLT, Nat.reduceEqDiff, Nat.reduceAdd, Nat.reduceMul, Nat.reduceSub, Nat.reduceBEq, Nat.reduceLeDiff, reduceCtorEq, Nat.reduceLT, ↓Br_true, ↓Br_false, bind, pure, sc109, sb109]
      refine ⟨fun hc => ?_, fun hc => ?_⟩
      · have cc := pickN_cv  a3 s3 24 (by omega) (by omega); (first | refine callR (by rfl) (by rfl) (by rfl) cc ?_ | refine callM (by rfl) (by rfl) (by rfl) cc ?_ | refine callG (by rfl) (by rfl) (by rfl) cc ?_); clear cc; rintro _ _ ⟨b2, a4, s4, rfl, hb2, ha4, rfl⟩
        simp (config := { maxSteps := 1000000 }) (disch := omega) only [go_sem, Int.reduceToNat, ↓reduceIte, Nat.reduceLT, Nat.reduceEqDiff, Nat.reduceAdd, Nat.reduceMul, Nat.reduceSub, Nat.reduceBEq, Nat.reduceLeDiff, reduceCtorEq, Nat.reduceLT, ↓Br_true, ↓Br_false, bind, pure, sc109, sb109]
        have q := gst_quo hb2.1 hb2.2
        refine ⟨q.1, ?_⟩
        simp (config := { maxSteps := 1000000 }) (disch := omega) only [go_sem, Int.reduceToNat, ↓reduceIte, Nat.reduceLT, Nat.reduceEqDiff, Nat.reduceAdd, Nat.reduceMul, Nat.reduceSub, Nat.reduceBEq, Nat.reduceLeDiff, reduceCtorEq, Nat.reduceLT, ↓Br_true, ↓Br_false, bind, pure, sc109, sb109, updC_flt]
        refine ⟨by omega, by omega, (k + 1, b2, a4, s4, updN x k (fdiv (fofInt b2) 1073741824)), ⟨by omega, hb2, by simp only; omega, gst_step hx q.2⟩, by simp only; omega, by (try refine Or.inl ?_); simp [Cov, covE, covH, cb_dead, cb_lit, cb_rows, cb_cells, cd_lit, cd_rows, cd_cells, cd_dead, covRow, look, SV.known, SV.bd, bdL, updC_flt] <;> omega⟩
      · have q := gst_quo hnow.1 hnow.2
        refine ⟨q.1, ?_⟩
        simp (config := { maxSteps := 1000000 }) (disch := omega) only [go_sem, Int.reduceToNat, ↓reduceIte, Nat.reduceLT, Nat.reduceEqDiff, Nat.reduceAdd, Nat.reduceMul, Nat.reduceSub, Nat.reduceBEq, Nat.reduceLeDiff, reduceCtorEq, Nat.reduceLT, ↓Br_true, ↓Br_false, bind, pure, sc109, sb109, updC_flt]
        refine ⟨by omega, by omega, (k + 1, now, a3, s3, updN x k (fdiv (fofInt now) 1073741824)), ⟨by omega, hnow, by simp only; omega, gst_step hx q.2⟩, by simp only; omega, by (try refine Or.inl ?_); simp [Cov, covE, covH, cb_dead, cb_lit, cb_rows, cb_cells, cd_lit, cd_rows, cd_cells, cd_dead, covRow, look, SV.known, SV.bd, bdL, updC_flt] <;> omega⟩
    · have hd : decide ((k : Int) < 24) = false := decide_eq_false (by omega)
      obtain rfl : k = 24 := by omega
      simp (config := { maxSteps := 1000000 }) (disch := omega) only [go_sem, Int.reduceToNat, ↓reduceIte, Nat.reduceLT, Nat.reduceEqDiff, Nat.reduceAdd, Nat.reduceMul, Nat.reduceSub, Nat.reduceBEq, Nat.reduceLeDiff, reduceCtorEq, Nat.reduceLT, ↓Br_true, ↓Br_false, bind, pure, sc109, sb109, hd]
      exact ⟨x, _, _, hx, rfl, rfl⟩
theorem P6GustsN_cv :
    CV Try.prog 47 [.f .nils] [] (fun v h => ∃ x : Nat → Nat, (∀ j, j < 24 → Gst (x j)) ∧ v = .arr 24 (fun j => .flt .f32 (x j)) ∧ h = []) := by
  refine cv_of_run 1000 sc47 sb47 6 [.cell 2 88] tabOk (by kernel_rfl) Try.func47 rfl (by kernel_rfl) Try.ntmps47 rfl (by simp) rfl (by simp [bdL, SV.bd]) ?_
  simp (config := { maxSteps := 1000000 }) (disch := omega) only [go_sem, Int.reduceToNat, ↓reduceIte, Nat.reduceLT, Nat.reduceEqDiff, Nat.reduceAdd, Nat.reduceMul, Nat.reduceSub, Nat.reduceBEq, Nat.reduceLeDiff, reduceCtorEq, Nat.reduceLT, ↓Br_true, ↓Br_false, bind, pure, sc47, sb47]
  have cc := fromN_cv; (first | refine callR (by rfl) (by rfl) (by rfl) cc ?_ | refine callM (by rfl) (by rfl) (by rfl) cc ?_ | refine callG (by rfl) (by rfl) (by rfl) cc ?_); clear cc; rintro _ _ ⟨rfl, rfl⟩
  simp (config := { maxSteps := 1000000 }) (disch := omega) only [go_sem, Int.reduceToNat, ↓reduceIte, Nat.reduceLT, Nat.reduceEqDiff, Nat.reduceAdd, Nat.reduceMul, Nat.reduceSub, Nat.reduceBEq, Nat.reduceLeDiff, reduceCtorEq, Nat.reduceLT, ↓Br_true, ↓Br_false, bind, pure, sc47, sb47]
  have cc := blowN_cv  0 0 (by omega); (first | refine callR (by rfl) (by rfl) (by rfl) cc ?_ | refine callM (by rfl) (by rfl) (by rfl) cc ?_ | refine callG (by rfl) (by rfl) (by rfl) cc ?_); clear cc; rintro _ _ ⟨x, a1, s1, hx, rfl, rfl⟩
  simp (config := { maxSteps := 1000000 }) (disch := omega) only [go_sem, Int.reduceToNat, ↓reduceIte, Nat.reduceLT, Nat.reduceEqDiff, Nat.reduceAdd, Nat.reduceMul, Nat.reduceSub, Nat.reduceBEq, Nat.reduceLeDiff, reduceCtorEq, Nat.reduceLT, ↓Br_true, ↓Br_false, bind, pure, sc47, sb47]
  exact ⟨x, hx, rfl⟩
theorem sunDN_cv (a sd : Int) (ha : 0 ≤ a ∧ a ≤ 1000) :
    CV Try.prog 113 [.ptr 0 0 0] [srcN a sd] (fun v h => ∃ (x : Nat → Int) (a' s' : Int), SunI x 24 ∧ v = sunV x ∧ h = [srcN a' s']) := by
  have e0 : constF (FV.int .i16 0) = fun _ => FV.int .i16 0 := rfl
  refine cv_of_run 1000 sc113 sb113 57 [.cell 2 99] tabOk (by kernel_rfl) Try.func113 rfl (by kernel_rfl) Try.ntmps113 rfl (by simp) rfl (by simp [bdL, SV.bd]) ?_
  simp (config := { maxSteps := 1000000 }) (disch := omega) only [go_sem, Int.reduceToNat, ↓reduceIte, Nat.reduceLT, Nat.reduceEqDiff, Nat.reduceAdd, Nat.reduceMul, Nat.reduceSub, Nat.reduceBEq, Nat.reduceLeDiff, reduceCtorEq, Nat.reduceLT, ↓Br_true, ↓Br_false, bind, pure, sc113, sb113]
  repeat (with_reducible refine And.intro (by first | omega | assumption | (unfold SOk; kernel_rfl) | (unfold SBOk; kernel_rfl)) ?_)
  have cc := pickN_cv  a sd 56 (by omega) (by omega); (first | refine callR (by rfl) (by rfl) (by rfl) cc ?_ | refine callM (by rfl) (by rfl) (by rfl) cc ?_ | refine callG (by rfl) (by rfl) (by rfl) cc ?_); clear cc; rintro _ _ ⟨top, a1, s1, rfl, ht, ha1, rfl⟩
  simp (config := { maxSteps := 1000000 }) (disch := omega) only [go_sem, Int.reduceToNat, ↓reduceIte, Nat.reduceLT, Nat.reduceEqDiff, Nat.reduceAdd, Nat.reduceMul, Nat.reduceSub, Nat.reduceBEq, Nat.reduceLeDiff, reduceCtorEq, Nat.reduceLT, ↓Br_true, ↓Br_false, bind, pure, sc113, sb113]
  repeat (with_reducible refine And.intro (by first | omega | assumption | (unfold SOk; kernel_rfl) | (unfold SBOk; kernel_rfl)) ?_)
  have cc := pickN_cv  a1 s1 256 (by omega) (by omega); (first | refine callR (by rfl) (by rfl) (by rfl) cc ?_ | refine callM (by rfl) (by rfl) (by rfl) cc ?_ | refine callG (by rfl) (by rfl) (by rfl) cc ?_); clear cc; rintro _ _ ⟨turn, a2, s2, rfl, hu, ha2, rfl⟩
  simp (config := { maxSteps := 1000000 }) (disch := omega) only [go_sem, Int.reduceToNat, ↓reduceIte, Nat.reduceLT, Nat.reduceEqDiff, Nat.reduceAdd, Nat.reduceMul, Nat.reduceSub, Nat.reduceBEq, Nat.reduceLeDiff, reduceCtorEq, Nat.reduceLT, ↓Br_true, ↓Br_false, bind, pure, sc113, sb113]
  repeat (with_reducible refine And.intro (by first | omega | assumption | (unfold SOk; kernel_rfl) | (unfold SBOk; kernel_rfl)) ?_)
  have cc := pickN_cv  a2 s2 10 (by omega) (by omega); (first | refine callR (by rfl) (by rfl) (by rfl) cc ?_ | refine callM (by rfl) (by rfl) (by rfl) cc ?_ | refine callG (by rfl) (by rfl) (by rfl) cc ?_); clear cc; rintro _ _ ⟨rise, a3, s3, rfl, hr, ha3, rfl⟩
  simp (config := { maxSteps := 1000000 }) (disch := omega) only [go_sem, Int.reduceToNat, ↓reduceIte, Nat.reduceLT, Nat.reduceEqDiff, Nat.reduceAdd, Nat.reduceMul, Nat.reduceSub, Nat.reduceBEq, Nat.reduceLeDiff, reduceCtorEq, Nat.reduceLT, ↓Br_true, ↓Br_false, bind, pure, sc113, sb113]
  refine ⟨(Nat × Int × Int × (Nat → Int)), fun s => s.1 ≤ 24 ∧ (0 ≤ s.2.1 ∧ s.2.1 ≤ 1006 + 6 * (s.1 : Int)) ∧ SunI s.2.2.2 s.1, fun s => 24 - s.1, fun s => [(0, .ptr 0 0 0), (2, .ptr 1 0 0), (3, .ptr 2 0 0), (4, .f (.int .i64 (8 + top))), (5, .f (.int .i64 turn)), (6, .f (.int .i64 rise)), (7, .f (.int .i64 s.1))], fun s => [srcN s.2.1 s.2.2.1, .cells 48 (fun _ => .int .i16 0) true, .cells 48 (fun j => .int .i16 (s.2.2.2 j)) true], (0, a3, s3, fun _ => 0), (by intro _; simp), ?_, (by (try refine Or.inl ?_); simp [Cov, covE, covH, cb_dead, cb_lit, cb_rows, cb_cells, cd_lit, cd_rows, cd_cells, cd_dead, covRow, look, SV.known, SV.bd, bdL, e0] <;> omega), ?_⟩
  · exact ⟨by omega, by simp only; omega, fun j => by simp, fun j hj => by omega⟩
  · rintro ⟨k, a4, s4, x⟩ ⟨hk, ha4, hx⟩
    simp only at hk ha4 hx
    by_cases hlt : k < 24
    · have hd : decide ((k : Int) < 24) = true := decide_eq_true (by omega)
      simp (config := { maxSteps := 1000000 }) (disch := omega) only [go_sem, Int.reduceToNat, ↓reduceIte, Nat.reduceLT, Nat.reduceEqDiff, Nat.reduceAdd, Nat.reduceMul, Nat.reduceSub, Nat.reduceBEq, Nat.reduceLeDiff, reduceCtorEq, Nat.reduceLT, ↓Br_true, ↓Br_false, bind, pure, sc113, sb113, hd]
      (first | (refine callR (by rfl) (by rfl) (by rfl) (dmax_cv _ _ []) ?_; rintro _ _ ⟨m, rfl, hm1, hm2, hm3, rfl⟩) | (refine callM (by rfl) (by rfl) (by rfl) (dmax_cv _ _ []) ?_; rintro _ _ ⟨m, rfl, hm1, hm2, hm3, rfl⟩) | (refine callG (by rfl) (by rfl) (by rfl) (dmax_cv _ _ []) ?_; rintro _ _ ⟨m, rfl, hm1, hm2, hm3, rfl⟩))
      simp (config := { maxSteps := 1000000 }) (disch := omega) only [go_sem, Int.reduceToNat, ↓reduceIte, Nat.reduceLT, Nat.reduceEqDiff, Nat.reduceAdd, Nat.reduceMul, Nat.reduceSub, Nat.reduceBEq, Nat.reduceLeDiff, reduceCtorEq, Nat.reduceLT, ↓Br_true, ↓Br_false, bind, pure, sc113, sb113]
      have cc := oneN_cv  a4 s4 6 (by omega) (by omega); (first | refine callR (by rfl) (by rfl) (by rfl) cc ?_ | refine callM (by rfl) (by rfl) (by rfl) cc ?_ | refine callG (by rfl) (by rfl) (by rfl) cc ?_); clear cc; rintro _ _ ⟨t, a5, s5, rfl, ha5, rfl⟩
      simp (config := { maxSteps := 1000000 }) (disch := omega) only [go_sem, Int.reduceToNat, ↓reduceIte, Nat.reduceLT, Nat.reduceEqDiff, Nat.reduceAdd, Nat.reduceMul, Nat.reduceSub, Nat.reduceBEq, Nat.reduceLeDiff, reduceCtorEq, Nat.reduceLT, ↓Br_true, ↓Br_false, bind, pure, sc113, sb113]
      refine ⟨fun hc => ?_, fun hc => ?_⟩
      · have cc := pickN_cv  a5 s5 129 (by omega) (by omega); (first | refine callR (by rfl) (by rfl) (by rfl) cc ?_ | refine callM (by rfl) (by rfl) (by rfl) cc ?_ | refine callG (by rfl) (by rfl) (by rfl) cc ?_); clear cc; rintro _ _ ⟨p, a6, s6, rfl, hp, ha6, rfl⟩
        simp (config := { maxSteps := 1000000 }) (disch := omega) only [go_sem, Int.reduceToNat, ↓reduceIte, Nat.reduceLT, Nat.reduceEqDiff, Nat.reduceAdd, Nat.reduceMul, Nat.reduceSub, Nat.reduceBEq, Nat.reduceLeDiff, reduceCtorEq, Nat.reduceLT, ↓Br_true, ↓Br_false, bind, pure, sc113, sb113]
        (first | (refine callR (by rfl) (by rfl) (by rfl) (dmin_cv _ _ []) ?_; rintro _ _ ⟨m2, rfl, hn1, hn2, hn3, rfl⟩) | (refine callM (by rfl) (by rfl) (by rfl) (dmin_cv _ _ []) ?_; rintro _ _ ⟨m2, rfl, hn1, hn2, hn3, rfl⟩) | (refine callG (by rfl) (by rfl) (by rfl) (dmin_cv _ _ []) ?_; rintro _ _ ⟨m2, rfl, hn1, hn2, hn3, rfl⟩))
        simp (config := { maxSteps := 1000000 }) (disch := omega) only [go_sem, Int.reduceToNat, ↓reduceIte, Nat.reduceLT, Nat.reduceEqDiff, Nat.reduceAdd, Nat.reduceMul, Nat.reduceSub, Nat.reduceBEq, Nat.reduceLeDiff, reduceCtorEq, Nat.reduceLT, ↓Br_true, ↓Br_false, bind, pure, sc113, sb113]
        (first | (refine callR (by rfl) (by rfl) (by rfl) (dmax_cv _ _ []) ?_; rintro _ _ ⟨m3, rfl, ho1, ho2, ho3, rfl⟩) | (refine callM (by rfl) (by rfl) (by rfl) (dmax_cv _ _ []) ?_; rintro _ _ ⟨m3, rfl, ho1, ho2, ho3, rfl⟩) | (refine callG (by rfl) (by rfl) (by rfl) (dmax_cv _ _ []) ?_; rintro _ _ ⟨m3, rfl, ho1, ho2, ho3, rfl⟩))
        simp (config := { maxSteps := 1000000 }) (disch := omega) only [go_sem, Int.reduceToNat, ↓reduceIte, Nat.reduceLT, Nat.reduceEqDiff, Nat.reduceAdd, Nat.reduceMul, Nat.reduceSub, Nat.reduceBEq, Nat.reduceLeDiff, reduceCtorEq, Nat.reduceLT, ↓Br_true, ↓Br_false, bind, pure, sc113, sb113]
        refine ⟨by omega, ?_⟩
        have cc := pickN_cv  a6 s6 4 (by omega) (by omega); (first | refine callR (by rfl) (by rfl) (by rfl) cc ?_ | refine callM (by rfl) (by rfl) (by rfl) cc ?_ | refine callG (by rfl) (by rfl) (by rfl) cc ?_); clear cc; rintro _ _ ⟨q, a7, s7, rfl, hq, ha7, rfl⟩
        simp (config := { maxSteps := 1000000 }) (disch := omega) only [go_sem, Int.reduceToNat, ↓reduceIte, Nat.reduceLT, Nat.reduceEqDiff, Nat.reduceAdd, Nat.reduceMul, Nat.reduceSub, Nat.reduceBEq, Nat.reduceLeDiff, reduceCtorEq, Nat.reduceLT, ↓Br_true, ↓Br_false, bind, pure, sc113, sb113]
        have hz := tm_ok (b := turn + 10 * (k : Int) + q) (k := 256) (by omega) (by omega)
        have hw : IntKind.i16.wrap ((turn + 10 * (k : Int) + q).tmod 256) = (turn + 10 * (k : Int) + q).tmod 256 := wr_i16 _ (by omega) (by omega)
        exact ⟨by omega, by omega, by omega, (k + 1, a7, s7, updZ (updZ x k m3) (24 + k) ((turn + 10 * (k : Int) + q).tmod 256)), ⟨by omega, by simp only; omega, hx.step hlt (by omega) (by omega)⟩, by simp only; omega, by (try refine Or.inl ?_); simp [Cov, covE, covH, cb_dead, cb_lit, cb_rows, cb_cells, cd_lit, cd_rows, cd_cells, cd_dead, covRow, look, SV.known, SV.bd, bdL, hw, updC_i16] <;> omega⟩
      · (first | (refine callR (by rfl) (by rfl) (by rfl) (dmin_cv _ _ []) ?_; rintro _ _ ⟨m2, rfl, hn1, hn2, hn3, rfl⟩) | (refine callM (by rfl) (by rfl) (by rfl) (dmin_cv _ _ []) ?_; rintro _ _ ⟨m2, rfl, hn1, hn2, hn3, rfl⟩) | (refine callG (by rfl) (by rfl) (by rfl) (dmin_cv _ _ []) ?_; rintro _ _ ⟨m2, rfl, hn1, hn2, hn3, rfl⟩))
        simp (config := { maxSteps := 1000000 }) (disch := omega) only [go_sem, Int.reduceToNat, ↓reduceIte, Nat.reduceLT, Nat.reduceEqDiff, Nat.reduceAdd, Nat.reduceMul, Nat.reduceSub, Nat.reduceBEq, Nat.reduceLeDiff, reduceCtorEq, Nat.reduceLT, ↓Br_true, ↓Br_false, bind, pure, sc113, sb113]
        (first | (refine callR (by rfl) (by rfl) (by rfl) (dmax_cv _ _ []) ?_; rintro _ _ ⟨m3, rfl, ho1, ho2, ho3, rfl⟩) | (refine callM (by rfl) (by rfl) (by rfl) (dmax_cv _ _ []) ?_; rintro _ _ ⟨m3, rfl, ho1, ho2, ho3, rfl⟩) | (refine callG (by rfl) (by rfl) (by rfl) (dmax_cv _ _ []) ?_; rintro _ _ ⟨m3, rfl, ho1, ho2, ho3, rfl⟩))
        simp (config := { maxSteps := 1000000 }) (disch := omega) only [go_sem, Int.reduceToNat, ↓reduceIte, Nat.reduceLT, Nat.reduceEqDiff, Nat.reduceAdd, Nat.reduceMul, Nat.reduceSub, Nat.reduceBEq, Nat.reduceLeDiff, reduceCtorEq, Nat.reduceLT, ↓Br_true, ↓Br_false, bind, pure, sc113, sb113]
        refine ⟨by omega, ?_⟩
        have cc := pickN_cv  a5 s5 4 (by omega) (by omega); (first | refine callR (by rfl) (by rfl) (by rfl) cc ?_ | refine callM (by rfl) (by rfl) (by rfl) cc ?_ | refine callG (by rfl) (by rfl) (by rfl) cc ?_); clear cc; rintro _ _ ⟨q, a7, s7, rfl, hq, ha7, rfl⟩
        simp (config := { maxSteps := 1000000 }) (disch := omega) only [go_sem, Int.reduceToNat, ↓reduceIte, Nat.reduceLT, Nat.reduceEqDiff, Nat.reduceAdd, Nat.reduceMul, Nat.reduceSub, Nat.reduceBEq, Nat.reduceLeDiff, reduceCtorEq, Nat.reduceLT, ↓Br_true, ↓Br_false, bind, pure, sc113, sb113]
        have hz := tm_ok (b := turn + 10 * (k : Int) + q) (k := 256) (by omega) (by omega)
        have hw : IntKind.i16.wrap ((turn + 10 * (k : Int) + q).tmod 256) = (turn + 10 * (k : Int) + q).tmod 256 := wr_i16 _ (by omega) (by omega)
        exact ⟨by omega, by omega, by omega, (k + 1, a7, s7, updZ (updZ x k m3) (24 + k) ((turn + 10 * (k : Int) + q).tmod 256)), ⟨by omega, by simp only; omega, hx.step hlt (by omega) (by omega)⟩, by simp only; omega, by (try refine Or.inl ?_); simp [Cov, covE, covH, cb_dead, cb_lit, cb_rows, cb_cells, cd_lit, cd_rows, cd_cells, cd_dead, covRow, look, SV.known, SV.bd, bdL, hw, updC_i16] <;> omega⟩
    · have hd : decide ((k : Int) < 24) = false := decide_eq_false (by omega)
      obtain rfl : k = 24 := by omega
      simp (config := { maxSteps := 1000000 }) (disch := omega) only [go_sem, Int.reduceToNat, ↓reduceIte, Nat.reduceLT, Nat.reduceEqDiff, Nat.reduceAdd, Nat.reduceMul, Nat.reduceSub, Nat.reduceBEq, Nat.reduceLeDiff, reduceCtorEq, Nat.reduceLT, ↓Br_true, ↓Br_false, bind, pure, sc113, sb113, hd]
      exact ⟨x, _, _, hx, rfl, rfl⟩
theorem P6SunN_cv :
    CV Try.prog 51 [.f .nils] [] (fun v h => ∃ x : Nat → Int, SunI x 24 ∧ v = sunV x ∧ h = []) := by
  refine cv_of_run 1000 sc51 sb51 6 [.cell 2 99] tabOk (by kernel_rfl) Try.func51 rfl (by kernel_rfl) Try.ntmps51 rfl (by simp) rfl (by simp [bdL, SV.bd]) ?_
  simp (config := { maxSteps := 1000000 }) (disch := omega) only [go_sem, Int.reduceToNat, ↓reduceIte, Nat.reduceLT, Nat.reduceEqDiff, Nat.reduceAdd, Nat.reduceMul, Nat.reduceSub, Nat.reduceBEq, Nat.reduceLeDiff, reduceCtorEq, Nat.reduceLT, ↓Br_true, ↓Br_false, bind, pure, sc51, sb51]
  have cc := fromN_cv; (first | refine callR (by rfl) (by rfl) (by rfl) cc ?_ | refine callM (by rfl) (by rfl) (by rfl) cc ?_ | refine callG (by rfl) (by rfl) (by rfl) cc ?_); clear cc; rintro _ _ ⟨rfl, rfl⟩
  simp (config := { maxSteps := 1000000 }) (disch := omega) only [go_sem, Int.reduceToNat, ↓reduceIte, Nat.reduceLT, Nat.reduceEqDiff, Nat.reduceAdd, Nat.reduceMul, Nat.reduceSub, Nat.reduceBEq, Nat.reduceLeDiff, reduceCtorEq, Nat.reduceLT, ↓Br_true, ↓Br_false, bind, pure, sc51, sb51]
  have cc := sunDN_cv  0 0 (by omega); (first | refine callR (by rfl) (by rfl) (by rfl) cc ?_ | refine callM (by rfl) (by rfl) (by rfl) cc ?_ | refine callG (by rfl) (by rfl) (by rfl) cc ?_); clear cc; rintro _ _ ⟨x, a1, s1, hx, rfl, rfl⟩
  simp (config := { maxSteps := 1000000 }) (disch := omega) only [go_sem, Int.reduceToNat, ↓reduceIte, Nat.reduceLT, Nat.reduceEqDiff, Nat.reduceAdd, Nat.reduceMul, Nat.reduceSub, Nat.reduceBEq, Nat.reduceLeDiff, reduceCtorEq, Nat.reduceLT, ↓Br_true, ↓Br_false, bind, pure, sc51, sb51]
  exact ⟨x, hx, rfl⟩
theorem awnDN_cv (a sd : Int) (ha : 0 ≤ a ∧ a ≤ 1000) :
    CV Try.prog 114 [.ptr 0 0 0] [srcN a sd] (fun v h => ∃ (o d g l : Nat) (a' s' : Int), vAwning o d g l = true ∧ v = awnV o d g l ∧ h = [srcN a' s']) := by
  refine cv_of_run 1000 sc114 sb114 37 [.cell 2 102] tabOk (by kernel_rfl) Try.func114 rfl (by kernel_rfl) Try.ntmps114 rfl (by simp) rfl (by simp [bdL, SV.bd]) ?_
  simp (config := { maxSteps := 1000000 }) (disch := omega) only [go_sem, Int.reduceToNat, ↓reduceIte, Nat.reduceLT, Nat.reduceEqDiff, Nat.reduceAdd, Nat.reduceMul, Nat.reduceSub, Nat.reduceBEq, Nat.reduceLeDiff, reduceCtorEq, Nat.reduceLT, ↓Br_true, ↓Br_false, bind, pure, sc114, sb114]
  repeat (with_reducible refine And.intro (by first | omega | assumption | (unfold SOk; kernel_rfl) | (unfold SBOk; kernel_rfl)) ?_)
  have cc := pickN_cv  a sd 65 (by omega) (by omega); (first | refine callR (by rfl) (by rfl) (by rfl) cc ?_ | refine callM (by rfl) (by rfl) (by rfl) cc ?_ | refine callG (by rfl) (by rfl) (by rfl) cc ?_); clear cc; rintro _ _ ⟨b1, a1, s1, rfl, h1, ha1, rfl⟩
  simp (config := { maxSteps := 1000000 }) (disch := omega) only [go_sem, Int.reduceToNat, ↓reduceIte, Nat.reduceLT, Nat.reduceEqDiff, Nat.reduceAdd, Nat.reduceMul, Nat.reduceSub, Nat.reduceBEq, Nat.reduceLeDiff, reduceCtorEq, Nat.reduceLT, ↓Br_true, ↓Br_false, bind, pure, sc114, sb114]
  have q1 := b8 (n := b1) (m := 64) (T := key 1090519040) h1.1 (by omega) (by omega) (by decide) (by decide)
  refine ⟨q1.1, ?_⟩
  have cc := pickN_cv  a1 s1 17 (by omega) (by omega); (first | refine callR (by rfl) (by rfl) (by rfl) cc ?_ | refine callM (by rfl) (by rfl) (by rfl) cc ?_ | refine callG (by rfl) (by rfl) (by rfl) cc ?_); clear cc; rintro _ _ ⟨b2, a2, s2, rfl, h2, ha2, rfl⟩
  simp (config := { maxSteps := 1000000 }) (disch := omega) only [go_sem, Int.reduceToNat, ↓reduceIte, Nat.reduceLT, Nat.reduceEqDiff, Nat.reduceAdd, Nat.reduceMul, Nat.reduceSub, Nat.reduceBEq, Nat.reduceLeDiff, reduceCtorEq, Nat.reduceLT, ↓Br_true, ↓Br_false, bind, pure, sc114, sb114]
  have q2 := b8 (n := b2) (m := 16) (T := key 1073741824) h2.1 (by omega) (by omega) (by decide) (by decide)
  refine ⟨q2.1, ?_⟩
  have cc := pickN_cv  a2 s2 17 (by omega) (by omega); (first | refine callR (by rfl) (by rfl) (by rfl) cc ?_ | refine callM (by rfl) (by rfl) (by rfl) cc ?_ | refine callG (by rfl) (by rfl) (by rfl) cc ?_); clear cc; rintro _ _ ⟨b3, a3, s3, rfl, h3, ha3, rfl⟩
  simp (config := { maxSteps := 1000000 }) (disch := omega) only [go_sem, Int.reduceToNat, ↓reduceIte, Nat.reduceLT, Nat.reduceEqDiff, Nat.reduceAdd, Nat.reduceMul, Nat.reduceSub, Nat.reduceBEq, Nat.reduceLeDiff, reduceCtorEq, Nat.reduceLT, ↓Br_true, ↓Br_false, bind, pure, sc114, sb114]
  have q3 := b8 (n := b3) (m := 16) (T := key 1073741824) h3.1 (by omega) (by omega) (by decide) (by decide)
  refine ⟨q3.1, ?_⟩
  have cc := pickN_cv  a3 s3 32 (by omega) (by omega); (first | refine callR (by rfl) (by rfl) (by rfl) cc ?_ | refine callM (by rfl) (by rfl) (by rfl) cc ?_ | refine callG (by rfl) (by rfl) (by rfl) cc ?_); clear cc; rintro _ _ ⟨b4, a4, s4, rfl, h4, ha4, rfl⟩
  simp (config := { maxSteps := 1000000 }) (disch := omega) only [go_sem, Int.reduceToNat, ↓reduceIte, Nat.reduceLT, Nat.reduceEqDiff, Nat.reduceAdd, Nat.reduceMul, Nat.reduceSub, Nat.reduceBEq, Nat.reduceLeDiff, reduceCtorEq, Nat.reduceLT, ↓Br_true, ↓Br_false, bind, pure, sc114, sb114]
  have q4 := tall_ok h4.1 h4.2
  refine ⟨q4.1, ?_⟩
  have L1 : ∀ x, Prt x → Bnd x 1073741824 := fun x h => ⟨h.1, Int.le_trans h.2 (by decide)⟩
  have cc := oneN_cv  a4 s4 3 (by omega) (by omega); (first | refine callR (by rfl) (by rfl) (by rfl) cc ?_ | refine callM (by rfl) (by rfl) (by rfl) cc ?_ | refine callG (by rfl) (by rfl) (by rfl) cc ?_); clear cc; rintro _ _ ⟨t, a5, s5, rfl, ha5, rfl⟩
  simp (config := { maxSteps := 1000000 }) (disch := omega) only [go_sem, Int.reduceToNat, ↓reduceIte, Nat.reduceLT, Nat.reduceEqDiff, Nat.reduceAdd, Nat.reduceMul, Nat.reduceSub, Nat.reduceBEq, Nat.reduceLeDiff, reduceCtorEq, Nat.reduceLT, ↓Br_true, ↓Br_false, bind, pure, sc114, sb114]
  refine ⟨fun hc => ?_, fun hc => ?_⟩
  · have cc := toneN_cv  a5 s5 (by omega); (first | refine callR (by rfl) (by rfl) (by rfl) cc ?_ | refine callM (by rfl) (by rfl) (by rfl) cc ?_ | refine callG (by rfl) (by rfl) (by rfl) cc ?_); clear cc; rintro _ _ ⟨x, a6, s6, rfl, hx, ha6, rfl⟩
    simp (config := { maxSteps := 1000000 }) (disch := omega) only [go_sem, Int.reduceToNat, ↓reduceIte, Nat.reduceLT, Nat.reduceEqDiff, Nat.reduceAdd, Nat.reduceMul, Nat.reduceSub, Nat.reduceBEq, Nat.reduceLeDiff, reduceCtorEq, Nat.reduceLT, ↓Br_true, ↓Br_false, bind, pure, sc114, sb114]
    refine ⟨(mul8 hx).1, ?_⟩
    have cc := oneN_cv  a6 s6 3 (by omega) (by omega); (first | refine callR (by rfl) (by rfl) (by rfl) cc ?_ | refine callM (by rfl) (by rfl) (by rfl) cc ?_ | refine callG (by rfl) (by rfl) (by rfl) cc ?_); clear cc; rintro _ _ ⟨t2, a7, s7, rfl, ha7, rfl⟩
    simp (config := { maxSteps := 1000000 }) (disch := omega) only [go_sem, Int.reduceToNat, ↓reduceIte, Nat.reduceLT, Nat.reduceEqDiff, Nat.reduceAdd, Nat.reduceMul, Nat.reduceSub, Nat.reduceBEq, Nat.reduceLeDiff, reduceCtorEq, Nat.reduceLT, ↓Br_true, ↓Br_false, bind, pure, sc114, sb114]
    refine ⟨fun hc => ?_, fun hc => ?_⟩
    · have cc := toneN_cv  a7 s7 (by omega); (first | refine callR (by rfl) (by rfl) (by rfl) cc ?_ | refine callM (by rfl) (by rfl) (by rfl) cc ?_ | refine callG (by rfl) (by rfl) (by rfl) cc ?_); clear cc; rintro _ _ ⟨y, a8, s8, rfl, hy, ha8, rfl⟩
      simp (config := { maxSteps := 1000000 }) (disch := omega) only [go_sem, Int.reduceToNat, ↓reduceIte, Nat.reduceLT, Nat.reduceEqDiff, Nat.reduceAdd, Nat.reduceMul, Nat.reduceSub, Nat.reduceBEq, Nat.reduceLeDiff, reduceCtorEq, Nat.reduceLT, ↓Br_true, ↓Br_false, bind, pure, sc114, sb114]
      exact ⟨_, _, _, _, _, _, awn_ok (mul8 hx).2 q2.2 (L1 _ hy) q4.2, rfl, rfl⟩
    · exact ⟨_, _, _, _, _, _, awn_ok (mul8 hx).2 q2.2 q3.2 q4.2, rfl, rfl⟩
  · have cc := oneN_cv  a5 s5 3 (by omega) (by omega); (first | refine callR (by rfl) (by rfl) (by rfl) cc ?_ | refine callM (by rfl) (by rfl) (by rfl) cc ?_ | refine callG (by rfl) (by rfl) (by rfl) cc ?_); clear cc; rintro _ _ ⟨t2, a7, s7, rfl, ha7, rfl⟩
    simp (config := { maxSteps := 1000000 }) (disch := omega) only [go_sem, Int.reduceToNat, ↓reduceIte, Nat.reduceLT, Nat.reduceEqDiff, Nat.reduceAdd, Nat.reduceMul, Nat.reduceSub, Nat.reduceBEq, Nat.reduceLeDiff, reduceCtorEq, Nat.reduceLT, ↓Br_true, ↓Br_false, bind, pure, sc114, sb114]
    refine ⟨fun hc => ?_, fun hc => ?_⟩
    · have cc := toneN_cv  a7 s7 (by omega); (first | refine callR (by rfl) (by rfl) (by rfl) cc ?_ | refine callM (by rfl) (by rfl) (by rfl) cc ?_ | refine callG (by rfl) (by rfl) (by rfl) cc ?_); clear cc; rintro _ _ ⟨y, a8, s8, rfl, hy, ha8, rfl⟩
      simp (config := { maxSteps := 1000000 }) (disch := omega) only [go_sem, Int.reduceToNat, ↓reduceIte, Nat.reduceLT, Nat.reduceEqDiff, Nat.reduceAdd, Nat.reduceMul, Nat.reduceSub, Nat.reduceBEq, Nat.reduceLeDiff, reduceCtorEq, Nat.reduceLT, ↓Br_true, ↓Br_false, bind, pure, sc114, sb114]
      exact ⟨_, _, _, _, _, _, awn_ok q1.2 q2.2 (L1 _ hy) q4.2, rfl, rfl⟩
    · exact ⟨_, _, _, _, _, _, awn_ok q1.2 q2.2 q3.2 q4.2, rfl, rfl⟩
theorem P6AwningN_cv :
    CV Try.prog 52 [.f .nils] [] (fun v h => ∃ o d g l : Nat, vAwning o d g l = true ∧ v = awnV o d g l ∧ h = []) := by
  refine cv_of_run 1000 sc52 sb52 6 [.cell 2 102] tabOk (by kernel_rfl) Try.func52 rfl (by kernel_rfl) Try.ntmps52 rfl (by simp) rfl (by simp [bdL, SV.bd]) ?_
  simp (config := { maxSteps := 1000000 }) (disch := omega) only [go_sem, Int.reduceToNat, ↓reduceIte, Nat.reduceLT, Nat.reduceEqDiff, Nat.reduceAdd, Nat.reduceMul, Nat.reduceSub, Nat.reduceBEq, Nat.reduceLeDiff, reduceCtorEq, Nat.reduceLT, ↓Br_true, ↓Br_false, bind, pure, sc52, sb52]
  have cc := fromN_cv; (first | refine callR (by rfl) (by rfl) (by rfl) cc ?_ | refine callM (by rfl) (by rfl) (by rfl) cc ?_ | refine callG (by rfl) (by rfl) (by rfl) cc ?_); clear cc; rintro _ _ ⟨rfl, rfl⟩
  simp (config := { maxSteps := 1000000 }) (disch := omega) only [go_sem, Int.reduceToNat, ↓reduceIte, Nat.reduceLT, Nat.reduceEqDiff, Nat.reduceAdd, Nat.reduceMul, Nat.reduceSub, Nat.reduceBEq, Nat.reduceLeDiff, reduceCtorEq, Nat.reduceLT, ↓Br_true, ↓Br_false, bind, pure, sc52, sb52]
  have cc := awnDN_cv  0 0 (by omega); (first | refine callR (by rfl) (by rfl) (by rfl) cc ?_ | refine callM (by rfl) (by rfl) (by rfl) cc ?_ | refine callG (by rfl) (by rfl) (by rfl) cc ?_); clear cc; rintro _ _ ⟨o, d, g, l, a1, s1, hv, rfl, rfl⟩
  simp (config := { maxSteps := 1000000 }) (disch := omega) only [go_sem, Int.reduceToNat, ↓reduceIte, Nat.reduceLT, Nat.reduceEqDiff, Nat.reduceAdd, Nat.reduceMul, Nat.reduceSub, Nat.reduceBEq, Nat.reduceLeDiff, reduceCtorEq, Nat.reduceLT, ↓Br_true, ↓Br_false, bind, pure, sc52, sb52]
  exact ⟨o, d, g, l, hv, rfl⟩
theorem P6TreesN_cv :
    CV Try.prog 57 [.f .nils] [] (fun v h => ∃ (m cap' : Nat) (g : Nat → List FV), TreAt m g ∧ m ≤ 4 ∧ m ≤ cap' ∧ v = .slc 0 0 m cap' ∧ h = [.rows m cap' 3 g true]) := by
  refine cv_of_run 1000 sc57 sb57 33 [.tmp 2] tabOk (by kernel_rfl) Try.func57 rfl (by kernel_rfl) Try.ntmps57 rfl (by simp) rfl (by simp [bdL, SV.bd]) ?_
  simp (config := { maxSteps := 1000000 }) (disch := omega) only [go_sem, Int.reduceToNat, ↓reduceIte, Nat.reduceLT, Nat.reduceEqDiff, Nat.reduceAdd, Nat.reduceMul, Nat.reduceSub, Nat.reduceBEq, Nat.reduceLeDiff, reduceCtorEq, Nat.reduceLT, ↓Br_true, ↓Br_false, bind, pure, sc57, sb57]
  have cc := fromN_cv; (first | refine callR (by rfl) (by rfl) (by rfl) cc ?_ | refine callM (by rfl) (by rfl) (by rfl) cc ?_ | refine callG (by rfl) (by rfl) (by rfl) cc ?_); clear cc; rintro _ _ ⟨rfl, rfl⟩
  simp (config := { maxSteps := 1000000 }) (disch := omega) only [go_sem, Int.reduceToNat, ↓reduceIte, Nat.reduceLT, Nat.reduceEqDiff, Nat.reduceAdd, Nat.reduceMul, Nat.reduceSub, Nat.reduceBEq, Nat.reduceLeDiff, reduceCtorEq, Nat.reduceLT, ↓Br_true, ↓Br_false, bind, pure, sc57, sb57]
  have cc := pickN_cv  0 0 5 (by omega) (by omega); (first | refine callR (by rfl) (by rfl) (by rfl) cc ?_ | refine callM (by rfl) (by rfl) (by rfl) cc ?_ | refine callG (by rfl) (by rfl) (by rfl) cc ?_); clear cc; rintro _ _ ⟨b, a1, s1, rfl, hb, ha1, rfl⟩
  simp (config := { maxSteps := 1000000 }) (disch := omega) only [go_sem, Int.reduceToNat, ↓reduceIte, Nat.reduceLT, Nat.reduceEqDiff, Nat.reduceAdd, Nat.reduceMul, Nat.reduceSub, Nat.reduceBEq, Nat.reduceLeDiff, reduceCtorEq, Nat.reduceLT, ↓Br_true, ↓Br_false, bind, pure, sc57, sb57]
  refine ⟨(Nat × Nat × (Nat → List FV) × Int × Int), fun s => (s.1 : Int) ≤ b ∧ s.1 ≤ s.2.1 ∧ TreAt s.1 s.2.2.1 ∧ (0 ≤ s.2.2.2.1 ∧ s.2.2.2.1 ≤ 2 + 6 * (s.1 : Int)), fun s => b.toNat - s.1, fun s => [(2, .f .nils), (3, .ptr 0 0 0), (4, .slc 1 0 s.1 s.2.1), (5, .f (.int .i64 (b - s.1)))], fun s => [.lit [.f .nils, .f (.int .i64 s.2.2.2.1), .f (.int .u64 s.2.2.2.2)] true, .rows s.1 s.2.1 3 s.2.2.1 true], (0, 0, nthR [], a1, s1), (by intro _; simp), ?_, (by (try refine Or.inl ?_); simp [Cov, covE, covH, cb_dead, cb_lit, cb_rows, cb_cells, cd_lit, cd_rows, cd_cells, cd_dead, covRow, look, SV.known, SV.bd, bdL, Int.sub_zero] <;> omega), ?_⟩
  · exact ⟨hb.1, by omega, fun i hi => by omega, by simp only; omega⟩
  · rintro ⟨m, c1, g, a2, s2⟩ ⟨hm, hc1, hg, ha2⟩
    simp only at hm hc1 hg ha2
    by_cases hlt : (m : Int) < b
    · have hd : decide (0 < b - (m : Int)) = true := decide_eq_true (by omega)
      simp (config := { maxSteps := 1000000 }) (disch := omega) only [go_sem, Int.reduceToNat, ↓reduceIte, Nat.reduceLT, Nat.reduceEqDiff, Nat.reduceAdd, Nat.reduceMul, Nat.reduceSub, Nat.reduceBEq, Nat.reduceLeDiff, reduceCtorEq, Nat.reduceLT, ↓Br_true, ↓Br_false, bind, pure, sc57, sb57, hd]
      have cc := pickN_cv  a2 s2 256 (by omega) (by omega); (first | refine callR (by rfl) (by rfl) (by rfl) cc ?_ | refine callM (by rfl) (by rfl) (by rfl) cc ?_ | refine callG (by rfl) (by rfl) (by rfl) cc ?_); clear cc; rintro _ _ ⟨p1, a3, s3, rfl, h1, ha3, rfl⟩
      simp (config := { maxSteps := 1000000 }) (disch := omega) only [go_sem, Int.reduceToNat, ↓reduceIte, Nat.reduceLT, Nat.reduceEqDiff, Nat.reduceAdd, Nat.reduceMul, Nat.reduceSub, Nat.reduceBEq, Nat.reduceLeDiff, reduceCtorEq, Nat.reduceLT, ↓Br_true, ↓Br_false, bind, pure, sc57, sb57]
      have cc := pickN_cv  a3 s3 60 (by omega) (by omega); (first | refine callR (by rfl) (by rfl) (by rfl) cc ?_ | refine callM (by rfl) (by rfl) (by rfl) cc ?_ | refine callG (by rfl) (by rfl) (by rfl) cc ?_); clear cc; rintro _ _ ⟨p2, a4, s4, rfl, h2, ha4, rfl⟩
      simp (config := { maxSteps := 1000000 }) (disch := omega) only [go_sem, Int.reduceToNat, ↓reduceIte, Nat.reduceLT, Nat.reduceEqDiff, Nat.reduceAdd, Nat.reduceMul, Nat.reduceSub, Nat.reduceBEq, Nat.reduceLeDiff, reduceCtorEq, Nat.reduceLT, ↓Br_true, ↓Br_false, bind, pure, sc57, sb57]
      have cc := pickN_cv  a4 s4 65 (by omega) (by omega); (first | refine callR (by rfl) (by rfl) (by rfl) cc ?_ | refine callM (by rfl) (by rfl) (by rfl) cc ?_ | refine callG (by rfl) (by rfl) (by rfl) cc ?_); clear cc; rintro _ _ ⟨p3, a5, s5, rfl, h3, ha5, rfl⟩
      simp (config := { maxSteps := 1000000 }) (disch := omega) only [go_sem, Int.reduceToNat, ↓reduceIte, Nat.reduceLT, Nat.reduceEqDiff, Nat.reduceAdd, Nat.reduceMul, Nat.reduceSub, Nat.reduceBEq, Nat.reduceLeDiff, reduceCtorEq, Nat.reduceLT, ↓Br_true, ↓Br_false, bind, pure, sc57, sb57]
      refine ⟨⟨Nat.le_refl _, by omega⟩, Or.inr (Or.inl ⟨⟨rfl, Nat.le_refl _⟩, fun c2 hc2 => ?_⟩)⟩
      have hc2 : m + 1 ≤ c2 := hc2
      simp (config := { maxSteps := 1000000 }) (disch := omega) only [go_sem, Int.reduceToNat, ↓reduceIte, Nat.reduceLT, Nat.reduceEqDiff, Nat.reduceAdd, Nat.reduceMul, Nat.reduceSub, Nat.reduceBEq, Nat.reduceLeDiff, reduceCtorEq, Nat.reduceLT, ↓Br_true, ↓Br_false, bind, pure, sc57, sb57]
      have e1 : b - (m : Int) - 1 = b - ((m + 1 : Nat) : Int) := by omega
      exact ⟨(m + 1, c2, catR g m (shR (nthR [ [.int .i16 p1, .int .i16 p2, .int .i16 p3] ]) 0), a5, s5), ⟨by simp only; omega, hc2, hg.push h1 h2 h3, by simp only; omega⟩, by simp only; omega, by refine Or.inr ⟨[0, 4], by rfl, ?_⟩; simp [Cov, covE, covH, cb_dead, cb_lit, cb_rows, cb_cells, cd_lit, cd_rows, cd_cells, cd_dead, covRow, look, SV.known, SV.bd, bdL, locE, locV, locH, hget, SV.lin, inL, SV.ren, idx, bk_ren_lit, bk_ren_rows, bk_ren_cells, renL, e1, hc2] <;> omega⟩
    · have hd : decide (0 < b - (m : Int)) = false := decide_eq_false (by omega)
      simp (config := { maxSteps := 1000000 }) (disch := omega) only [go_sem, Int.reduceToNat, ↓reduceIte, Nat.reduceLT, Nat.reduceEqDiff, Nat.reduceAdd, Nat.reduceMul, Nat.reduceSub, Nat.reduceBEq, Nat.reduceLeDiff, reduceCtorEq, Nat.reduceLT, ↓Br_true, ↓Br_false, bind, pure, sc57, sb57, hd]
      exact ⟨m, c1, g, hg, by omega, hc1, rfl, rfl⟩
end Go.Proofs.Ytdncopphjamilaa.Vx
