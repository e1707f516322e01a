/- Draws, in the abstract: rooms. -/
import Derived.Test.YtjhddlkfkicpaaaGreatDoorDf
import Derived.Test.YtjhddlkfkicpaaaGreatDoorDn
import Derived.Test.YtjhddlkfkicpaaaGreatDoorRx
namespace Go.Proofs.YtjhddlkfkicpaaaGreatDoor.Vx
open Go Go.RowKit Fl
set_option maxRecDepth 100000
set_option maxHeartbeats 2000000
set_option linter.unusedSimpArgs false
set_option linter.unusedVariables false

/-- Windows that are drawn. -/
def WinAt (r : Rom) (m : Nat) (g : Nat → List FV) : Prop := ∀ i, i < m → ∃ u : Win, g i = u.fv ∧ u.ok r = true ∧ u.sm ∧ u.l < 4294967296
theorem prt_part {x : Nat} (h : Prt x) : isPart x = true := by
  unfold isPart btw
  rw [fle_of (by decide) h.1.1.nn (by have := h.1.2; exact this), fle_of h.1.1.nn (by decide) h.2]; rfl
theorem WinAt.push {r : Rom} {m : Nat} {g : Nat → List FV} (h : WinAt r m g) {w a : Int} {x : Nat} (hw : 0 ≤ w ∧ w < 4) (ha : 0 ≤ a ∧ a < lastI r w) (h9 : lastI r w ≤ 10) (hx : Prt x) (hb : x < 4294967296) : WinAt r (m + 1) (catR g m (shR (nthR [ [.int .i8 w, .int .i8 a, .flt .f32 x] ]) 0)) := fun i hi => by
  unfold catR
  by_cases q : i < m
  · rw [if_pos q]; exact h i q
  · obtain rfl : i = m := by omega
    rw [if_neg q]
    refine ⟨⟨w, a, x⟩, by simp [shR, nthR, Win.fv], ?_, ⟨by simp only; omega, by simp only; omega⟩, hb⟩
    simp only [Win.ok, Bool.and_eq_true, inn_true]
    exact ⟨⟨by omega, by omega⟩, prt_part hx⟩
theorem WinAt.one {r : Rom} {w a : Int} {x : Nat} (hw : 0 ≤ w ∧ w < 4) (ha : 0 ≤ a ∧ a < lastI r w) (h9 : lastI r w ≤ 10) (hx : Prt x) (hb : x < 4294967296) : WinAt r 1 (shR (nthR [ [.int .i8 w, .int .i8 a, .flt .f32 x] ]) 0) := fun i hi => by
  obtain rfl : i = 0 := by omega
  refine ⟨⟨w, a, x⟩, by simp [shR, nthR, Win.fv], ?_, ⟨by simp only; omega, by simp only; omega⟩, hb⟩
  simp only [Win.ok, Bool.and_eq_true, inn_true]
  exact ⟨⟨by omega, by omega⟩, prt_part hx⟩
theorem win_of {r : Rom} {m : Nat} {g : Nat → List FV} (h : WinAt r m g) : ∃ us : Nat → Win, (∀ i, i < m → g i = (us i).fv) ∧ allW r us m = true ∧ (∀ i, i < m → (us i).sm) ∧ ∀ i, i < m → (us i).l < 4294967296 := by
  have : ∀ i, ∃ u : Win, i < m → g i = u.fv ∧ u.ok r = true ∧ u.sm ∧ u.l < 4294967296 := fun i => by
    by_cases q : i < m
    · obtain ⟨u, hu⟩ := h i q; exact ⟨u, fun _ => hu⟩
    · exact ⟨⟨0, 0, 0⟩, fun c => absurd c q⟩
  refine ⟨fun i => (this i).choose, fun i hi => ((this i).choose_spec hi).1, ?_, fun i hi => ((this i).choose_spec hi).2.2.1, fun i hi => ((this i).choose_spec hi).2.2.2⟩
  unfold allW
  rw [List.all_eq_true]
  intro i hi
  exact ((this i).choose_spec (by simpa using hi)).2.1
theorem last_h {r : Rom} {w : Int} (h0 : w ≠ 0) (h2 : w ≠ 2) : lastI r w = r.hi := by unfold lastI; rw [if_neg h0, if_neg h2]
theorem last_w {r : Rom} {w : Int} (h1 : w ≠ 1) (h3 : w ≠ 3) (hw : 0 ≤ w ∧ w < 4) : lastI r w = r.wi := by
  unfold lastI
  by_cases c : w = 0
  · rw [if_pos c]
  · rw [if_neg c, if_pos (by omega)]
abbrev dwB (wi hi : Int) (m : Nat) : Option (Nat × (Nat → List FV)) → Blk
  | none => .lit [.f (.int .i8 wi), .f (.int .i8 hi), .f .nils] true
  | some s => .lit [.f (.int .i8 wi), .f (.int .i8 hi), .slc 4 0 m s.1] true
abbrev dwE (m : Nat) : Option (Nat × (Nat → List FV)) → List Blk
  | none => []
  | some s => [.rows m s.1 3 s.2 true]
def dwI (r : Rom) (m : Nat) : Option (Nat × (Nat → List FV)) → Prop
  | none => m = 0
  | some s => m ≤ s.1 ∧ WinAt r m s.2
theorem roomD_cv (n cap : Nat) (f : Nat → List FV) (hB : BytesAt n f) (hcap : n ≤ cap) (hn : n ≤ 4096) (a sd : Int) (ha : 0 ≤ a ∧ a ≤ 1000) :
    CV Tryz.prog 31 [.ptr 0 0 0] [srcS n cap a sd, .rows n cap 1 f false] (fun v h => ∃ wi hi a' s' : Int, ((1 ≤ wi ∧ wi ≤ 6) ∧ 1 ≤ hi ∧ hi ≤ 5) ∧ ((v = .agg [.f (.int .i8 wi), .f (.int .i8 hi), .f .nils] ∧ h = [srcS n cap a' s', .rows n cap 1 f false]) ∨ ∃ (m c : Nat) (g : Nat → List FV), m ≤ 4 ∧ m ≤ c ∧ WinAt ⟨wi, hi⟩ m g ∧ v = .agg [.f (.int .i8 wi), .f (.int .i8 hi), .slc 2 0 m c] ∧ h = [srcS n cap a' s', .rows n cap 1 f false, .rows m c 3 g true])) := by
  refine cv_of_run 1000 sc31 sb31 59 [.cell 2 27] tabOk (by kernel_rfl) Tryz.func31 rfl (by kernel_rfl) Tryz.ntmps31 rfl (by simp) rfl (by simp [bdL, SV.bd]) ?_
  simp (config := { maxSteps := 1000000 }) (disch := omega) only [go_sem, Int.reduceToNat, ↓reduceIte, Nat.reduceLT, Nat.reduceEqDiff, Nat.reduceAdd, Nat.reduceMul, Nat.reduceSub, Nat.reduceBEq, Nat.reduceLeDiff, reduceCtorEq, Nat.reduceLT, ↓Br_true, ↓Br_false, bind, pure, sc31, sb31]
  repeat (with_reducible refine And.intro (by first | omega | assumption | (unfold SOk; kernel_rfl) | (unfold SBOk; kernel_rfl)) ?_)
  have cc := pickS_cv n cap f hB hcap hn a sd 6 (by omega) (by omega); (first | refine callR (by rfl) (by rfl) (by rfl) cc ?_ | refine callM (by rfl) (by rfl) (by rfl) cc ?_ | refine callMo (by rfl) (by rfl) (by rfl) cc ?_ | refine callG (by rfl) (by rfl) (by rfl) cc ?_ | refine callW (by rfl) (by first | rfl | (simp [ofL, kpB, kpR, ofB, isOwnB, isDead, inL, hget]; done)) (by rfl) (by rfl) cc ?_); clear cc; rintro _ _ ⟨b1, a1, s1, rfl, h1, ha1, rfl⟩
  simp (config := { maxSteps := 1000000 }) (disch := omega) only [go_sem, Int.reduceToNat, ↓reduceIte, Nat.reduceLT, Nat.reduceEqDiff, Nat.reduceAdd, Nat.reduceMul, Nat.reduceSub, Nat.reduceBEq, Nat.reduceLeDiff, reduceCtorEq, Nat.reduceLT, ↓Br_true, ↓Br_false, bind, pure, sc31, sb31]
  repeat (with_reducible refine And.intro (by first | omega | assumption | (unfold SOk; kernel_rfl) | (unfold SBOk; kernel_rfl)) ?_)
  have cc := pickS_cv n cap f hB hcap hn a1 s1 5 (by omega) (by omega); (first | refine callR (by rfl) (by rfl) (by rfl) cc ?_ | refine callM (by rfl) (by rfl) (by rfl) cc ?_ | refine callMo (by rfl) (by rfl) (by rfl) cc ?_ | refine callG (by rfl) (by rfl) (by rfl) cc ?_ | refine callW (by rfl) (by first | rfl | (simp [ofL, kpB, kpR, ofB, isOwnB, isDead, inL, hget]; done)) (by rfl) (by rfl) cc ?_); clear cc; rintro _ _ ⟨b2, a2, s2, rfl, h2, ha2, rfl⟩
  simp (config := { maxSteps := 1000000 }) (disch := omega) only [go_sem, Int.reduceToNat, ↓reduceIte, Nat.reduceLT, Nat.reduceEqDiff, Nat.reduceAdd, Nat.reduceMul, Nat.reduceSub, Nat.reduceBEq, Nat.reduceLeDiff, reduceCtorEq, Nat.reduceLT, ↓Br_true, ↓Br_false, bind, pure, sc31, sb31]
  repeat (with_reducible refine And.intro (by first | omega | assumption | (unfold SOk; kernel_rfl) | (unfold SBOk; kernel_rfl)) ?_)
  have cc := pickS_cv n cap f hB hcap hn a2 s2 5 (by omega) (by omega); (first | refine callR (by rfl) (by rfl) (by rfl) cc ?_ | refine callM (by rfl) (by rfl) (by rfl) cc ?_ | refine callMo (by rfl) (by rfl) (by rfl) cc ?_ | refine callG (by rfl) (by rfl) (by rfl) cc ?_ | refine callW (by rfl) (by first | rfl | (simp [ofL, kpB, kpR, ofB, isOwnB, isDead, inL, hget]; done)) (by rfl) (by rfl) cc ?_); clear cc; rintro _ _ ⟨b, a3, s3, rfl, hb, ha3, rfl⟩
  simp (config := { maxSteps := 1000000 }) (disch := omega) only [go_sem, Int.reduceToNat, ↓reduceIte, Nat.reduceLT, Nat.reduceEqDiff, Nat.reduceAdd, Nat.reduceMul, Nat.reduceSub, Nat.reduceBEq, Nat.reduceLeDiff, reduceCtorEq, Nat.reduceLT, ↓Br_true, ↓Br_false, bind, pure, sc31, sb31]
  obtain ⟨wi, hwi⟩ : ∃ wi : Int, wi = 1 + b1 := ⟨_, rfl⟩
  obtain ⟨hi, hhi⟩ : ∃ hi : Int, hi = 1 + b2 := ⟨_, rfl⟩
  rw [← hwi, ← hhi]
  refine ⟨(Nat × Int × Int × Option (Nat × (Nat → List FV))), fun s => (s.1 : Int) ≤ b ∧ (0 ≤ s.2.1 ∧ s.2.1 ≤ 1006 + 12 * (s.1 : Int)) ∧ dwI ⟨wi, hi⟩ s.1 s.2.2.2, fun s => b.toNat - s.1, fun s => [(0, .ptr 0 0 0), (2, .ptr 2 0 0), (4, .ptr 3 0 0), (5, .f (.int .i64 (b - s.1)))], fun s => [srcS n cap s.2.1 s.2.2.1, .rows n cap 1 f false, .lit [.f (.int .i8 0), .f (.int .i8 0), .f .nils] true, dwB wi hi s.1 s.2.2.2] ++ dwE s.1 s.2.2.2, (0, a3, s3, none), (by intro _; simp), ?_, (by (try refine Or.inl ?_); simp [Cov, covE, covH, cb_dead, cb_lit, cb_rows, cb_cells, cd_lit, cd_rows, cd_cells, cd_dead, covRow, look, SV.known, SV.bd, bdL, Int.sub_zero, hcap, dwB, dwE, List.cons_append, List.nil_append] <;> omega), ?_⟩
  · exact ⟨hb.1, by simp only; omega, rfl⟩
  · rintro ⟨m, a4, s4, ow⟩ ⟨hm, ha4, hI⟩
    simp only at hm ha4 hI
    have l0 : ∀ w : Int, 0 ≤ w → w < 4 → lastI ⟨wi, hi⟩ w ≤ 10 := fun w _ _ => by unfold lastI; (repeat' split) <;> simp only <;> omega
    by_cases hlt : (m : Int) < b
    · have hd : decide (0 < b - (m : Int)) = true := decide_eq_true (by omega)
      have e1 : b - (m : Int) - 1 = b - ((m + 1 : Nat) : Int) := by omega
      rcases ow with _ | ⟨c1, g1⟩
      · obtain rfl : m = 0 := hI
        simp only [dwB, dwE, List.cons_append, List.nil_append]
        simp (config := { maxSteps := 1000000 }) (disch := omega) only [go_sem, Int.reduceToNat, ↓reduceIte, Nat.reduceLT, Nat.reduceEqDiff, Nat.reduceAdd, Nat.reduceMul, Nat.reduceSub, Nat.reduceBEq, Nat.reduceLeDiff, reduceCtorEq, Nat.reduceLT, ↓Br_true, ↓Br_false, bind, pure, sc31, sb31, hd]
        have cc := pickS_cv n cap f hB hcap hn a4 s4 4 (by omega) (by omega); (first | refine callR (by rfl) (by rfl) (by rfl) cc ?_ | refine callM (by rfl) (by rfl) (by rfl) cc ?_ | refine callMo (by rfl) (by rfl) (by rfl) cc ?_ | refine callG (by rfl) (by rfl) (by rfl) cc ?_ | refine callW (by rfl) (by first | rfl | (simp [ofL, kpB, kpR, ofB, isOwnB, isDead, inL, hget]; done)) (by rfl) (by rfl) cc ?_); clear cc; rintro _ _ ⟨w, a5, s5, rfl, hw, ha5, rfl⟩
        simp (config := { maxSteps := 1000000 }) (disch := omega) only [go_sem, Int.reduceToNat, ↓reduceIte, Nat.reduceLT, Nat.reduceEqDiff, Nat.reduceAdd, Nat.reduceMul, Nat.reduceSub, Nat.reduceBEq, Nat.reduceLeDiff, reduceCtorEq, Nat.reduceLT, ↓Br_true, ↓Br_false, bind, pure, sc31, sb31]
        by_cases c1' : w = 1
        · have d1 : decide (w = 1) = true := decide_eq_true c1'
          simp (config := { maxSteps := 1000000 }) (disch := omega) only [go_sem, Int.reduceToNat, ↓reduceIte, Nat.reduceLT, Nat.reduceEqDiff, Nat.reduceAdd, Nat.reduceMul, Nat.reduceSub, Nat.reduceBEq, Nat.reduceLeDiff, reduceCtorEq, Nat.reduceLT, ↓Br_true, ↓Br_false, bind, pure, sc31, sb31, d1]
          have cc := pickS_cv n cap f hB hcap hn a5 s5 hi (by omega) (by omega); (first | refine callR (by rfl) (by rfl) (by rfl) cc ?_ | refine callM (by rfl) (by rfl) (by rfl) cc ?_ | refine callMo (by rfl) (by rfl) (by rfl) cc ?_ | refine callG (by rfl) (by rfl) (by rfl) cc ?_ | refine callW (by rfl) (by first | rfl | (simp [ofL, kpB, kpR, ofB, isOwnB, isDead, inL, hget]; done)) (by rfl) (by rfl) cc ?_); clear cc; rintro _ _ ⟨p, a6, s6, rfl, hp, ha6, rfl⟩
          simp (config := { maxSteps := 1000000 }) (disch := omega) only [go_sem, Int.reduceToNat, ↓reduceIte, Nat.reduceLT, Nat.reduceEqDiff, Nat.reduceAdd, Nat.reduceMul, Nat.reduceSub, Nat.reduceBEq, Nat.reduceLeDiff, reduceCtorEq, Nat.reduceLT, ↓Br_true, ↓Br_false, bind, pure, sc31, sb31]
          have hl : p < lastI ⟨wi, hi⟩ w := by rw [last_h (by omega) (by omega)]; exact hp.2
          have cc := toneS_cv n cap f hB hcap hn a6 s6 (by omega); (first | refine callR (by rfl) (by rfl) (by rfl) cc ?_ | refine callM (by rfl) (by rfl) (by rfl) cc ?_ | refine callMo (by rfl) (by rfl) (by rfl) cc ?_ | refine callG (by rfl) (by rfl) (by rfl) cc ?_ | refine callW (by rfl) (by first | rfl | (simp [ofL, kpB, kpR, ofB, isOwnB, isDead, inL, hget]; done)) (by rfl) (by rfl) cc ?_); clear cc; rintro _ _ ⟨x, a7, s7, rfl, hx, ha7, rfl⟩
          simp (config := { maxSteps := 1000000 }) (disch := omega) only [go_sem, Int.reduceToNat, ↓reduceIte, Nat.reduceLT, Nat.reduceEqDiff, Nat.reduceAdd, Nat.reduceMul, Nat.reduceSub, Nat.reduceBEq, Nat.reduceLeDiff, reduceCtorEq, Nat.reduceLT, ↓Br_true, ↓Br_false, bind, pure, sc31, sb31]
          intro c2 hc2
          have hc2 : 1 ≤ c2 := hc2
          simp (config := { maxSteps := 1000000 }) (disch := omega) only [go_sem, Int.reduceToNat, ↓reduceIte, Nat.reduceLT, Nat.reduceEqDiff, Nat.reduceAdd, Nat.reduceMul, Nat.reduceSub, Nat.reduceBEq, Nat.reduceLeDiff, reduceCtorEq, Nat.reduceLT, ↓Br_true, ↓Br_false, bind, pure, sc31, sb31]
          exact ⟨(1, a7, s7, some (c2, shR (nthR [ [.int .i8 w, .int .i8 p, .flt .f32 x] ]) 0)), ⟨by simp only; omega, by simp only; omega, hc2, WinAt.one hw ⟨hp.1, hl⟩ (l0 w hw.1 hw.2) hx ha7.2⟩, by simp only; omega, by refine Or.inr ⟨[0, 1, 2, 3, 6], by rfl, ?_⟩; simp [Cov, covE, covH, cb_dead, cb_lit, cb_rows, cb_cells, cd_lit, cd_rows, cd_cells, cd_dead, covRow, look, SV.known, SV.bd, bdL, locE, locV, locH, hget, SV.lin, inL, SV.ren, idx, bk_ren_lit, bk_ren_rows, bk_ren_cells, renL, e1, hcap, hc2, dwB, dwE, List.cons_append, List.nil_append] <;> omega⟩
        · by_cases c3' : w = 3
          · have d1 : decide (w = 1) = false := decide_eq_false c1'
            have d3 : decide (w = 3) = true := decide_eq_true c3'
            simp (config := { maxSteps := 1000000 }) (disch := omega) only [go_sem, Int.reduceToNat, ↓reduceIte, Nat.reduceLT, Nat.reduceEqDiff, Nat.reduceAdd, Nat.reduceMul, Nat.reduceSub, Nat.reduceBEq, Nat.reduceLeDiff, reduceCtorEq, Nat.reduceLT, ↓Br_true, ↓Br_false, bind, pure, sc31, sb31, d1, d3]
            have cc := pickS_cv n cap f hB hcap hn a5 s5 hi (by omega) (by omega); (first | refine callR (by rfl) (by rfl) (by rfl) cc ?_ | refine callM (by rfl) (by rfl) (by rfl) cc ?_ | refine callMo (by rfl) (by rfl) (by rfl) cc ?_ | refine callG (by rfl) (by rfl) (by rfl) cc ?_ | refine callW (by rfl) (by first | rfl | (simp [ofL, kpB, kpR, ofB, isOwnB, isDead, inL, hget]; done)) (by rfl) (by rfl) cc ?_); clear cc; rintro _ _ ⟨p, a6, s6, rfl, hp, ha6, rfl⟩
            simp (config := { maxSteps := 1000000 }) (disch := omega) only [go_sem, Int.reduceToNat, ↓reduceIte, Nat.reduceLT, Nat.reduceEqDiff, Nat.reduceAdd, Nat.reduceMul, Nat.reduceSub, Nat.reduceBEq, Nat.reduceLeDiff, reduceCtorEq, Nat.reduceLT, ↓Br_true, ↓Br_false, bind, pure, sc31, sb31]
            have hl : p < lastI ⟨wi, hi⟩ w := by rw [last_h (by omega) (by omega)]; exact hp.2
            have cc := toneS_cv n cap f hB hcap hn a6 s6 (by omega); (first | refine callR (by rfl) (by rfl) (by rfl) cc ?_ | refine callM (by rfl) (by rfl) (by rfl) cc ?_ | refine callMo (by rfl) (by rfl) (by rfl) cc ?_ | refine callG (by rfl) (by rfl) (by rfl) cc ?_ | refine callW (by rfl) (by first | rfl | (simp [ofL, kpB, kpR, ofB, isOwnB, isDead, inL, hget]; done)) (by rfl) (by rfl) cc ?_); clear cc; rintro _ _ ⟨x, a7, s7, rfl, hx, ha7, rfl⟩
            simp (config := { maxSteps := 1000000 }) (disch := omega) only [go_sem, Int.reduceToNat, ↓reduceIte, Nat.reduceLT, Nat.reduceEqDiff, Nat.reduceAdd, Nat.reduceMul, Nat.reduceSub, Nat.reduceBEq, Nat.reduceLeDiff, reduceCtorEq, Nat.reduceLT, ↓Br_true, ↓Br_false, bind, pure, sc31, sb31]
            intro c2 hc2
            have hc2 : 1 ≤ c2 := hc2
            simp (config := { maxSteps := 1000000 }) (disch := omega) only [go_sem, Int.reduceToNat, ↓reduceIte, Nat.reduceLT, Nat.reduceEqDiff, Nat.reduceAdd, Nat.reduceMul, Nat.reduceSub, Nat.reduceBEq, Nat.reduceLeDiff, reduceCtorEq, Nat.reduceLT, ↓Br_true, ↓Br_false, bind, pure, sc31, sb31]
            exact ⟨(1, a7, s7, some (c2, shR (nthR [ [.int .i8 w, .int .i8 p, .flt .f32 x] ]) 0)), ⟨by simp only; omega, by simp only; omega, hc2, WinAt.one hw ⟨hp.1, hl⟩ (l0 w hw.1 hw.2) hx ha7.2⟩, by simp only; omega, by refine Or.inr ⟨[0, 1, 2, 3, 6], by rfl, ?_⟩; simp [Cov, covE, covH, cb_dead, cb_lit, cb_rows, cb_cells, cd_lit, cd_rows, cd_cells, cd_dead, covRow, look, SV.known, SV.bd, bdL, locE, locV, locH, hget, SV.lin, inL, SV.ren, idx, bk_ren_lit, bk_ren_rows, bk_ren_cells, renL, e1, hcap, hc2, dwB, dwE, List.cons_append, List.nil_append] <;> omega⟩
          · have d1 : decide (w = 1) = false := decide_eq_false c1'
            have d3 : decide (w = 3) = false := decide_eq_false c3'
            simp (config := { maxSteps := 1000000 }) (disch := omega) only [go_sem, Int.reduceToNat, ↓reduceIte, Nat.reduceLT, Nat.reduceEqDiff, Nat.reduceAdd, Nat.reduceMul, Nat.reduceSub, Nat.reduceBEq, Nat.reduceLeDiff, reduceCtorEq, Nat.reduceLT, ↓Br_true, ↓Br_false, bind, pure, sc31, sb31, d1, d3]
            have cc := pickS_cv n cap f hB hcap hn a5 s5 wi (by omega) (by omega); (first | refine callR (by rfl) (by rfl) (by rfl) cc ?_ | refine callM (by rfl) (by rfl) (by rfl) cc ?_ | refine callMo (by rfl) (by rfl) (by rfl) cc ?_ | refine callG (by rfl) (by rfl) (by rfl) cc ?_ | refine callW (by rfl) (by first | rfl | (simp [ofL, kpB, kpR, ofB, isOwnB, isDead, inL, hget]; done)) (by rfl) (by rfl) cc ?_); clear cc; rintro _ _ ⟨p, a6, s6, rfl, hp, ha6, rfl⟩
            simp (config := { maxSteps := 1000000 }) (disch := omega) only [go_sem, Int.reduceToNat, ↓reduceIte, Nat.reduceLT, Nat.reduceEqDiff, Nat.reduceAdd, Nat.reduceMul, Nat.reduceSub, Nat.reduceBEq, Nat.reduceLeDiff, reduceCtorEq, Nat.reduceLT, ↓Br_true, ↓Br_false, bind, pure, sc31, sb31]
            have hl : p < lastI ⟨wi, hi⟩ w := by rw [last_w (by omega) (by omega) hw]; exact hp.2
            have cc := toneS_cv n cap f hB hcap hn a6 s6 (by omega); (first | refine callR (by rfl) (by rfl) (by rfl) cc ?_ | refine callM (by rfl) (by rfl) (by rfl) cc ?_ | refine callMo (by rfl) (by rfl) (by rfl) cc ?_ | refine callG (by rfl) (by rfl) (by rfl) cc ?_ | refine callW (by rfl) (by first | rfl | (simp [ofL, kpB, kpR, ofB, isOwnB, isDead, inL, hget]; done)) (by rfl) (by rfl) cc ?_); clear cc; rintro _ _ ⟨x, a7, s7, rfl, hx, ha7, rfl⟩
            simp (config := { maxSteps := 1000000 }) (disch := omega) only [go_sem, Int.reduceToNat, ↓reduceIte, Nat.reduceLT, Nat.reduceEqDiff, Nat.reduceAdd, Nat.reduceMul, Nat.reduceSub, Nat.reduceBEq, Nat.reduceLeDiff, reduceCtorEq, Nat.reduceLT, ↓Br_true, ↓Br_false, bind, pure, sc31, sb31]
            intro c2 hc2
            have hc2 : 1 ≤ c2 := hc2
            simp (config := { maxSteps := 1000000 }) (disch := omega) only [go_sem, Int.reduceToNat, ↓reduceIte, Nat.reduceLT, Nat.reduceEqDiff, Nat.reduceAdd, Nat.reduceMul, Nat.reduceSub, Nat.reduceBEq, Nat.reduceLeDiff, reduceCtorEq, Nat.reduceLT, ↓Br_true, ↓Br_false, bind, pure, sc31, sb31]
            exact ⟨(1, a7, s7, some (c2, shR (nthR [ [.int .i8 w, .int .i8 p, .flt .f32 x] ]) 0)), ⟨by simp only; omega, by simp only; omega, hc2, WinAt.one hw ⟨hp.1, hl⟩ (l0 w hw.1 hw.2) hx ha7.2⟩, by simp only; omega, by refine Or.inr ⟨[0, 1, 2, 3, 6], by rfl, ?_⟩; simp [Cov, covE, covH, cb_dead, cb_lit, cb_rows, cb_cells, cd_lit, cd_rows, cd_cells, cd_dead, covRow, look, SV.known, SV.bd, bdL, locE, locV, locH, hget, SV.lin, inL, SV.ren, idx, bk_ren_lit, bk_ren_rows, bk_ren_cells, renL, e1, hcap, hc2, dwB, dwE, List.cons_append, List.nil_append] <;> omega⟩
      · obtain ⟨hc1, hg⟩ : m ≤ c1 ∧ WinAt ⟨wi, hi⟩ m g1 := hI
        simp only [dwB, dwE, List.cons_append, List.nil_append]
        simp (config := { maxSteps := 1000000 }) (disch := omega) only [go_sem, Int.reduceToNat, ↓reduceIte, Nat.reduceLT, Nat.reduceEqDiff, Nat.reduceAdd, Nat.reduceMul, Nat.reduceSub, Nat.reduceBEq, Nat.reduceLeDiff, reduceCtorEq, Nat.reduceLT, ↓Br_true, ↓Br_false, bind, pure, sc31, sb31, hd]
        have cc := pickS_cv n cap f hB hcap hn a4 s4 4 (by omega) (by omega); (first | refine callR (by rfl) (by rfl) (by rfl) cc ?_ | refine callM (by rfl) (by rfl) (by rfl) cc ?_ | refine callMo (by rfl) (by rfl) (by rfl) cc ?_ | refine callG (by rfl) (by rfl) (by rfl) cc ?_ | refine callW (by rfl) (by first | rfl | (simp [ofL, kpB, kpR, ofB, isOwnB, isDead, inL, hget]; done)) (by rfl) (by rfl) cc ?_); clear cc; rintro _ _ ⟨w, a5, s5, rfl, hw, ha5, rfl⟩
        simp (config := { maxSteps := 1000000 }) (disch := omega) only [go_sem, Int.reduceToNat, ↓reduceIte, Nat.reduceLT, Nat.reduceEqDiff, Nat.reduceAdd, Nat.reduceMul, Nat.reduceSub, Nat.reduceBEq, Nat.reduceLeDiff, reduceCtorEq, Nat.reduceLT, ↓Br_true, ↓Br_false, bind, pure, sc31, sb31]
        by_cases c1' : w = 1
        · have d1 : decide (w = 1) = true := decide_eq_true c1'
          simp (config := { maxSteps := 1000000 }) (disch := omega) only [go_sem, Int.reduceToNat, ↓reduceIte, Nat.reduceLT, Nat.reduceEqDiff, Nat.reduceAdd, Nat.reduceMul, Nat.reduceSub, Nat.reduceBEq, Nat.reduceLeDiff, reduceCtorEq, Nat.reduceLT, ↓Br_true, ↓Br_false, bind, pure, sc31, sb31, d1]
          have cc := pickS_cv n cap f hB hcap hn a5 s5 hi (by omega) (by omega); (first | refine callR (by rfl) (by rfl) (by rfl) cc ?_ | refine callM (by rfl) (by rfl) (by rfl) cc ?_ | refine callMo (by rfl) (by rfl) (by rfl) cc ?_ | refine callG (by rfl) (by rfl) (by rfl) cc ?_ | refine callW (by rfl) (by first | rfl | (simp [ofL, kpB, kpR, ofB, isOwnB, isDead, inL, hget]; done)) (by rfl) (by rfl) cc ?_); clear cc; rintro _ _ ⟨p, a6, s6, rfl, hp, ha6, rfl⟩
          simp (config := { maxSteps := 1000000 }) (disch := omega) only [go_sem, Int.reduceToNat, ↓reduceIte, Nat.reduceLT, Nat.reduceEqDiff, Nat.reduceAdd, Nat.reduceMul, Nat.reduceSub, Nat.reduceBEq, Nat.reduceLeDiff, reduceCtorEq, Nat.reduceLT, ↓Br_true, ↓Br_false, bind, pure, sc31, sb31]
          have hl : p < lastI ⟨wi, hi⟩ w := by rw [last_h (by omega) (by omega)]; exact hp.2
          have cc := toneS_cv n cap f hB hcap hn a6 s6 (by omega); (first | refine callR (by rfl) (by rfl) (by rfl) cc ?_ | refine callM (by rfl) (by rfl) (by rfl) cc ?_ | refine callMo (by rfl) (by rfl) (by rfl) cc ?_ | refine callG (by rfl) (by rfl) (by rfl) cc ?_ | refine callW (by rfl) (by first | rfl | (simp [ofL, kpB, kpR, ofB, isOwnB, isDead, inL, hget]; done)) (by rfl) (by rfl) cc ?_); clear cc; rintro _ _ ⟨x, a7, s7, rfl, hx, ha7, rfl⟩
          simp (config := { maxSteps := 1000000 }) (disch := omega) only [go_sem, Int.reduceToNat, ↓reduceIte, Nat.reduceLT, Nat.reduceEqDiff, Nat.reduceAdd, Nat.reduceMul, Nat.reduceSub, Nat.reduceBEq, Nat.reduceLeDiff, reduceCtorEq, Nat.reduceLT, ↓Br_true, ↓Br_false, bind, pure, sc31, sb31]
          refine ⟨⟨Nat.le_refl _, by omega⟩, Or.inr (Or.inl ⟨⟨rfl, Nat.le_refl _⟩, fun c2 hc2 => ?_⟩)⟩
          have hc2 : m + 1 ≤ c2 := hc2
          simp (config := { maxSteps := 1000000 }) (disch := omega) only [go_sem, Int.reduceToNat, ↓reduceIte, Nat.reduceLT, Nat.reduceEqDiff, Nat.reduceAdd, Nat.reduceMul, Nat.reduceSub, Nat.reduceBEq, Nat.reduceLeDiff, reduceCtorEq, Nat.reduceLT, ↓Br_true, ↓Br_false, bind, pure, sc31, sb31]
          exact ⟨(m + 1, a7, s7, some (c2, catR g1 m (shR (nthR [ [.int .i8 w, .int .i8 p, .flt .f32 x] ]) 0))), ⟨by simp only; omega, by simp only; omega, hc2, hg.push hw ⟨hp.1, hl⟩ (l0 w hw.1 hw.2) hx ha7.2⟩, by simp only; omega, by refine Or.inr ⟨[0, 1, 2, 3, 7], by rfl, ?_⟩; simp [Cov, covE, covH, cb_dead, cb_lit, cb_rows, cb_cells, cd_lit, cd_rows, cd_cells, cd_dead, covRow, look, SV.known, SV.bd, bdL, locE, locV, locH, hget, SV.lin, inL, SV.ren, idx, bk_ren_lit, bk_ren_rows, bk_ren_cells, renL, e1, hcap, hc2, dwB, dwE, List.cons_append, List.nil_append] <;> omega⟩
        · by_cases c3' : w = 3
          · have d1 : decide (w = 1) = false := decide_eq_false c1'
            have d3 : decide (w = 3) = true := decide_eq_true c3'
            simp (config := { maxSteps := 1000000 }) (disch := omega) only [go_sem, Int.reduceToNat, ↓reduceIte, Nat.reduceLT, Nat.reduceEqDiff, Nat.reduceAdd, Nat.reduceMul, Nat.reduceSub, Nat.reduceBEq, Nat.reduceLeDiff, reduceCtorEq, Nat.reduceLT, ↓Br_true, ↓Br_false, bind, pure, sc31, sb31, d1, d3]
            have cc := pickS_cv n cap f hB hcap hn a5 s5 hi (by omega) (by omega); (first | refine callR (by rfl) (by rfl) (by rfl) cc ?_ | refine callM (by rfl) (by rfl) (by rfl) cc ?_ | refine callMo (by rfl) (by rfl) (by rfl) cc ?_ | refine callG (by rfl) (by rfl) (by rfl) cc ?_ | refine callW (by rfl) (by first | rfl | (simp [ofL, kpB, kpR, ofB, isOwnB, isDead, inL, hget]; done)) (by rfl) (by rfl) cc ?_); clear cc; rintro _ _ ⟨p, a6, s6, rfl, hp, ha6, rfl⟩
            simp (config := { maxSteps := 1000000 }) (disch := omega) only [go_sem, Int.reduceToNat, ↓reduceIte, Nat.reduceLT, Nat.reduceEqDiff, Nat.reduceAdd, Nat.reduceMul, Nat.reduceSub, Nat.reduceBEq, Nat.reduceLeDiff, reduceCtorEq, Nat.reduceLT, ↓Br_true, ↓Br_false, bind, pure, sc31, sb31]
            have hl : p < lastI ⟨wi, hi⟩ w := by rw [last_h (by omega) (by omega)]; exact hp.2
            have cc := toneS_cv n cap f hB hcap hn a6 s6 (by omega); (first | refine callR (by rfl) (by rfl) (by rfl) cc ?_ | refine callM (by rfl) (by rfl) (by rfl) cc ?_ | refine callMo (by rfl) (by rfl) (by rfl) cc ?_ | refine callG (by rfl) (by rfl) (by rfl) cc ?_ | refine callW (by rfl) (by first | rfl | (simp [ofL, kpB, kpR, ofB, isOwnB, isDead, inL, hget]; done)) (by rfl) (by rfl) cc ?_); clear cc; rintro _ _ ⟨x, a7, s7, rfl, hx, ha7, rfl⟩
            simp (config := { maxSteps := 1000000 }) (disch := omega) only [go_sem, Int.reduceToNat, ↓reduceIte, Nat.reduceLT, Nat.reduceEqDiff, Nat.reduceAdd, Nat.reduceMul, Nat.reduceSub, Nat.reduceBEq, Nat.reduceLeDiff, reduceCtorEq, Nat.reduceLT, ↓Br_true, ↓Br_false, bind, pure, sc31, sb31]
            refine ⟨⟨Nat.le_refl _, by omega⟩, Or.inr (Or.inl ⟨⟨rfl, Nat.le_refl _⟩, fun c2 hc2 => ?_⟩)⟩
            have hc2 : m + 1 ≤ c2 := hc2
            simp (config := { maxSteps := 1000000 }) (disch := omega) only [go_sem, Int.reduceToNat, ↓reduceIte, Nat.reduceLT, Nat.reduceEqDiff, Nat.reduceAdd, Nat.reduceMul, Nat.reduceSub, Nat.reduceBEq, Nat.reduceLeDiff, reduceCtorEq, Nat.reduceLT, ↓Br_true, ↓Br_false, bind, pure, sc31, sb31]
            exact ⟨(m + 1, a7, s7, some (c2, catR g1 m (shR (nthR [ [.int .i8 w, .int .i8 p, .flt .f32 x] ]) 0))), ⟨by simp only; omega, by simp only; omega, hc2, hg.push hw ⟨hp.1, hl⟩ (l0 w hw.1 hw.2) hx ha7.2⟩, by simp only; omega, by refine Or.inr ⟨[0, 1, 2, 3, 7], by rfl, ?_⟩; simp [Cov, covE, covH, cb_dead, cb_lit, cb_rows, cb_cells, cd_lit, cd_rows, cd_cells, cd_dead, covRow, look, SV.known, SV.bd, bdL, locE, locV, locH, hget, SV.lin, inL, SV.ren, idx, bk_ren_lit, bk_ren_rows, bk_ren_cells, renL, e1, hcap, hc2, dwB, dwE, List.cons_append, List.nil_append] <;> omega⟩
          · have d1 : decide (w = 1) = false := decide_eq_false c1'
            have d3 : decide (w = 3) = false := decide_eq_false c3'
            simp (config := { maxSteps := 1000000 }) (disch := omega) only [go_sem, Int.reduceToNat, ↓reduceIte, Nat.reduceLT, Nat.reduceEqDiff, Nat.reduceAdd, Nat.reduceMul, Nat.reduceSub, Nat.reduceBEq, Nat.reduceLeDiff, reduceCtorEq, Nat.reduceLT, ↓Br_true, ↓Br_false, bind, pure, sc31, sb31, d1, d3]
            have cc := pickS_cv n cap f hB hcap hn a5 s5 wi (by omega) (by omega); (first | refine callR (by rfl) (by rfl) (by rfl) cc ?_ | refine callM (by rfl) (by rfl) (by rfl) cc ?_ | refine callMo (by rfl) (by rfl) (by rfl) cc ?_ | refine callG (by rfl) (by rfl) (by rfl) cc ?_ | refine callW (by rfl) (by first | rfl | (simp [ofL, kpB, kpR, ofB, isOwnB, isDead, inL, hget]; done)) (by rfl) (by rfl) cc ?_); clear cc; rintro _ _ ⟨p, a6, s6, rfl, hp, ha6, rfl⟩
            simp (config := { maxSteps := 1000000 }) (disch := omega) only [go_sem, Int.reduceToNat, ↓reduceIte, Nat.reduceLT, Nat.reduceEqDiff, Nat.reduceAdd, Nat.reduceMul, Nat.reduceSub, Nat.reduceBEq, Nat.reduceLeDiff, reduceCtorEq, Nat.reduceLT, ↓Br_true, ↓Br_false, bind, pure, sc31, sb31]
            have hl : p < lastI ⟨wi, hi⟩ w := by rw [last_w (by omega) (by omega) hw]; exact hp.2
            have cc := toneS_cv n cap f hB hcap hn a6 s6 (by omega); (first | refine callR (by rfl) (by rfl) (by rfl) cc ?_ | refine callM (by rfl) (by rfl) (by rfl) cc ?_ | refine callMo (by rfl) (by rfl) (by rfl) cc ?_ | refine callG (by rfl) (by rfl) (by rfl) cc ?_ | refine callW (by rfl) (by first | rfl | (simp [ofL, kpB, kpR, ofB, isOwnB, isDead, inL, hget]; done)) (by rfl) (by rfl) cc ?_); clear cc; rintro _ _ ⟨x, a7, s7, rfl, hx, ha7, rfl⟩
            simp (config := { maxSteps := 1000000 }) (disch := omega) only [go_sem, Int.reduceToNat, ↓reduceIte, Nat.reduceLT, Nat.reduceEqDiff, Nat.reduceAdd, Nat.reduceMul, Nat.reduceSub, Nat.reduceBEq, Nat.reduceLeDiff, reduceCtorEq, Nat.reduceLT, ↓Br_true, ↓Br_false, bind, pure, sc31, sb31]
            refine ⟨⟨Nat.le_refl _, by omega⟩, Or.inr (Or.inl ⟨⟨rfl, Nat.le_refl _⟩, fun c2 hc2 => ?_⟩)⟩
            have hc2 : m + 1 ≤ c2 := hc2
            simp (config := { maxSteps := 1000000 }) (disch := omega) only [go_sem, Int.reduceToNat, ↓reduceIte, Nat.reduceLT, Nat.reduceEqDiff, Nat.reduceAdd, Nat.reduceMul, Nat.reduceSub, Nat.reduceBEq, Nat.reduceLeDiff, reduceCtorEq, Nat.reduceLT, ↓Br_true, ↓Br_false, bind, pure, sc31, sb31]
            exact ⟨(m + 1, a7, s7, some (c2, catR g1 m (shR (nthR [ [.int .i8 w, .int .i8 p, .flt .f32 x] ]) 0))), ⟨by simp only; omega, by simp only; omega, hc2, hg.push hw ⟨hp.1, hl⟩ (l0 w hw.1 hw.2) hx ha7.2⟩, by simp only; omega, by refine Or.inr ⟨[0, 1, 2, 3, 7], by rfl, ?_⟩; simp [Cov, covE, covH, cb_dead, cb_lit, cb_rows, cb_cells, cd_lit, cd_rows, cd_cells, cd_dead, covRow, look, SV.known, SV.bd, bdL, locE, locV, locH, hget, SV.lin, inL, SV.ren, idx, bk_ren_lit, bk_ren_rows, bk_ren_cells, renL, e1, hcap, hc2, dwB, dwE, List.cons_append, List.nil_append] <;> omega⟩
    · have hd : decide (0 < b - (m : Int)) = false := decide_eq_false (by omega)
      rcases ow with _ | ⟨c1, g1⟩
      · simp only [dwB, dwE, List.cons_append, List.nil_append]
        simp (config := { maxSteps := 1000000 }) (disch := omega) only [go_sem, Int.reduceToNat, ↓reduceIte, Nat.reduceLT, Nat.reduceEqDiff, Nat.reduceAdd, Nat.reduceMul, Nat.reduceSub, Nat.reduceBEq, Nat.reduceLeDiff, reduceCtorEq, Nat.reduceLT, ↓Br_true, ↓Br_false, bind, pure, sc31, sb31, hd]
        exact ⟨wi, hi, _, _, by omega, .inl ⟨rfl, rfl⟩⟩
      · obtain ⟨hc1, hg⟩ : m ≤ c1 ∧ WinAt ⟨wi, hi⟩ m g1 := hI
        simp only [dwB, dwE, List.cons_append, List.nil_append]
        simp (config := { maxSteps := 1000000 }) (disch := omega) only [go_sem, Int.reduceToNat, ↓reduceIte, Nat.reduceLT, Nat.reduceEqDiff, Nat.reduceAdd, Nat.reduceMul, Nat.reduceSub, Nat.reduceBEq, Nat.reduceLeDiff, reduceCtorEq, Nat.reduceLT, ↓Br_true, ↓Br_false, bind, pure, sc31, sb31, hd]
        exact ⟨wi, hi, _, _, by omega, .inr ⟨m, c1, g1, by omega, hc1, hg, rfl, rfl⟩⟩
theorem P6Room_cv (n cap : Nat) (f : Nat → List FV) (hB : BytesAt n f) (hcap : n ≤ cap) (hn : n ≤ 4096) :
    CV Tryz.prog 5 [.slc 0 0 n cap] [.rows n cap 1 f false] (fun v h => ∃ (wi hi : Int) (m c : Nat) (g : Nat → List FV), (((1 ≤ wi ∧ wi ≤ 6) ∧ 1 ≤ hi ∧ hi ≤ 5) ∧ m ≤ 4 ∧ m ≤ c ∧ WinAt ⟨wi, hi⟩ m g) ∧ v = .agg [.f (.int .i8 wi), .f (.int .i8 hi), .slc 1 0 m c] ∧ h = [.rows n cap 1 f false, .rows m c 3 g false]) := by
  refine CV.room (h := [.rows n cap 1 f false]) (R := fun wi hi m c g => (((1 ≤ wi ∧ wi ≤ 6) ∧ 1 ≤ hi ∧ hi ≤ 5) ∧ m ≤ 4 ∧ m ≤ c ∧ WinAt ⟨wi, hi⟩ m g)) ?_
  refine cv_of_run 1000 sc5 sb5 6 [.cell 2 27] tabOk (by kernel_rfl) Tryz.func5 rfl (by kernel_rfl) Tryz.ntmps5 rfl (by simp) rfl (by simp [bdL, SV.bd]) ?_
  simp (config := { maxSteps := 1000000 }) (disch := omega) only [go_sem, Int.reduceToNat, ↓reduceIte, Nat.reduceLT, Nat.reduceEqDiff, Nat.reduceAdd, Nat.reduceMul, Nat.reduceSub, Nat.reduceBEq, Nat.reduceLeDiff, reduceCtorEq, Nat.reduceLT, ↓Br_true, ↓Br_false, bind, pure, sc5, sb5]
  have cc := fromS_cv n cap f hB hcap hn; (first | refine callR (by rfl) (by rfl) (by rfl) cc ?_ | refine callM (by rfl) (by rfl) (by rfl) cc ?_ | refine callMo (by rfl) (by rfl) (by rfl) cc ?_ | refine callG (by rfl) (by rfl) (by rfl) cc ?_ | refine callW (by rfl) (by first | rfl | (simp [ofL, kpB, kpR, ofB, isOwnB, isDead, inL, hget]; done)) (by rfl) (by rfl) cc ?_); clear cc; rintro _ _ ⟨rfl, rfl⟩
  simp (config := { maxSteps := 1000000 }) (disch := omega) only [go_sem, Int.reduceToNat, ↓reduceIte, Nat.reduceLT, Nat.reduceEqDiff, Nat.reduceAdd, Nat.reduceMul, Nat.reduceSub, Nat.reduceBEq, Nat.reduceLeDiff, reduceCtorEq, Nat.reduceLT, ↓Br_true, ↓Br_false, bind, pure, sc5, sb5]
  have cc := roomD_cv n cap f hB hcap hn 0 0 (by omega); (first | refine callR (by rfl) (by rfl) (by rfl) cc ?_ | refine callM (by rfl) (by rfl) (by rfl) cc ?_ | refine callMo (by rfl) (by rfl) (by rfl) cc ?_ | refine callG (by rfl) (by rfl) (by rfl) cc ?_ | refine callW (by rfl) (by first | rfl | (simp [ofL, kpB, kpR, ofB, isOwnB, isDead, inL, hget]; done)) (by rfl) (by rfl) cc ?_); clear cc; rintro _ _ ⟨wi, hi, a1, s1, hz, hor⟩
  simp (config := { maxSteps := 1000000 }) (disch := omega) only [go_sem, Int.reduceToNat, ↓reduceIte, Nat.reduceLT, Nat.reduceEqDiff, Nat.reduceAdd, Nat.reduceMul, Nat.reduceSub, Nat.reduceBEq, Nat.reduceLeDiff, reduceCtorEq, Nat.reduceLT, ↓Br_true, ↓Br_false, bind, pure, sc5, sb5]
  rcases hor with ⟨rfl, rfl⟩ | ⟨m, c, g, hm, hc, hg, rfl, rfl⟩
  · simp (config := { maxSteps := 1000000 }) (disch := omega) only [go_sem, Int.reduceToNat, ↓reduceIte, Nat.reduceLT, Nat.reduceEqDiff, Nat.reduceAdd, Nat.reduceMul, Nat.reduceSub, Nat.reduceBEq, Nat.reduceLeDiff, reduceCtorEq, Nat.reduceLT, ↓Br_true, ↓Br_false, bind, pure, sc5, sb5]
    exact ⟨wi, hi, .inl ⟨⟨hz, fun i hi => by omega⟩, rfl⟩⟩
  · simp (config := { maxSteps := 1000000 }) (disch := omega) only [go_sem, Int.reduceToNat, ↓reduceIte, Nat.reduceLT, Nat.reduceEqDiff, Nat.reduceAdd, Nat.reduceMul, Nat.reduceSub, Nat.reduceBEq, Nat.reduceLeDiff, reduceCtorEq, Nat.reduceLT, ↓Br_true, ↓Br_false, bind, pure, sc5, sb5]
    exact ⟨wi, hi, .inr ⟨m, c, g, ⟨hz, hm, hc, hg⟩, rfl, rfl⟩⟩
theorem P6Tone_cv (n cap : Nat) (f : Nat → List FV) (hB : BytesAt n f) (hcap : n ≤ cap) (hn : n ≤ 4096) :
    CV Tryz.prog 6 [.slc 0 0 n cap] [.rows n cap 1 f false] (fun v h => ∃ x : Nat, Prt x ∧ v = .f (.flt .f32 x) ∧ h = [.rows n cap 1 f false]) := by
  refine cv_of_run 1000 sc6 sb6 6 [.tmp 2] tabOk (by kernel_rfl) Tryz.func6 rfl (by kernel_rfl) Tryz.ntmps6 rfl (by simp) rfl (by simp [bdL, SV.bd]) ?_
  simp (config := { maxSteps := 1000000 }) (disch := omega) only [go_sem, Int.reduceToNat, ↓reduceIte, Nat.reduceLT, Nat.reduceEqDiff, Nat.reduceAdd, Nat.reduceMul, Nat.reduceSub, Nat.reduceBEq, Nat.reduceLeDiff, reduceCtorEq, Nat.reduceLT, ↓Br_true, ↓Br_false, bind, pure, sc6, sb6]
  have cc := fromS_cv n cap f hB hcap hn; (first | refine callR (by rfl) (by rfl) (by rfl) cc ?_ | refine callM (by rfl) (by rfl) (by rfl) cc ?_ | refine callMo (by rfl) (by rfl) (by rfl) cc ?_ | refine callG (by rfl) (by rfl) (by rfl) cc ?_ | refine callW (by rfl) (by first | rfl | (simp [ofL, kpB, kpR, ofB, isOwnB, isDead, inL, hget]; done)) (by rfl) (by rfl) cc ?_); clear cc; rintro _ _ ⟨rfl, rfl⟩
  simp (config := { maxSteps := 1000000 }) (disch := omega) only [go_sem, Int.reduceToNat, ↓reduceIte, Nat.reduceLT, Nat.reduceEqDiff, Nat.reduceAdd, Nat.reduceMul, Nat.reduceSub, Nat.reduceBEq, Nat.reduceLeDiff, reduceCtorEq, Nat.reduceLT, ↓Br_true, ↓Br_false, bind, pure, sc6, sb6]
  have cc := toneS_cv n cap f hB hcap hn 0 0 (by omega); (first | refine callR (by rfl) (by rfl) (by rfl) cc ?_ | refine callM (by rfl) (by rfl) (by rfl) cc ?_ | refine callMo (by rfl) (by rfl) (by rfl) cc ?_ | refine callG (by rfl) (by rfl) (by rfl) cc ?_ | refine callW (by rfl) (by first | rfl | (simp [ofL, kpB, kpR, ofB, isOwnB, isDead, inL, hget]; done)) (by rfl) (by rfl) cc ?_); clear cc; rintro _ _ ⟨x, a1, s1, rfl, hx, ha1, rfl⟩
  simp (config := { maxSteps := 1000000 }) (disch := omega) only [go_sem, Int.reduceToNat, ↓reduceIte, Nat.reduceLT, Nat.reduceEqDiff, Nat.reduceAdd, Nat.reduceMul, Nat.reduceSub, Nat.reduceBEq, Nat.reduceLeDiff, reduceCtorEq, Nat.reduceLT, ↓Br_true, ↓Br_false, bind, pure, sc6, sb6]
  exact ⟨x, hx, rfl⟩
end Go.Proofs.YtjhddlkfkicpaaaGreatDoor.Vx
