/- Draws, in the abstract: rooms, desks, people. -/
import Derived.Test.YtdncopphjamilaaDa
import Derived.Test.YtdncopphjamilaaDn
import Derived.Test.YtdncopphjamilaaRk
namespace Go.Proofs.Ytdncopphjamilaa.Vx
open Go Go.RowKit Fl
set_option maxRecDepth 100000
set_option maxHeartbeats 2000000
set_option linter.unusedSimpArgs false
set_option linter.unusedVariables false

/-- Windows that are drawn. -/
def WinAt (r : Rom) (m : Nat) (g : Nat → List FV) : Prop := ∀ i, i < m → ∃ u : Win, g i = u.fv ∧ u.ok r = true ∧ u.sm
theorem prt_part {x : Nat} (h : Prt x) : isPart x = true := by
  unfold isPart btw
  rw [fle_of (by decide) h.1.1.nn (by have := h.1.2; exact this), fle_of h.1.1.nn (by decide) h.2]; rfl
theorem WinAt.push {r : Rom} {m : Nat} {g : Nat → List FV} (h : WinAt r m g) {w a : Int} {x : Nat} (hw : 0 ≤ w ∧ w < 4) (ha : 0 ≤ a ∧ a < lastI r w) (h9 : lastI r w ≤ 10) (hx : Prt x) : WinAt r (m + 1) (catR g m (shR (nthR [ [.int .i8 w, .int .i8 a, .flt .f32 x] ]) 0)) := fun i hi => by
  unfold catR
  by_cases q : i < m
  · rw [if_pos q]; exact h i q
  · obtain rfl : i = m := by omega
    rw [if_neg q]
    refine ⟨⟨w, a, x⟩, by simp [shR, nthR, Win.fv], ?_, ⟨by simp only; omega, by simp only; omega⟩⟩
    simp only [Win.ok, Bool.and_eq_true, inn_true]
    exact ⟨⟨by omega, by omega⟩, prt_part hx⟩
theorem WinAt.one {r : Rom} {w a : Int} {x : Nat} (hw : 0 ≤ w ∧ w < 4) (ha : 0 ≤ a ∧ a < lastI r w) (h9 : lastI r w ≤ 10) (hx : Prt x) : WinAt r 1 (shR (nthR [ [.int .i8 w, .int .i8 a, .flt .f32 x] ]) 0) := fun i hi => by
  obtain rfl : i = 0 := by omega
  refine ⟨⟨w, a, x⟩, by simp [shR, nthR, Win.fv], ?_, ⟨by simp only; omega, by simp only; omega⟩⟩
  simp only [Win.ok, Bool.and_eq_true, inn_true]
  exact ⟨⟨by omega, by omega⟩, prt_part hx⟩
theorem win_of {r : Rom} {m : Nat} {g : Nat → List FV} (h : WinAt r m g) : ∃ us : Nat → Win, (∀ i, i < m → g i = (us i).fv) ∧ allW r us m = true ∧ ∀ i, i < m → (us i).sm := by
  have : ∀ i, ∃ u : Win, i < m → g i = u.fv ∧ u.ok r = true ∧ u.sm := fun i => by
    by_cases q : i < m
    · obtain ⟨u, hu⟩ := h i q; exact ⟨u, fun _ => hu⟩
    · exact ⟨⟨0, 0, 0⟩, fun c => absurd c q⟩
  refine ⟨fun i => (this i).choose, fun i hi => ((this i).choose_spec hi).1, ?_, fun i hi => ((this i).choose_spec hi).2.2⟩
  unfold allW
  rw [List.all_eq_true]
  intro i hi
  exact ((this i).choose_spec (by simpa using hi)).2.1
theorem last_h {r : Rom} {w : Int} (h0 : w ≠ 0) (h2 : w ≠ 2) : lastI r w = r.hi := by unfold lastI; rw [if_neg h0, if_neg h2]
theorem last_w {r : Rom} {w : Int} (h1 : w ≠ 1) (h3 : w ≠ 3) (hw : 0 ≤ w ∧ w < 4) : lastI r w = r.wi := by
  unfold lastI
  by_cases c : w = 0
  · rw [if_pos c]
  · rw [if_neg c, if_pos (by omega)]
abbrev dwB (wi hi : Int) (m : Nat) : Option (Nat × (Nat → List FV)) → Blk
  | none => .lit [.f (.int .i8 wi), .f (.int .i8 hi), .f .nils] true
  | some s => .lit [.f (.int .i8 wi), .f (.int .i8 hi), .slc 4 0 m s.1] true
abbrev dwE (m : Nat) : Option (Nat × (Nat → List FV)) → List Blk
  | none => []
  | some s => [.rows m s.1 3 s.2 true]
def dwI (r : Rom) (m : Nat) : Option (Nat × (Nat → List FV)) → Prop
  | none => m = 0
  | some s => m ≤ s.1 ∧ WinAt r m s.2
theorem roomD_cv (n cap : Nat) (f : Nat → List FV) (hB : BytesAt n f) (hcap : n ≤ cap) (hn : n ≤ 4096) (a sd : Int) (ha : 0 ≤ a ∧ a ≤ 1000) :
    CV Try.prog 81 [.ptr 0 0 0] [srcS n cap a sd, .rows n cap 1 f false] (fun v h => ∃ wi hi a' s' : Int, ((1 ≤ wi ∧ wi ≤ 6) ∧ 1 ≤ hi ∧ hi ≤ 5) ∧ ((v = .agg [.f (.int .i8 wi), .f (.int .i8 hi), .f .nils] ∧ h = [srcS n cap a' s', .rows n cap 1 f false]) ∨ ∃ (m c : Nat) (g : Nat → List FV), m ≤ 4 ∧ m ≤ c ∧ WinAt ⟨wi, hi⟩ m g ∧ v = .agg [.f (.int .i8 wi), .f (.int .i8 hi), .slc 2 0 m c] ∧ h = [srcS n cap a' s', .rows n cap 1 f false, .rows m c 3 g true])) := by
  refine cv_of_run 1000 sc81 sb81 59 [.cell 2 36] tabOk (by kernel_rfl) Try.func81 rfl (by kernel_rfl) Try.ntmps81 rfl (by simp) rfl (by simp [bdL, SV.bd]) ?_
  simp (config := { maxSteps := 1000000 }) (disch := omega) only [go_sem, Int.reduceToNat, ↓reduceIte, Nat.reduceLT, Nat.reduceEqDiff, Nat.reduceAdd, Nat.reduceMul, Nat.reduceSub, Nat.reduceBEq, Nat.reduceLeDiff, reduceCtorEq, Nat.reduceLT, ↓Br_true, ↓Br_false, bind, pure, sc81, sb81]
  repeat (with_reducible refine And.intro (by first | omega | assumption | (unfold SOk; kernel_rfl) | (unfold SBOk; kernel_rfl)) ?_)
  have cc := pickS_cv n cap f hB hcap hn a sd 6 (by omega) (by omega); (first | refine callR (by rfl) (by rfl) (by rfl) cc ?_ | refine callM (by rfl) (by rfl) (by rfl) cc ?_ | refine callMo (by rfl) (by rfl) (by rfl) cc ?_ | refine callG (by rfl) (by rfl) (by rfl) cc ?_ | refine callW (by rfl) (by first | rfl | (simp [ofL, kpB, kpR, ofB, isOwnB, isDead, inL, hget]; done)) (by rfl) (by rfl) cc ?_); clear cc; rintro _ _ ⟨b1, a1, s1, rfl, h1, ha1, rfl⟩
  simp (config := { maxSteps := 1000000 }) (disch := omega) only [go_sem, Int.reduceToNat, ↓reduceIte, Nat.reduceLT, Nat.reduceEqDiff, Nat.reduceAdd, Nat.reduceMul, Nat.reduceSub, Nat.reduceBEq, Nat.reduceLeDiff, reduceCtorEq, Nat.reduceLT, ↓Br_true, ↓Br_false, bind, pure, sc81, sb81]
  repeat (with_reducible refine And.intro (by first | omega | assumption | (unfold SOk; kernel_rfl) | (unfold SBOk; kernel_rfl)) ?_)
  have cc := pickS_cv n cap f hB hcap hn a1 s1 5 (by omega) (by omega); (first | refine callR (by rfl) (by rfl) (by rfl) cc ?_ | refine callM (by rfl) (by rfl) (by rfl) cc ?_ | refine callMo (by rfl) (by rfl) (by rfl) cc ?_ | refine callG (by rfl) (by rfl) (by rfl) cc ?_ | refine callW (by rfl) (by first | rfl | (simp [ofL, kpB, kpR, ofB, isOwnB, isDead, inL, hget]; done)) (by rfl) (by rfl) cc ?_); clear cc; rintro _ _ ⟨b2, a2, s2, rfl, h2, ha2, rfl⟩
  simp (config := { maxSteps := 1000000 }) (disch := omega) only [go_sem, Int.reduceToNat, ↓reduceIte, Nat.reduceLT, Nat.reduceEqDiff, Nat.reduceAdd, Nat.reduceMul, Nat.reduceSub, Nat.reduceBEq, Nat.reduceLeDiff, reduceCtorEq, Nat.reduceLT, ↓Br_true, ↓Br_false, bind, pure, sc81, sb81]
  repeat (with_reducible refine And.intro (by first | omega | assumption | (unfold SOk; kernel_rfl) | (unfold SBOk; kernel_rfl)) ?_)
  have cc := pickS_cv n cap f hB hcap hn a2 s2 5 (by omega) (by omega); (first | refine callR (by rfl) (by rfl) (by rfl) cc ?_ | refine callM (by rfl) (by rfl) (by rfl) cc ?_ | refine callMo (by rfl) (by rfl) (by rfl) cc ?_ | refine callG (by rfl) (by rfl) (by rfl) cc ?_ | refine callW (by rfl) (by first | rfl | (simp [ofL, kpB, kpR, ofB, isOwnB, isDead, inL, hget]; done)) (by rfl) (by rfl) cc ?_); clear cc; rintro _ _ ⟨b, a3, s3, rfl, hb, ha3, rfl⟩
  simp (config := { maxSteps := 1000000 }) (disch := omega) only [go_sem, Int.reduceToNat, ↓reduceIte, Nat.reduceLT, Nat.reduceEqDiff, Nat.reduceAdd, Nat.reduceMul, Nat.reduceSub, Nat.reduceBEq, Nat.reduceLeDiff, reduceCtorEq, Nat.reduceLT, ↓Br_true, ↓Br_false, bind, pure, sc81, sb81]
  obtain ⟨wi, hwi⟩ : ∃ wi : Int, wi = 1 + b1 := ⟨_, rfl⟩
  obtain ⟨hi, hhi⟩ : ∃ hi : Int, hi = 1 + b2 := ⟨_, rfl⟩
  rw [← hwi, ← hhi]
  refine ⟨(Nat × Int × Int × Option (Nat × (Nat → List FV))), fun s => (s.1 : Int) ≤ b ∧ (0 ≤ s.2.1 ∧ s.2.1 ≤ 1006 + 12 * (s.1 : Int)) ∧ dwI ⟨wi, hi⟩ s.1 s.2.2.2, fun s => b.toNat - s.1, fun s => [(0, .ptr 0 0 0), (2, .ptr 2 0 0), (4, .ptr 3 0 0), (5, .f (.int .i64 (b - s.1)))], fun s => [srcS n cap s.2.1 s.2.2.1, .rows n cap 1 f false, .lit [.f (.int .i8 0), .f (.int .i8 0), .f .nils] true, dwB wi hi s.1 s.2.2.2] ++ dwE s.1 s.2.2.2, (0, a3, s3, none), (by intro _; simp), ?_, (by (try refine Or.inl ?_); simp [Cov, covE, covH, cb_dead, cb_lit, cb_rows, cb_cells, cd_lit, cd_rows, cd_cells, cd_dead, covRow, look, SV.known, SV.bd, bdL, Int.sub_zero, hcap, dwB, dwE, List.cons_append, List.nil_append] <;> omega), ?_⟩
  · exact ⟨hb.1, by simp only; omega, rfl⟩
  · rintro ⟨m, a4, s4, ow⟩ ⟨hm, ha4, hI⟩
    simp only at hm ha4 hI
    have l0 : ∀ w : Int, 0 ≤ w → w < 4 → lastI ⟨wi, hi⟩ w ≤ 10 := fun w _ _ => by unfold lastI; (repeat' split) <;> simp only <;> omega
    by_cases hlt : (m : Int) < b
    · have hd : decide (0 < b - (m : Int)) = true := decide_eq_true (by omega)
      have e1 : b - (m : Int) - 1 = b - ((m + 1 : Nat) : Int) := by omega
      rcases ow with _ | ⟨c1, g1⟩
      · obtain rfl : m = 0 := hI
        simp only [dwB, dwE, List.cons_append, List.nil_append]
        simp (config := { maxSteps := 1000000 }) (disch := omega) only [go_sem, Int.reduceToNat, ↓reduceIte, Nat.reduceLT, Nat.reduceEqDiff, Nat.reduceAdd, Nat.reduceMul, Nat.reduceSub, Nat.reduceBEq, Nat.reduceLeDiff, reduceCtorEq, Nat.reduceLT, ↓Br_true, ↓Br_false, bind, pure, sc81, sb81, hd]
        have cc := pickS_cv n cap f hB hcap hn a4 s4 4 (by omega) (by omega); (first | refine callR (by rfl) (by rfl) (by rfl) cc ?_ | refine callM (by rfl) (by rfl) (by rfl) cc ?_ | refine callMo (by rfl) (by rfl) (by rfl) cc ?_ | refine callG (by rfl) (by rfl) (by rfl) cc ?_ | refine callW (by rfl) (by first | rfl | (simp [ofL, kpB, kpR, ofB, isOwnB, isDead, inL, hget]; done)) (by rfl) (by rfl) cc ?_); clear cc; rintro _ _ ⟨w, a5, s5, rfl, hw, ha5, rfl⟩
        simp (config := { maxSteps := 1000000 }) (disch := omega) only [go_sem, Int.reduceToNat, ↓reduceIte, Nat.reduceLT, Nat.reduceEqDiff, Nat.reduceAdd, Nat.reduceMul, Nat.reduceSub, Nat.reduceBEq, Nat.reduceLeDiff, reduceCtorEq, Nat.reduceLT, ↓Br_true, ↓Br_false, bind, pure, sc81, sb81]
        by_cases c1' : w = 1
        · have d1 : decide (w = 1) = true := decide_eq_true c1'
          simp (config := { maxSteps := 1000000 }) (disch := omega) only [go_sem, Int.reduceToNat, ↓reduceIte, Nat.reduceLT, Nat.reduceEqDiff, Nat.reduceAdd, Nat.reduceMul, Nat.reduceSub, Nat.reduceBEq, Nat.reduceLeDiff, reduceCtorEq, Nat.reduceLT, ↓Br_true, ↓Br_false, bind, pure, sc81, sb81, d1]
          have cc := pickS_cv n cap f hB hcap hn a5 s5 hi (by omega) (by omega); (first | refine callR (by rfl) (by rfl) (by rfl) cc ?_ | refine callM (by rfl) (by rfl) (by rfl) cc ?_ | refine callMo (by rfl) (by rfl) (by rfl) cc ?_ | refine callG (by rfl) (by rfl) (by rfl) cc ?_ | refine callW (by rfl) (by first | rfl | (simp [ofL, kpB, kpR, ofB, isOwnB, isDead, inL, hget]; done)) (by rfl) (by rfl) cc ?_); clear cc; rintro _ _ ⟨p, a6, s6, rfl, hp, ha6, rfl⟩
          simp (config := { maxSteps := 1000000 }) (disch := omega) only [go_sem, Int.reduceToNat, ↓reduceIte, Nat.reduceLT, Nat.reduceEqDiff, Nat.reduceAdd, Nat.reduceMul, Nat.reduceSub, Nat.reduceBEq, Nat.reduceLeDiff, reduceCtorEq, Nat.reduceLT, ↓Br_true, ↓Br_false, bind, pure, sc81, sb81]
          have hl : p < lastI ⟨wi, hi⟩ w := by rw [last_h (by omega) (by omega)]; exact hp.2
          have cc := toneS_cv n cap f hB hcap hn a6 s6 (by omega); (first | refine callR (by rfl) (by rfl) (by rfl) cc ?_ | refine callM (by rfl) (by rfl) (by rfl) cc ?_ | refine callMo (by rfl) (by rfl) (by rfl) cc ?_ | refine callG (by rfl) (by rfl) (by rfl) cc ?_ | refine callW (by rfl) (by first | rfl | (simp [ofL, kpB, kpR, ofB, isOwnB, isDead, inL, hget]; done)) (by rfl) (by rfl) cc ?_); clear cc; rintro _ _ ⟨x, a7, s7, rfl, hx, ha7, rfl⟩
          simp (config := { maxSteps := 1000000 }) (disch := omega) only [go_sem, Int.reduceToNat, ↓reduceIte, Nat.reduceLT, Nat.reduceEqDiff, Nat.reduceAdd, Nat.reduceMul, Nat.reduceSub, Nat.reduceBEq, Nat.reduceLeDiff, reduceCtorEq, Nat.reduceLT, ↓Br_true, ↓Br_false, bind, pure, sc81, sb81]
          intro c2 hc2
          have hc2 : 1 ≤ c2 := hc2
          simp (config := { maxSteps := 1000000 }) (disch := omega) only [go_sem, Int.reduceToNat, ↓reduceIte, Nat.reduceLT, Nat.reduceEqDiff, Nat.reduceAdd, Nat.reduceMul, Nat.reduceSub, Nat.reduceBEq, Nat.reduceLeDiff, reduceCtorEq, Nat.reduceLT, ↓Br_true, ↓Br_false, bind, pure, sc81, sb81]
          exact ⟨(1, a7, s7, some (c2, shR (nthR [ [.int .i8 w, .int .i8 p, .flt .f32 x] ]) 0)), ⟨by simp only; omega, by simp only; omega, hc2, WinAt.one hw ⟨hp.1, hl⟩ (l0 w hw.1 hw.2) hx⟩, by simp only; omega, by refine Or.inr ⟨[0, 1, 2, 3, 6], by rfl, ?_⟩; simp [Cov, covE, covH, cb_dead, cb_lit, cb_rows, cb_cells, cd_lit, cd_rows, cd_cells, cd_dead, covRow, look, SV.known, SV.bd, bdL, locE, locV, locH, hget, SV.lin, inL, SV.ren, idx, bk_ren_lit, bk_ren_rows, bk_ren_cells, renL, e1, hcap, hc2, dwB, dwE, List.cons_append, List.nil_append] <;> omega⟩
        · by_cases c3' : w = 3
          · have d1 : decide (w = 1) = false := decide_eq_false c1'
            have d3 : decide (w = 3) = true := decide_eq_true c3'
            simp (config := { maxSteps := 1000000 }) (disch := omega) only [go_sem, Int.reduceToNat, ↓reduceIte, Nat.reduceLT, Nat.reduceEqDiff, Nat.reduceAdd, Nat.reduceMul, Nat.reduceSub, Nat.reduceBEq, Nat.reduceLeDiff, reduceCtorEq, Nat.reduceLT, ↓Br_true, ↓Br_false, bind, pure, sc81, sb81, d1, d3]
            have cc := pickS_cv n cap f hB hcap hn a5 s5 hi (by omega) (by omega); (first | refine callR (by rfl) (by rfl) (by rfl) cc ?_ | refine callM (by rfl) (by rfl) (by rfl) cc ?_ | refine callMo (by rfl) (by rfl) (by rfl) cc ?_ | refine callG (by rfl) (by rfl) (by rfl) cc ?_ | refine callW (by rfl) (by first | rfl | (simp [ofL, kpB, kpR, ofB, isOwnB, isDead, inL, hget]; done)) (by rfl) (by rfl) cc ?_); clear cc; rintro _ _ ⟨p, a6, s6, rfl, hp, ha6, rfl⟩
            simp (config := { maxSteps := 1000000 }) (disch := omega) only [go_sem, Int.reduceToNat, ↓reduceIte, Nat.reduceLT, Nat.reduceEqDiff, Nat.reduceAdd, Nat.reduceMul, Nat.reduceSub, Nat.reduceBEq, Nat.reduceLeDiff, reduceCtorEq, Nat.reduceLT, ↓Br_true, ↓Br_false, bind, pure, sc81, sb81]
            have hl : p < lastI ⟨wi, hi⟩ w := by rw [last_h (by omega) (by omega)]; exact hp.2
            have cc := toneS_cv n cap f hB hcap hn a6 s6 (by omega); (first | refine callR (by rfl) (by rfl) (by rfl) cc ?_ | refine callM (by rfl) (by rfl) (by rfl) cc ?_ | refine callMo (by rfl) (by rfl) (by rfl) cc ?_ | refine callG (by rfl) (by rfl) (by rfl) cc ?_ | refine callW (by rfl) (by first | rfl | (simp [ofL, kpB, kpR, ofB, isOwnB, isDead, inL, hget]; done)) (by rfl) (by rfl) cc ?_); clear cc; rintro _ _ ⟨x, a7, s7, rfl, hx, ha7, rfl⟩
            simp (config := { maxSteps := 1000000 }) (disch := omega) only [go_sem, Int.reduceToNat, ↓reduceIte, Nat.reduceLT, Nat.reduceEqDiff, Nat.reduceAdd, Nat.reduceMul, Nat.reduceSub, Nat.reduceBEq, Nat.reduceLeDiff, reduceCtorEq, Nat.reduceLT, ↓Br_true, ↓Br_false, bind, pure, sc81, sb81]
            intro c2 hc2
            have hc2 : 1 ≤ c2 := hc2
            simp (config := { maxSteps := 1000000 }) (disch := omega) only [go_sem, Int.reduceToNat, ↓reduceIte, Nat.reduceLT, Nat.reduceEqDiff, Nat.reduceAdd, Nat.reduceMul, Nat.reduceSub, Nat.reduceBEq, Nat.reduceLeDiff, reduceCtorEq, Nat.reduceLT, ↓Br_true, ↓Br_false, bind, pure, sc81, sb81]
            exact ⟨(1, a7, s7, some (c2, shR (nthR [ [.int .i8 w, .int .i8 p, .flt .f32 x] ]) 0)), ⟨by simp only; omega, by simp only; omega, hc2, WinAt.one hw ⟨hp.1, hl⟩ (l0 w hw.1 hw.2) hx⟩, by simp only; omega, by refine Or.inr ⟨[0, 1, 2, 3, 6], by rfl, ?_⟩; simp [Cov, covE, covH, cb_dead, cb_lit, cb_rows, cb_cells, cd_lit, cd_rows, cd_cells, cd_dead, covRow, look, SV.known, SV.bd, bdL, locE, locV, locH, hget, SV.lin, inL, SV.ren, idx, bk_ren_lit, bk_ren_rows, bk_ren_cells, renL, e1, hcap, hc2, dwB, dwE, List.cons_append, List.nil_append] <;> omega⟩
          · have d1 : decide (w = 1) = false := decide_eq_false c1'
            have d3 : decide (w = 3) = false := decide_eq_false c3'
            simp (config := { maxSteps := 1000000 }) (disch := omega) only [go_sem, Int.reduceToNat, ↓reduceIte, Nat.reduceLT, Nat.reduceEqDiff, Nat.reduceAdd, Nat.reduceMul, Nat.reduceSub, Nat.reduceBEq, Nat.reduceLeDiff, reduceCtorEq, Nat.reduceLT, ↓Br_true, ↓Br_false, bind, pure, sc81, sb81, d1, d3]
            have cc := pickS_cv n cap f hB hcap hn a5 s5 wi (by omega) (by omega); (first | refine callR (by rfl) (by rfl) (by rfl) cc ?_ | refine callM (by rfl) (by rfl) (by rfl) cc ?_ | refine callMo (by rfl) (by rfl) (by rfl) cc ?_ | refine callG (by rfl) (by rfl) (by rfl) cc ?_ | refine callW (by rfl) (by first | rfl | (simp [ofL, kpB, kpR, ofB, isOwnB, isDead, inL, hget]; done)) (by rfl) (by rfl) cc ?_); clear cc; rintro _ _ ⟨p, a6, s6, rfl, hp, ha6, rfl⟩
            simp (config := { maxSteps := 1000000 }) (disch := omega) only [go_sem, Int.reduceToNat, ↓reduceIte, Nat.reduceLT, Nat.reduceEqDiff, Nat.reduceAdd, Nat.reduceMul, Nat.reduceSub, Nat.reduceBEq, Nat.reduceLeDiff, reduceCtorEq, Nat.reduceLT, ↓Br_true, ↓Br_false, bind, pure, sc81, sb81]
            have hl : p < lastI ⟨wi, hi⟩ w := by rw [last_w (by omega) (by omega) hw]; exact hp.2
            have cc := toneS_cv n cap f hB hcap hn a6 s6 (by omega); (first | refine callR (by rfl) (by rfl) (by rfl) cc ?_ | refine callM (by rfl) (by rfl) (by rfl) cc ?_ | refine callMo (by rfl) (by rfl) (by rfl) cc ?_ | refine callG (by rfl) (by rfl) (by rfl) cc ?_ | refine callW (by rfl) (by first | rfl | (simp [ofL, kpB, kpR, ofB, isOwnB, isDead, inL, hget]; done)) (by rfl) (by rfl) cc ?_); clear cc; rintro _ _ ⟨x, a7, s7, rfl, hx, ha7, rfl⟩
            simp (config := { maxSteps := 1000000 }) (disch := omega) only [go_sem, Int.reduceToNat, ↓reduceIte, Nat.reduceLT, Nat.reduceEqDiff, Nat.reduceAdd, Nat.reduceMul, Nat.reduceSub, Nat.reduceBEq, Nat.reduceLeDiff, reduceCtorEq, Nat.reduceLT, ↓Br_true, ↓Br_false, bind, pure, sc81, sb81]
            intro c2 hc2
            have hc2 : 1 ≤ c2 := hc2
            simp (config := { maxSteps := 1000000 }) (disch := omega) only [go_sem, Int.reduceToNat, ↓reduceIte, Nat.reduceLT, Nat.reduceEqDiff, Nat.reduceAdd, Nat.reduceMul, Nat.reduceSub, Nat.reduceBEq, Nat.reduceLeDiff, reduceCtorEq, Nat.reduceLT, ↓Br_true, ↓Br_false, bind, pure, sc81, sb81]
            exact ⟨(1, a7, s7, some (c2, shR (nthR [ [.int .i8 w, .int .i8 p, .flt .f32 x] ]) 0)), ⟨by simp only; omega, by simp only; omega, hc2, WinAt.one hw ⟨hp.1, hl⟩ (l0 w hw.1 hw.2) hx⟩, by simp only; omega, by refine Or.inr ⟨[0, 1, 2, 3, 6], by rfl, ?_⟩; simp [Cov, covE, covH, cb_dead, cb_lit, cb_rows, cb_cells, cd_lit, cd_rows, cd_cells, cd_dead, covRow, look, SV.known, SV.bd, bdL, locE, locV, locH, hget, SV.lin, inL, SV.ren, idx, bk_ren_lit, bk_ren_rows, bk_ren_cells, renL, e1, hcap, hc2, dwB, dwE, List.cons_append, List.nil_append] <;> omega⟩
      · obtain ⟨hc1, hg⟩ : m ≤ c1 ∧ WinAt ⟨wi, hi⟩ m g1 := hI
        simp only [dwB, dwE, List.cons_append, List.nil_append]
        simp (config := { maxSteps := 1000000 }) (disch := omega) only [go_sem, Int.reduceToNat, ↓reduceIte, Nat.reduceLT, Nat.reduceEqDiff, Nat.reduceAdd, Nat.reduceMul, Nat.reduceSub, Nat.reduceBEq, Nat.reduceLeDiff, reduceCtorEq, Nat.reduceLT, ↓Br_true, ↓Br_false, bind, pure, sc81, sb81, hd]
        have cc := pickS_cv n cap f hB hcap hn a4 s4 4 (by omega) (by omega); (first | refine callR (by rfl) (by rfl) (by rfl) cc ?_ | refine callM (by rfl) (by rfl) (by rfl) cc ?_ | refine callMo (by rfl) (by rfl) (by rfl) cc ?_ | refine callG (by rfl) (by rfl) (by rfl) cc ?_ | refine callW (by rfl) (by first | rfl | (simp [ofL, kpB, kpR, ofB, isOwnB, isDead, inL, hget]; done)) (by rfl) (by rfl) cc ?_); clear cc; rintro _ _ ⟨w, a5, s5, rfl, hw, ha5, rfl⟩
        simp (config := { maxSteps := 1000000 }) (disch := omega) only [go_sem, Int.reduceToNat, ↓reduceIte, Nat.reduceLT, Nat.reduceEqDiff, Nat.reduceAdd, Nat.reduceMul, Nat.reduceSub, Nat.reduceBEq, Nat.reduceLeDiff, reduceCtorEq, Nat.reduceLT, ↓Br_true, ↓Br_false, bind, pure, sc81, sb81]
        by_cases c1' : w = 1
        · have d1 : decide (w = 1) = true := decide_eq_true c1'
          simp (config := { maxSteps := 1000000 }) (disch := omega) only [go_sem, Int.reduceToNat, ↓reduceIte, Nat.reduceLT, Nat.reduceEqDiff, Nat.reduceAdd, Nat.reduceMul, Nat.reduceSub, Nat.reduceBEq, Nat.reduceLeDiff, reduceCtorEq, Nat.reduceLT, ↓Br_true, ↓Br_false, bind, pure, sc81, sb81, d1]
          have cc := pickS_cv n cap f hB hcap hn a5 s5 hi (by omega) (by omega); (first | refine callR (by rfl) (by rfl) (by rfl) cc ?_ | refine callM (by rfl) (by rfl) (by rfl) cc ?_ | refine callMo (by rfl) (by rfl) (by rfl) cc ?_ | refine callG (by rfl) (by rfl) (by rfl) cc ?_ | refine callW (by rfl) (by first | rfl | (simp [ofL, kpB, kpR, ofB, isOwnB, isDead, inL, hget]; done)) (by rfl) (by rfl) cc ?_); clear cc; rintro _ _ ⟨p, a6, s6, rfl, hp, ha6, rfl⟩
          simp (config := { maxSteps := 1000000 }) (disch := omega) only [go_sem, Int.reduceToNat, ↓reduceIte, Nat.reduceLT, Nat.reduceEqDiff, Nat.reduceAdd, Nat.reduceMul, Nat.reduceSub, Nat.reduceBEq, Nat.reduceLeDiff, reduceCtorEq, Nat.reduceLT, ↓Br_true, ↓Br_false, bind, pure, sc81, sb81]
          have hl : p < lastI ⟨wi, hi⟩ w := by rw [last_h (by omega) (by omega)]; exact hp.2
          have cc := toneS_cv n cap f hB hcap hn a6 s6 (by omega); (first | refine callR (by rfl) (by rfl) (by rfl) cc ?_ | refine callM (by rfl) (by rfl) (by rfl) cc ?_ | refine callMo (by rfl) (by rfl) (by rfl) cc ?_ | refine callG (by rfl) (by rfl) (by rfl) cc ?_ | refine callW (by rfl) (by first | rfl | (simp [ofL, kpB, kpR, ofB, isOwnB, isDead, inL, hget]; done)) (by rfl) (by rfl) cc ?_); clear cc; rintro _ _ ⟨x, a7, s7, rfl, hx, ha7, rfl⟩
          simp (config := { maxSteps := 1000000 }) (disch := omega) only [go_sem, Int.reduceToNat, ↓reduceIte, Nat.reduceLT, Nat.reduceEqDiff, Nat.reduceAdd, Nat.reduceMul, Nat.reduceSub, Nat.reduceBEq, Nat.reduceLeDiff, reduceCtorEq, Nat.reduceLT, ↓Br_true, ↓Br_false, bind, pure, sc81, sb81]
          refine ⟨⟨Nat.le_refl _, by omega⟩, Or.inr (Or.inl ⟨⟨rfl, Nat.le_refl _⟩, fun c2 hc2 => ?_⟩)⟩
          have hc2 : m + 1 ≤ c2 := hc2
          simp (config := { maxSteps := 1000000 }) (disch := omega) only [go_sem, Int.reduceToNat, ↓reduceIte, Nat.reduceLT, Nat.reduceEqDiff, Nat.reduceAdd, Nat.reduceMul, Nat.reduceSub, Nat.reduceBEq, Nat.reduceLeDiff, reduceCtorEq, Nat.reduceLT, ↓Br_true, ↓Br_false, bind, pure, sc81, sb81]
          exact ⟨(m + 1, a7, s7, some (c2, catR g1 m (shR (nthR [ [.int .i8 w, .int .i8 p, .flt .f32 x] ]) 0))), ⟨by simp only; omega, by simp only; omega, hc2, hg.push hw ⟨hp.1, hl⟩ (l0 w hw.1 hw.2) hx⟩, by simp only; omega, by refine Or.inr ⟨[0, 1, 2, 3, 7], by rfl, ?_⟩; simp [Cov, covE, covH, cb_dead, cb_lit, cb_rows, cb_cells, cd_lit, cd_rows, cd_cells, cd_dead, covRow, look, SV.known, SV.bd, bdL, locE, locV, locH, hget, SV.lin, inL, SV.ren, idx, bk_ren_lit, bk_ren_rows, bk_ren_cells, renL, e1, hcap, hc2, dwB, dwE, List.cons_append, List.nil_append] <;> omega⟩
        · by_cases c3' : w = 3
          · have d1 : decide (w = 1) = false := decide_eq_false c1'
            have d3 : decide (w = 3) = true := decide_eq_true c3'
            simp (config := { maxSteps := 1000000 }) (disch := omega) only [go_sem, Int.reduceToNat, ↓reduceIte, Nat.reduceLT, Nat.reduceEqDiff, Nat.reduceAdd, Nat.reduceMul, Nat.reduceSub, Nat.reduceBEq, Nat.reduceLeDiff, reduceCtorEq, Nat.reduceLT, ↓Br_true, ↓Br_false, bind, pure, sc81, sb81, d1, d3]
            have cc := pickS_cv n cap f hB hcap hn a5 s5 hi (by omega) (by omega); (first | refine callR (by rfl) (by rfl) (by rfl) cc ?_ | refine callM (by rfl) (by rfl) (by rfl) cc ?_ | refine callMo (by rfl) (by rfl) (by rfl) cc ?_ | refine callG (by rfl) (by rfl) (by rfl) cc ?_ | refine callW (by rfl) (by first | rfl | (simp [ofL, kpB, kpR, ofB, isOwnB, isDead, inL, hget]; done)) (by rfl) (by rfl) cc ?_); clear cc; rintro _ _ ⟨p, a6, s6, rfl, hp, ha6, rfl⟩
            simp (config := { maxSteps := 1000000 }) (disch := omega) only [go_sem, Int.reduceToNat, ↓reduceIte, Nat.reduceLT, Nat.reduceEqDiff, Nat.reduceAdd, Nat.reduceMul, Nat.reduceSub, Nat.reduceBEq, Nat.reduceLeDiff, reduceCtorEq, Nat.reduceLT, ↓Br_true, ↓Br_false, bind, pure, sc81, sb81]
            have hl : p < lastI ⟨wi, hi⟩ w := by rw [last_h (by omega) (by omega)]; exact hp.2
            have cc := toneS_cv n cap f hB hcap hn a6 s6 (by omega); (first | refine callR (by rfl) (by rfl) (by rfl) cc ?_ | refine callM (by rfl) (by rfl) (by rfl) cc ?_ | refine callMo (by rfl) (by rfl) (by rfl) cc ?_ | refine callG (by rfl) (by rfl) (by rfl) cc ?_ | refine callW (by rfl) (by first | rfl | (simp [ofL, kpB, kpR, ofB, isOwnB, isDead, inL, hget]; done)) (by rfl) (by rfl) cc ?_); clear cc; rintro _ _ ⟨x, a7, s7, rfl, hx, ha7, rfl⟩
            simp (config := { maxSteps := 1000000 }) (disch := omega) only [go_sem, Int.reduceToNat, ↓reduceIte, Nat.reduceLT, Nat.reduceEqDiff, Nat.reduceAdd, Nat.reduceMul, Nat.reduceSub, Nat.reduceBEq, Nat.reduceLeDiff, reduceCtorEq, Nat.reduceLT, ↓Br_true, ↓Br_false, bind, pure, sc81, sb81]
            refine ⟨⟨Nat.le_refl _, by omega⟩, Or.inr (Or.inl ⟨⟨rfl, Nat.le_refl _⟩, fun c2 hc2 => ?_⟩)⟩
            have hc2 : m + 1 ≤ c2 := hc2
            simp (config := { maxSteps := 1000000 }) (disch := omega) only [go_sem, Int.reduceToNat, ↓reduceIte, Nat.reduceLT, Nat.reduceEqDiff, Nat.reduceAdd, Nat.reduceMul, Nat.reduceSub, Nat.reduceBEq, Nat.reduceLeDiff, reduceCtorEq, Nat.reduceLT, ↓Br_true, ↓Br_false, bind, pure, sc81, sb81]
            exact ⟨(m + 1, a7, s7, some (c2, catR g1 m (shR (nthR [ [.int .i8 w, .int .i8 p, .flt .f32 x] ]) 0))), ⟨by simp only; omega, by simp only; omega, hc2, hg.push hw ⟨hp.1, hl⟩ (l0 w hw.1 hw.2) hx⟩, by simp only; omega, by refine Or.inr ⟨[0, 1, 2, 3, 7], by rfl, ?_⟩; simp [Cov, covE, covH, cb_dead, cb_lit, cb_rows, cb_cells, cd_lit, cd_rows, cd_cells, cd_dead, covRow, look, SV.known, SV.bd, bdL, locE, locV, locH, hget, SV.lin, inL, SV.ren, idx, bk_ren_lit, bk_ren_rows, bk_ren_cells, renL, e1, hcap, hc2, dwB, dwE, List.cons_append, List.nil_append] <;> omega⟩
          · have d1 : decide (w = 1) = false := decide_eq_false c1'
            have d3 : decide (w = 3) = false := decide_eq_false c3'
            simp (config := { maxSteps := 1000000 }) (disch := omega) only [go_sem, Int.reduceToNat, ↓reduceIte, Nat.reduceLT, Nat.reduceEqDiff, Nat.reduceAdd, Nat.reduceMul, Nat.reduceSub, Nat.reduceBEq, Nat.reduceLeDiff, reduceCtorEq, Nat.reduceLT, ↓Br_true, ↓Br_false, bind, pure, sc81, sb81, d1, d3]
            have cc := pickS_cv n cap f hB hcap hn a5 s5 wi (by omega) (by omega); (first | refine callR (by rfl) (by rfl) (by rfl) cc ?_ | refine callM (by rfl) (by rfl) (by rfl) cc ?_ | refine callMo (by rfl) (by rfl) (by rfl) cc ?_ | refine callG (by rfl) (by rfl) (by rfl) cc ?_ | refine callW (by rfl) (by first | rfl | (simp [ofL, kpB, kpR, ofB, isOwnB, isDead, inL, hget]; done)) (by rfl) (by rfl) cc ?_); clear cc; rintro _ _ ⟨p, a6, s6, rfl, hp, ha6, rfl⟩
            simp (config := { maxSteps := 1000000 }) (disch := omega) only [go_sem, Int.reduceToNat, ↓reduceIte, Nat.reduceLT, Nat.reduceEqDiff, Nat.reduceAdd, Nat.reduceMul, Nat.reduceSub, Nat.reduceBEq, Nat.reduceLeDiff, reduceCtorEq, Nat.reduceLT, ↓Br_true, ↓Br_false, bind, pure, sc81, sb81]
            have hl : p < lastI ⟨wi, hi⟩ w := by rw [last_w (by omega) (by omega) hw]; exact hp.2
            have cc := toneS_cv n cap f hB hcap hn a6 s6 (by omega); (first | refine callR (by rfl) (by rfl) (by rfl) cc ?_ | refine callM (by rfl) (by rfl) (by rfl) cc ?_ | refine callMo (by rfl) (by rfl) (by rfl) cc ?_ | refine callG (by rfl) (by rfl) (by rfl) cc ?_ | refine callW (by rfl) (by first | rfl | (simp [ofL, kpB, kpR, ofB, isOwnB, isDead, inL, hget]; done)) (by rfl) (by rfl) cc ?_); clear cc; rintro _ _ ⟨x, a7, s7, rfl, hx, ha7, rfl⟩
            simp (config := { maxSteps := 1000000 }) (disch := omega) only [go_sem, Int.reduceToNat, ↓reduceIte, Nat.reduceLT, Nat.reduceEqDiff, Nat.reduceAdd, Nat.reduceMul, Nat.reduceSub, Nat.reduceBEq, Nat.reduceLeDiff, reduceCtorEq, Nat.reduceLT, ↓Br_true, ↓Br_false, bind, pure, sc81, sb81]
            refine ⟨⟨Nat.le_refl _, by omega⟩, Or.inr (Or.inl ⟨⟨rfl, Nat.le_refl _⟩, fun c2 hc2 => ?_⟩)⟩
            have hc2 : m + 1 ≤ c2 := hc2
            simp (config := { maxSteps := 1000000 }) (disch := omega) only [go_sem, Int.reduceToNat, ↓reduceIte, Nat.reduceLT, Nat.reduceEqDiff, Nat.reduceAdd, Nat.reduceMul, Nat.reduceSub, Nat.reduceBEq, Nat.reduceLeDiff, reduceCtorEq, Nat.reduceLT, ↓Br_true, ↓Br_false, bind, pure, sc81, sb81]
            exact ⟨(m + 1, a7, s7, some (c2, catR g1 m (shR (nthR [ [.int .i8 w, .int .i8 p, .flt .f32 x] ]) 0))), ⟨by simp only; omega, by simp only; omega, hc2, hg.push hw ⟨hp.1, hl⟩ (l0 w hw.1 hw.2) hx⟩, by simp only; omega, by refine Or.inr ⟨[0, 1, 2, 3, 7], by rfl, ?_⟩; simp [Cov, covE, covH, cb_dead, cb_lit, cb_rows, cb_cells, cd_lit, cd_rows, cd_cells, cd_dead, covRow, look, SV.known, SV.bd, bdL, locE, locV, locH, hget, SV.lin, inL, SV.ren, idx, bk_ren_lit, bk_ren_rows, bk_ren_cells, renL, e1, hcap, hc2, dwB, dwE, List.cons_append, List.nil_append] <;> omega⟩
    · have hd : decide (0 < b - (m : Int)) = false := decide_eq_false (by omega)
      rcases ow with _ | ⟨c1, g1⟩
      · simp only [dwB, dwE, List.cons_append, List.nil_append]
        simp (config := { maxSteps := 1000000 }) (disch := omega) only [go_sem, Int.reduceToNat, ↓reduceIte, Nat.reduceLT, Nat.reduceEqDiff, Nat.reduceAdd, Nat.reduceMul, Nat.reduceSub, Nat.reduceBEq, Nat.reduceLeDiff, reduceCtorEq, Nat.reduceLT, ↓Br_true, ↓Br_false, bind, pure, sc81, sb81, hd]
        exact ⟨wi, hi, _, _, by omega, .inl ⟨rfl, rfl⟩⟩
      · obtain ⟨hc1, hg⟩ : m ≤ c1 ∧ WinAt ⟨wi, hi⟩ m g1 := hI
        simp only [dwB, dwE, List.cons_append, List.nil_append]
        simp (config := { maxSteps := 1000000 }) (disch := omega) only [go_sem, Int.reduceToNat, ↓reduceIte, Nat.reduceLT, Nat.reduceEqDiff, Nat.reduceAdd, Nat.reduceMul, Nat.reduceSub, Nat.reduceBEq, Nat.reduceLeDiff, reduceCtorEq, Nat.reduceLT, ↓Br_true, ↓Br_false, bind, pure, sc81, sb81, hd]
        exact ⟨wi, hi, _, _, by omega, .inr ⟨m, c1, g1, by omega, hc1, hg, rfl, rfl⟩⟩
theorem P6Room_cv (n cap : Nat) (f : Nat → List FV) (hB : BytesAt n f) (hcap : n ≤ cap) (hn : n ≤ 4096) :
    CV Try.prog 24 [.slc 0 0 n cap] [.rows n cap 1 f false] (fun v h => ∃ (wi hi : Int) (m c : Nat) (g : Nat → List FV), (((1 ≤ wi ∧ wi ≤ 6) ∧ 1 ≤ hi ∧ hi ≤ 5) ∧ m ≤ 4 ∧ m ≤ c ∧ WinAt ⟨wi, hi⟩ m g) ∧ v = .agg [.f (.int .i8 wi), .f (.int .i8 hi), .slc 1 0 m c] ∧ h = [.rows n cap 1 f false, .rows m c 3 g false]) := by
  refine CV.room (h := [.rows n cap 1 f false]) (R := fun wi hi m c g => (((1 ≤ wi ∧ wi ≤ 6) ∧ 1 ≤ hi ∧ hi ≤ 5) ∧ m ≤ 4 ∧ m ≤ c ∧ WinAt ⟨wi, hi⟩ m g)) ?_
  refine cv_of_run 1000 sc24 sb24 6 [.cell 2 36] tabOk (by kernel_rfl) Try.func24 rfl (by kernel_rfl) Try.ntmps24 rfl (by simp) rfl (by simp [bdL, SV.bd]) ?_
  simp (config := { maxSteps := 1000000 }) (disch := omega) only [go_sem, Int.reduceToNat, ↓reduceIte, Nat.reduceLT, Nat.reduceEqDiff, Nat.reduceAdd, Nat.reduceMul, Nat.reduceSub, Nat.reduceBEq, Nat.reduceLeDiff, reduceCtorEq, Nat.reduceLT, ↓Br_true, ↓Br_false, bind, pure, sc24, sb24]
  have cc := fromS_cv n cap f hB hcap hn; (first | refine callR (by rfl) (by rfl) (by rfl) cc ?_ | refine callM (by rfl) (by rfl) (by rfl) cc ?_ | refine callMo (by rfl) (by rfl) (by rfl) cc ?_ | refine callG (by rfl) (by rfl) (by rfl) cc ?_ | refine callW (by rfl) (by first | rfl | (simp [ofL, kpB, kpR, ofB, isOwnB, isDead, inL, hget]; done)) (by rfl) (by rfl) cc ?_); clear cc; rintro _ _ ⟨rfl, rfl⟩
  simp (config := { maxSteps := 1000000 }) (disch := omega) only [go_sem, Int.reduceToNat, ↓reduceIte, Nat.reduceLT, Nat.reduceEqDiff, Nat.reduceAdd, Nat.reduceMul, Nat.reduceSub, Nat.reduceBEq, Nat.reduceLeDiff, reduceCtorEq, Nat.reduceLT, ↓Br_true, ↓Br_false, bind, pure, sc24, sb24]
  have cc := roomD_cv n cap f hB hcap hn 0 0 (by omega); (first | refine callR (by rfl) (by rfl) (by rfl) cc ?_ | refine callM (by rfl) (by rfl) (by rfl) cc ?_ | refine callMo (by rfl) (by rfl) (by rfl) cc ?_ | refine callG (by rfl) (by rfl) (by rfl) cc ?_ | refine callW (by rfl) (by first | rfl | (simp [ofL, kpB, kpR, ofB, isOwnB, isDead, inL, hget]; done)) (by rfl) (by rfl) cc ?_); clear cc; rintro _ _ ⟨wi, hi, a1, s1, hz, hor⟩
  simp (config := { maxSteps := 1000000 }) (disch := omega) only [go_sem, Int.reduceToNat, ↓reduceIte, Nat.reduceLT, Nat.reduceEqDiff, Nat.reduceAdd, Nat.reduceMul, Nat.reduceSub, Nat.reduceBEq, Nat.reduceLeDiff, reduceCtorEq, Nat.reduceLT, ↓Br_true, ↓Br_false, bind, pure, sc24, sb24]
  rcases hor with ⟨rfl, rfl⟩ | ⟨m, c, g, hm, hc, hg, rfl, rfl⟩
  · simp (config := { maxSteps := 1000000 }) (disch := omega) only [go_sem, Int.reduceToNat, ↓reduceIte, Nat.reduceLT, Nat.reduceEqDiff, Nat.reduceAdd, Nat.reduceMul, Nat.reduceSub, Nat.reduceBEq, Nat.reduceLeDiff, reduceCtorEq, Nat.reduceLT, ↓Br_true, ↓Br_false, bind, pure, sc24, sb24]
    exact ⟨wi, hi, .inl ⟨⟨hz, fun i hi => by omega⟩, rfl⟩⟩
  · simp (config := { maxSteps := 1000000 }) (disch := omega) only [go_sem, Int.reduceToNat, ↓reduceIte, Nat.reduceLT, Nat.reduceEqDiff, Nat.reduceAdd, Nat.reduceMul, Nat.reduceSub, Nat.reduceBEq, Nat.reduceLeDiff, reduceCtorEq, Nat.reduceLT, ↓Br_true, ↓Br_false, bind, pure, sc24, sb24]
    exact ⟨wi, hi, .inr ⟨m, c, g, ⟨hz, hm, hc, hg⟩, rfl, rfl⟩⟩
/-- Desks that are drawn. -/
def DskAt (r : Rom) (m : Nat) (g : Nat → List FV) : Prop := ∀ i, i < m → ∃ d : Dsk, g i = d.fv ∧ dskB r d = true ∧ d.sm
theorem DskAt.push {r : Rom} {m : Nat} {g : Nat → List FV} (h : DskAt r m g) {x y w : Int} (hx : 0 ≤ x ∧ x < r.wi) (hy : 0 ≤ y ∧ y < r.hi) (hw : 0 ≤ w ∧ w < 4) (hr : r.wi ≤ 10 ∧ r.hi ≤ 10) : DskAt r (m + 1) (catR g m (shR (nthR [ [.int .i8 x, .int .i8 y, .int .i8 w] ]) 0)) := fun i hi => by
  unfold catR
  by_cases q : i < m
  · rw [if_pos q]; exact h i q
  · obtain rfl : i = m := by omega
    rw [if_neg q]
    refine ⟨⟨x, y, w⟩, by simp [shR, nthR, Dsk.fv], ?_, ⟨⟨by simp only; omega, by simp only; omega⟩, by simp only; omega⟩⟩
    show (decide ((0 ≤ x ∧ x < r.wi) ∧ 0 ≤ y ∧ y < r.hi) && (decide (0 ≤ w) && decide (w ≤ 3))) = true
    simp only [Bool.and_eq_true, decide_eq_true_eq]
    omega
theorem dsk_of {r : Rom} {m : Nat} {g : Nat → List FV} (h : DskAt r m g) : ∃ ds : Nat → Dsk, (∀ i, i < m → g i = (ds i).fv) ∧ allD r ds m = true ∧ ∀ i, i < m → (ds i).sm := by
  have : ∀ i, ∃ d : Dsk, i < m → g i = d.fv ∧ dskB r d = true ∧ d.sm := fun i => by
    by_cases q : i < m
    · obtain ⟨u, hu⟩ := h i q; exact ⟨u, fun _ => hu⟩
    · exact ⟨⟨0, 0, 0⟩, fun c => absurd c q⟩
  refine ⟨fun i => (this i).choose, fun i hi => ((this i).choose_spec hi).1, ?_, fun i hi => ((this i).choose_spec hi).2.2⟩
  unfold allD
  rw [List.all_eq_true]
  intro i hi
  exact ((this i).choose_spec (by simpa using hi)).2.1
theorem P6Desks_cv (n cap : Nat) (f : Nat → List FV) (hB : BytesAt n f) (hcap : n ≤ cap) (hn : n ≤ 4096) (r : Rom) (n2 cap2 : Nat) (f2 : Nat → List FV) (hr : (1 ≤ r.wi ∧ r.wi ≤ 10) ∧ 1 ≤ r.hi ∧ r.hi ≤ 10) (hc2 : n2 ≤ cap2) :
    CV Try.prog 25 [.slc 0 0 n cap, .agg [.f (.int .i8 r.wi), .f (.int .i8 r.hi), .slc 1 0 n2 cap2]] [.rows n cap 1 f false, .rows n2 cap2 3 f2 false] (fun v h => ∃ (m c : Nat) (g : Nat → List FV), m ≤ 4 ∧ m ≤ c ∧ DskAt r m g ∧ v = .slc 2 0 m c ∧ h = [.rows n cap 1 f false, .rows n2 cap2 3 f2 false, .rows m c 3 g true]) := by
  refine cv_of_run 1000 sc25 sb25 42 [.tmp 4] tabOk (by kernel_rfl) Try.func25 rfl (by kernel_rfl) Try.ntmps25 rfl (by simp) rfl (by simp [bdL, SV.bd]) ?_
  simp (config := { maxSteps := 1000000 }) (disch := omega) only [go_sem, Int.reduceToNat, ↓reduceIte, Nat.reduceLT, Nat.reduceEqDiff, Nat.reduceAdd, Nat.reduceMul, Nat.reduceSub, Nat.reduceBEq, Nat.reduceLeDiff, reduceCtorEq, Nat.reduceLT, ↓Br_true, ↓Br_false, bind, pure, sc25, sb25]
  have cc := fromS_cv n cap f hB hcap hn; (first | refine callR (by rfl) (by rfl) (by rfl) cc ?_ | refine callM (by rfl) (by rfl) (by rfl) cc ?_ | refine callMo (by rfl) (by rfl) (by rfl) cc ?_ | refine callG (by rfl) (by rfl) (by rfl) cc ?_ | refine callW (by rfl) (by first | rfl | (simp [ofL, kpB, kpR, ofB, isOwnB, isDead, inL, hget]; done)) (by rfl) (by rfl) cc ?_); clear cc; rintro _ _ ⟨rfl, rfl⟩
  simp (config := { maxSteps := 1000000 }) (disch := omega) only [go_sem, Int.reduceToNat, ↓reduceIte, Nat.reduceLT, Nat.reduceEqDiff, Nat.reduceAdd, Nat.reduceMul, Nat.reduceSub, Nat.reduceBEq, Nat.reduceLeDiff, reduceCtorEq, Nat.reduceLT, ↓Br_true, ↓Br_false, bind, pure, sc25, sb25]
  have cc := pickS_cv n cap f hB hcap hn 0 0 5 (by omega) (by omega); (first | refine callR (by rfl) (by rfl) (by rfl) cc ?_ | refine callM (by rfl) (by rfl) (by rfl) cc ?_ | refine callMo (by rfl) (by rfl) (by rfl) cc ?_ | refine callG (by rfl) (by rfl) (by rfl) cc ?_ | refine callW (by rfl) (by first | rfl | (simp [ofL, kpB, kpR, ofB, isOwnB, isDead, inL, hget]; done)) (by rfl) (by rfl) cc ?_); clear cc; rintro _ _ ⟨b, a1, s1, rfl, hb, ha1, rfl⟩
  simp (config := { maxSteps := 1000000 }) (disch := omega) only [go_sem, Int.reduceToNat, ↓reduceIte, Nat.reduceLT, Nat.reduceEqDiff, Nat.reduceAdd, Nat.reduceMul, Nat.reduceSub, Nat.reduceBEq, Nat.reduceLeDiff, reduceCtorEq, Nat.reduceLT, ↓Br_true, ↓Br_false, bind, pure, sc25, sb25]
  refine ⟨(Nat × Nat × (Nat → List FV) × Int × Int), fun s => (s.1 : Int) ≤ b ∧ s.1 ≤ s.2.1 ∧ DskAt r s.1 s.2.2.1 ∧ (0 ≤ s.2.2.2.1 ∧ s.2.2.2.1 ≤ 2 + 6 * (s.1 : Int)), fun s => b.toNat - s.1, fun s => [(3, .ptr 2 0 0), (4, .f .nils), (5, .ptr 3 0 0), (6, .slc 4 0 s.1 s.2.1), (7, .f (.int .i64 (b - s.1)))], fun s => [.rows n cap 1 f false, .rows n2 cap2 3 f2 false, .lit [.f (.int .i8 r.wi), .f (.int .i8 r.hi), .slc 1 0 n2 cap2] true, .lit [.slc 0 0 n cap, .f (.int .i64 s.2.2.2.1), .f (.int .u64 s.2.2.2.2)] true, .rows s.1 s.2.1 3 s.2.2.1 true], (0, 0, nthR [], a1, s1), (by intro _; simp), ?_, (by (try refine Or.inl ?_); simp [Cov, covE, covH, cb_dead, cb_lit, cb_rows, cb_cells, cd_lit, cd_rows, cd_cells, cd_dead, covRow, look, SV.known, SV.bd, bdL, Int.sub_zero, hcap, hc2] <;> omega), ?_⟩
  · exact ⟨hb.1, by omega, fun i hi => by omega, by simp only; omega⟩
  · rintro ⟨m, c1, g, a2, s2⟩ ⟨hm, hc1, hg, ha2⟩
    simp only at hm hc1 hg ha2
    by_cases hlt : (m : Int) < b
    · have hd : decide (0 < b - (m : Int)) = true := decide_eq_true (by omega)
      simp (config := { maxSteps := 1000000 }) (disch := omega) only [go_sem, Int.reduceToNat, ↓reduceIte, Nat.reduceLT, Nat.reduceEqDiff, Nat.reduceAdd, Nat.reduceMul, Nat.reduceSub, Nat.reduceBEq, Nat.reduceLeDiff, reduceCtorEq, Nat.reduceLT, ↓Br_true, ↓Br_false, bind, pure, sc25, sb25, hd]
      have cc := pickS_cv n cap f hB hcap hn a2 s2 r.wi (by omega) (by omega); (first | refine callR (by rfl) (by rfl) (by rfl) cc ?_ | refine callM (by rfl) (by rfl) (by rfl) cc ?_ | refine callMo (by rfl) (by rfl) (by rfl) cc ?_ | refine callG (by rfl) (by rfl) (by rfl) cc ?_ | refine callW (by rfl) (by first | rfl | (simp [ofL, kpB, kpR, ofB, isOwnB, isDead, inL, hget]; done)) (by rfl) (by rfl) cc ?_); clear cc; rintro _ _ ⟨p1, a3, s3, rfl, h1, ha3, rfl⟩
      simp (config := { maxSteps := 1000000 }) (disch := omega) only [go_sem, Int.reduceToNat, ↓reduceIte, Nat.reduceLT, Nat.reduceEqDiff, Nat.reduceAdd, Nat.reduceMul, Nat.reduceSub, Nat.reduceBEq, Nat.reduceLeDiff, reduceCtorEq, Nat.reduceLT, ↓Br_true, ↓Br_false, bind, pure, sc25, sb25]
      have cc := pickS_cv n cap f hB hcap hn a3 s3 r.hi (by omega) (by omega); (first | refine callR (by rfl) (by rfl) (by rfl) cc ?_ | refine callM (by rfl) (by rfl) (by rfl) cc ?_ | refine callMo (by rfl) (by rfl) (by rfl) cc ?_ | refine callG (by rfl) (by rfl) (by rfl) cc ?_ | refine callW (by rfl) (by first | rfl | (simp [ofL, kpB, kpR, ofB, isOwnB, isDead, inL, hget]; done)) (by rfl) (by rfl) cc ?_); clear cc; rintro _ _ ⟨p2, a4, s4, rfl, h2, ha4, rfl⟩
      simp (config := { maxSteps := 1000000 }) (disch := omega) only [go_sem, Int.reduceToNat, ↓reduceIte, Nat.reduceLT, Nat.reduceEqDiff, Nat.reduceAdd, Nat.reduceMul, Nat.reduceSub, Nat.reduceBEq, Nat.reduceLeDiff, reduceCtorEq, Nat.reduceLT, ↓Br_true, ↓Br_false, bind, pure, sc25, sb25]
      refine ⟨by first | (unfold SOk; kernel_rfl) | (unfold SBOk; kernel_rfl), ?_⟩
      have cc := pickS_cv n cap f hB hcap hn a4 s4 4 (by omega) (by omega); (first | refine callR (by rfl) (by rfl) (by rfl) cc ?_ | refine callM (by rfl) (by rfl) (by rfl) cc ?_ | refine callMo (by rfl) (by rfl) (by rfl) cc ?_ | refine callG (by rfl) (by rfl) (by rfl) cc ?_ | refine callW (by rfl) (by first | rfl | (simp [ofL, kpB, kpR, ofB, isOwnB, isDead, inL, hget]; done)) (by rfl) (by rfl) cc ?_); clear cc; rintro _ _ ⟨p3, a5, s5, rfl, h3, ha5, rfl⟩
      simp (config := { maxSteps := 1000000 }) (disch := omega) only [go_sem, Int.reduceToNat, ↓reduceIte, Nat.reduceLT, Nat.reduceEqDiff, Nat.reduceAdd, Nat.reduceMul, Nat.reduceSub, Nat.reduceBEq, Nat.reduceLeDiff, reduceCtorEq, Nat.reduceLT, ↓Br_true, ↓Br_false, bind, pure, sc25, sb25]
      refine Or.inr ⟨⟨Nat.le_refl _, by omega⟩, ?_⟩
      refine ⟨Nat.le_refl _, fun c2 hc2' => ?_⟩
      have hc2' : m + 1 ≤ c2 := hc2'
      have e1 : b - (m : Int) - 1 = b - ((m + 1 : Nat) : Int) := by omega
      exact ⟨(m + 1, c2, catR g m (shR (nthR [ [.int .i8 p1, .int .i8 p2, .int .i8 p3] ]) 0), a5, s5), ⟨by simp only; omega, hc2', hg.push h1 h2 h3 ⟨hr.1.2, hr.2.2⟩, by simp only; omega⟩, by simp only; omega, by refine Or.inr ⟨[0, 1, 2, 3, 7], by rfl, ?_⟩; simp [Cov, covE, covH, cb_dead, cb_lit, cb_rows, cb_cells, cd_lit, cd_rows, cd_cells, cd_dead, covRow, look, SV.known, SV.bd, bdL, locE, locV, locH, hget, SV.lin, inL, SV.ren, idx, bk_ren_lit, bk_ren_rows, bk_ren_cells, renL, e1, hcap, hc2, hc2'] <;> omega⟩
    · have hd : decide (0 < b - (m : Int)) = false := decide_eq_false (by omega)
      simp (config := { maxSteps := 1000000 }) (disch := omega) only [go_sem, Int.reduceToNat, ↓reduceIte, Nat.reduceLT, Nat.reduceEqDiff, Nat.reduceAdd, Nat.reduceMul, Nat.reduceSub, Nat.reduceBEq, Nat.reduceLeDiff, reduceCtorEq, Nat.reduceLT, ↓Br_true, ↓Br_false, bind, pure, sc25, sb25, hd]
      exact ⟨m, c1, g, by omega, hc1, hg, rfl, rfl⟩
/-- People that are drawn. -/
def PsnAt (m : Nat) (g : Nat → List FV) : Prop := ∀ i, i < m → ∃ p : Psn, g i = p.fv ∧ vPsn p = true
theorem psn_ok {a b c : Int} (ha : 0 ≤ a ∧ a < 20) (hb : 0 ≤ b ∧ b < 40) (hc : 0 ≤ c ∧ c < 30) :
    DivOk (fofInt a) 1107296256 ∧ DivOk (fofInt b) 1107296256 ∧ DivOk (fofInt c) 1107296256 ∧ AddOk (fdiv (fofInt a) 1107296256) (fdiv (fofInt b) 1107296256) ∧
      vPsn ⟨fdiv (fofInt a) 1107296256, fadd (fdiv (fofInt a) 1107296256) (fdiv (fofInt b) 1107296256), fdiv (fofInt c) 1107296256⟩ = true := by
  obtain ⟨a1, a2, a3⟩ := quo_ok (n := a) (m := 32) (d := 1107296256) (T := key 1065353216) ha.1 (by omega) (by omega) (by decide) (by decide) (by decide) (by decide)
  obtain ⟨b1, b2, b3⟩ := quo_ok (n := b) (m := 64) (d := 1107296256) (T := key 1073741824) hb.1 (by omega) (by omega) (by decide) (by decide) (by decide) (by decide)
  obtain ⟨c1, c2, c3⟩ := quo_ok (n := c) (m := 32) (d := 1107296256) (T := key 1065353216) hc.1 (by omega) (by omega) (by decide) (by decide) (by decide) (by decide)
  have t1 : P0 1065353216 := ⟨by decide, by decide⟩
  have t2 : P0 1073741824 := ⟨by decide, by decide⟩
  obtain ⟨s1, s2, s3, s4⟩ := add_P0 a2.p b2.p
  have k := add_mono a2.p b2.p t1 t2 a3 b3
  have e : key (fadd 1065353216 1073741824) = key 1077936128 := by decide
  rw [e] at k
  have sF : F0 (fadd (fdiv (fofInt a) 1107296256) (fdiv (fofInt b) 1107296256)) := F0_of_le s2 (by decide) k
  have pl : ∀ x, F0 x → key x ≤ key 1077936128 → isPlain x = true := fun x hx hk => by
    have z : key 3380609024 ≤ 0 := by decide
    have p := hx.2
    unfold isPlain btw
    rw [fle_of (by decide) hx.1.nn (by omega), fle_of hx.1.nn (by decide) (Int.le_trans hk (by decide))]; rfl
  refine ⟨a1, b1, c1, s1, ?_⟩
  unfold vPsn
  rw [pl _ a2 (Int.le_trans a3 (by decide)), pl _ sF k, pl _ c2 (Int.le_trans c3 (by decide)), fle_of a2.1.nn sF.1.nn s3]; rfl
theorem PsnAt.push {m : Nat} {g : Nat → List FV} (h : PsnAt m g) {a b c : Nat} (hp : vPsn ⟨a, b, c⟩ = true) : PsnAt (m + 1) (catR g m (shR (nthR [ [.flt .f32 a, .flt .f32 b, .flt .f32 c] ]) 0)) := fun i hi => by
  unfold catR
  by_cases q : i < m
  · rw [if_pos q]; exact h i q
  · obtain rfl : i = m := by omega
    rw [if_neg q]
    exact ⟨⟨a, b, c⟩, by simp [shR, nthR, Psn.fv], hp⟩
theorem psn_of {m : Nat} {g : Nat → List FV} (h : PsnAt m g) : ∃ ps : Nat → Psn, (∀ i, i < m → g i = (ps i).fv) ∧ allPs ps m = true := by
  have : ∀ i, ∃ p : Psn, i < m → g i = p.fv ∧ vPsn p = true := fun i => by
    by_cases q : i < m
    · obtain ⟨u, hu⟩ := h i q; exact ⟨u, fun _ => hu⟩
    · exact ⟨⟨0, 0, 0⟩, fun c => absurd c q⟩
  refine ⟨fun i => (this i).choose, fun i hi => ((this i).choose_spec hi).1, ?_⟩
  unfold allPs
  rw [List.all_eq_true]
  intro i hi
  exact ((this i).choose_spec (by simpa using hi)).2
theorem P6People_cv (n cap : Nat) (f : Nat → List FV) (hB : BytesAt n f) (hcap : n ≤ cap) (hn : n ≤ 4096) :
    CV Try.prog 26 [.slc 0 0 n cap] [.rows n cap 1 f false] (fun v h => ∃ (m c : Nat) (g : Nat → List FV), m ≤ 4 ∧ m ≤ c ∧ PsnAt m g ∧ v = .slc 1 0 m c ∧ h = [.rows n cap 1 f false, .rows m c 3 g true]) := by
  refine cv_of_run 1000 sc26 sb26 40 [.tmp 2] tabOk (by kernel_rfl) Try.func26 rfl (by kernel_rfl) Try.ntmps26 rfl (by simp) rfl (by simp [bdL, SV.bd]) ?_
  simp (config := { maxSteps := 1000000 }) (disch := omega) only [go_sem, Int.reduceToNat, ↓reduceIte, Nat.reduceLT, Nat.reduceEqDiff, Nat.reduceAdd, Nat.reduceMul, Nat.reduceSub, Nat.reduceBEq, Nat.reduceLeDiff, reduceCtorEq, Nat.reduceLT, ↓Br_true, ↓Br_false, bind, pure, sc26, sb26]
  have cc := fromS_cv n cap f hB hcap hn; (first | refine callR (by rfl) (by rfl) (by rfl) cc ?_ | refine callM (by rfl) (by rfl) (by rfl) cc ?_ | refine callMo (by rfl) (by rfl) (by rfl) cc ?_ | refine callG (by rfl) (by rfl) (by rfl) cc ?_ | refine callW (by rfl) (by first | rfl | (simp [ofL, kpB, kpR, ofB, isOwnB, isDead, inL, hget]; done)) (by rfl) (by rfl) cc ?_); clear cc; rintro _ _ ⟨rfl, rfl⟩
  simp (config := { maxSteps := 1000000 }) (disch := omega) only [go_sem, Int.reduceToNat, ↓reduceIte, Nat.reduceLT, Nat.reduceEqDiff, Nat.reduceAdd, Nat.reduceMul, Nat.reduceSub, Nat.reduceBEq, Nat.reduceLeDiff, reduceCtorEq, Nat.reduceLT, ↓Br_true, ↓Br_false, bind, pure, sc26, sb26]
  have cc := pickS_cv n cap f hB hcap hn 0 0 5 (by omega) (by omega); (first | refine callR (by rfl) (by rfl) (by rfl) cc ?_ | refine callM (by rfl) (by rfl) (by rfl) cc ?_ | refine callMo (by rfl) (by rfl) (by rfl) cc ?_ | refine callG (by rfl) (by rfl) (by rfl) cc ?_ | refine callW (by rfl) (by first | rfl | (simp [ofL, kpB, kpR, ofB, isOwnB, isDead, inL, hget]; done)) (by rfl) (by rfl) cc ?_); clear cc; rintro _ _ ⟨b, a1, s1, rfl, hb, ha1, rfl⟩
  simp (config := { maxSteps := 1000000 }) (disch := omega) only [go_sem, Int.reduceToNat, ↓reduceIte, Nat.reduceLT, Nat.reduceEqDiff, Nat.reduceAdd, Nat.reduceMul, Nat.reduceSub, Nat.reduceBEq, Nat.reduceLeDiff, reduceCtorEq, Nat.reduceLT, ↓Br_true, ↓Br_false, bind, pure, sc26, sb26]
  refine ⟨(Nat × Nat × (Nat → List FV) × Int × Int), fun s => (s.1 : Int) ≤ b ∧ s.1 ≤ s.2.1 ∧ PsnAt s.1 s.2.2.1 ∧ (0 ≤ s.2.2.2.1 ∧ s.2.2.2.1 ≤ 2 + 6 * (s.1 : Int)), fun s => b.toNat - s.1, fun s => [(2, .f .nils), (3, .ptr 1 0 0), (4, .slc 2 0 s.1 s.2.1), (5, .f (.int .i64 (b - s.1)))], fun s => [.rows n cap 1 f false, .lit [.slc 0 0 n cap, .f (.int .i64 s.2.2.2.1), .f (.int .u64 s.2.2.2.2)] true, .rows s.1 s.2.1 3 s.2.2.1 true], (0, 0, nthR [], a1, s1), (by intro _; simp), ?_, (by (try refine Or.inl ?_); simp [Cov, covE, covH, cb_dead, cb_lit, cb_rows, cb_cells, cd_lit, cd_rows, cd_cells, cd_dead, covRow, look, SV.known, SV.bd, bdL, Int.sub_zero, hcap] <;> omega), ?_⟩
  · exact ⟨hb.1, by omega, fun i hi => by omega, by simp only; omega⟩
  · rintro ⟨m, c1, g, a2, s2⟩ ⟨hm, hc1, hg, ha2⟩
    simp only at hm hc1 hg ha2
    by_cases hlt : (m : Int) < b
    · have hd : decide (0 < b - (m : Int)) = true := decide_eq_true (by omega)
      simp (config := { maxSteps := 1000000 }) (disch := omega) only [go_sem, Int.reduceToNat, ↓reduceIte, Nat.reduceLT, Nat.reduceEqDiff, Nat.reduceAdd, Nat.reduceMul, Nat.reduceSub, Nat.reduceBEq, Nat.reduceLeDiff, reduceCtorEq, Nat.reduceLT, ↓Br_true, ↓Br_false, bind, pure, sc26, sb26, hd]
      have cc := pickS_cv n cap f hB hcap hn a2 s2 20 (by omega) (by omega); (first | refine callR (by rfl) (by rfl) (by rfl) cc ?_ | refine callM (by rfl) (by rfl) (by rfl) cc ?_ | refine callMo (by rfl) (by rfl) (by rfl) cc ?_ | refine callG (by rfl) (by rfl) (by rfl) cc ?_ | refine callW (by rfl) (by first | rfl | (simp [ofL, kpB, kpR, ofB, isOwnB, isDead, inL, hget]; done)) (by rfl) (by rfl) cc ?_); clear cc; rintro _ _ ⟨p1, a3, s3, rfl, h1, ha3, rfl⟩
      simp (config := { maxSteps := 1000000 }) (disch := omega) only [go_sem, Int.reduceToNat, ↓reduceIte, Nat.reduceLT, Nat.reduceEqDiff, Nat.reduceAdd, Nat.reduceMul, Nat.reduceSub, Nat.reduceBEq, Nat.reduceLeDiff, reduceCtorEq, Nat.reduceLT, ↓Br_true, ↓Br_false, bind, pure, sc26, sb26]
      refine ⟨(psn_ok h1 (b := 0) (c := 0) (by omega) (by omega)).1, ?_⟩
      have cc := pickS_cv n cap f hB hcap hn a3 s3 40 (by omega) (by omega); (first | refine callR (by rfl) (by rfl) (by rfl) cc ?_ | refine callM (by rfl) (by rfl) (by rfl) cc ?_ | refine callMo (by rfl) (by rfl) (by rfl) cc ?_ | refine callG (by rfl) (by rfl) (by rfl) cc ?_ | refine callW (by rfl) (by first | rfl | (simp [ofL, kpB, kpR, ofB, isOwnB, isDead, inL, hget]; done)) (by rfl) (by rfl) cc ?_); clear cc; rintro _ _ ⟨p2, a4, s4, rfl, h2, ha4, rfl⟩
      simp (config := { maxSteps := 1000000 }) (disch := omega) only [go_sem, Int.reduceToNat, ↓reduceIte, Nat.reduceLT, Nat.reduceEqDiff, Nat.reduceAdd, Nat.reduceMul, Nat.reduceSub, Nat.reduceBEq, Nat.reduceLeDiff, reduceCtorEq, Nat.reduceLT, ↓Br_true, ↓Br_false, bind, pure, sc26, sb26]
      refine ⟨(psn_ok h1 h2 (c := 0) (by omega)).2.1, (psn_ok h1 h2 (c := 0) (by omega)).2.2.2.1, ?_⟩
      have cc := pickS_cv n cap f hB hcap hn a4 s4 30 (by omega) (by omega); (first | refine callR (by rfl) (by rfl) (by rfl) cc ?_ | refine callM (by rfl) (by rfl) (by rfl) cc ?_ | refine callMo (by rfl) (by rfl) (by rfl) cc ?_ | refine callG (by rfl) (by rfl) (by rfl) cc ?_ | refine callW (by rfl) (by first | rfl | (simp [ofL, kpB, kpR, ofB, isOwnB, isDead, inL, hget]; done)) (by rfl) (by rfl) cc ?_); clear cc; rintro _ _ ⟨p3, a5, s5, rfl, h3, ha5, rfl⟩
      simp (config := { maxSteps := 1000000 }) (disch := omega) only [go_sem, Int.reduceToNat, ↓reduceIte, Nat.reduceLT, Nat.reduceEqDiff, Nat.reduceAdd, Nat.reduceMul, Nat.reduceSub, Nat.reduceBEq, Nat.reduceLeDiff, reduceCtorEq, Nat.reduceLT, ↓Br_true, ↓Br_false, bind, pure, sc26, sb26]
      have q := psn_ok h1 h2 h3
      refine ⟨q.2.2.1, ?_⟩
      refine ⟨⟨Nat.le_refl _, by omega⟩, Or.inr (Or.inl ⟨⟨rfl, Nat.le_refl _⟩, fun c2 hc2' => ?_⟩)⟩
      have hc2' : m + 1 ≤ c2 := hc2'
      simp (config := { maxSteps := 1000000 }) (disch := omega) only [go_sem, Int.reduceToNat, ↓reduceIte, Nat.reduceLT, Nat.reduceEqDiff, Nat.reduceAdd, Nat.reduceMul, Nat.reduceSub, Nat.reduceBEq, Nat.reduceLeDiff, reduceCtorEq, Nat.reduceLT, ↓Br_true, ↓Br_false, bind, pure, sc26, sb26]
      have e1 : b - (m : Int) - 1 = b - ((m + 1 : Nat) : Int) := by omega
      exact ⟨(m + 1, c2, catR g m (shR (nthR [ [.flt .f32 (fdiv (fofInt p1) 1107296256), .flt .f32 (fadd (fdiv (fofInt p1) 1107296256) (fdiv (fofInt p2) 1107296256)), .flt .f32 (fdiv (fofInt p3) 1107296256)] ]) 0), a5, s5), ⟨by simp only; omega, hc2', hg.push q.2.2.2.2, by simp only; omega⟩, by simp only; omega, by refine Or.inr ⟨[0, 1, 5], by rfl, ?_⟩; simp [Cov, covE, covH, cb_dead, cb_lit, cb_rows, cb_cells, cd_lit, cd_rows, cd_cells, cd_dead, covRow, look, SV.known, SV.bd, bdL, locE, locV, locH, hget, SV.lin, inL, SV.ren, idx, bk_ren_lit, bk_ren_rows, bk_ren_cells, renL, e1, hcap, hc2'] <;> omega⟩
    · have hd : decide (0 < b - (m : Int)) = false := decide_eq_false (by omega)
      simp (config := { maxSteps := 1000000 }) (disch := omega) only [go_sem, Int.reduceToNat, ↓reduceIte, Nat.reduceLT, Nat.reduceEqDiff, Nat.reduceAdd, Nat.reduceMul, Nat.reduceSub, Nat.reduceBEq, Nat.reduceLeDiff, reduceCtorEq, Nat.reduceLT, ↓Br_true, ↓Br_false, bind, pure, sc26, sb26, hd]
      exact ⟨m, c1, g, by omega, hc1, hg, rfl, rfl⟩
theorem P6Tone_cv (n cap : Nat) (f : Nat → List FV) (hB : BytesAt n f) (hcap : n ≤ cap) (hn : n ≤ 4096) :
    CV Try.prog 27 [.slc 0 0 n cap] [.rows n cap 1 f false] (fun v h => ∃ x : Nat, Prt x ∧ v = .f (.flt .f32 x) ∧ h = [.rows n cap 1 f false]) := by
  refine cv_of_run 1000 sc27 sb27 6 [.tmp 2] tabOk (by kernel_rfl) Try.func27 rfl (by kernel_rfl) Try.ntmps27 rfl (by simp) rfl (by simp [bdL, SV.bd]) ?_
  simp (config := { maxSteps := 1000000 }) (disch := omega) only [go_sem, Int.reduceToNat, ↓reduceIte, Nat.reduceLT, Nat.reduceEqDiff, Nat.reduceAdd, Nat.reduceMul, Nat.reduceSub, Nat.reduceBEq, Nat.reduceLeDiff, reduceCtorEq, Nat.reduceLT, ↓Br_true, ↓Br_false, bind, pure, sc27, sb27]
  have cc := fromS_cv n cap f hB hcap hn; (first | refine callR (by rfl) (by rfl) (by rfl) cc ?_ | refine callM (by rfl) (by rfl) (by rfl) cc ?_ | refine callMo (by rfl) (by rfl) (by rfl) cc ?_ | refine callG (by rfl) (by rfl) (by rfl) cc ?_ | refine callW (by rfl) (by first | rfl | (simp [ofL, kpB, kpR, ofB, isOwnB, isDead, inL, hget]; done)) (by rfl) (by rfl) cc ?_); clear cc; rintro _ _ ⟨rfl, rfl⟩
  simp (config := { maxSteps := 1000000 }) (disch := omega) only [go_sem, Int.reduceToNat, ↓reduceIte, Nat.reduceLT, Nat.reduceEqDiff, Nat.reduceAdd, Nat.reduceMul, Nat.reduceSub, Nat.reduceBEq, Nat.reduceLeDiff, reduceCtorEq, Nat.reduceLT, ↓Br_true, ↓Br_false, bind, pure, sc27, sb27]
  have cc := toneS_cv n cap f hB hcap hn 0 0 (by omega); (first | refine callR (by rfl) (by rfl) (by rfl) cc ?_ | refine callM (by rfl) (by rfl) (by rfl) cc ?_ | refine callMo (by rfl) (by rfl) (by rfl) cc ?_ | refine callG (by rfl) (by rfl) (by rfl) cc ?_ | refine callW (by rfl) (by first | rfl | (simp [ofL, kpB, kpR, ofB, isOwnB, isDead, inL, hget]; done)) (by rfl) (by rfl) cc ?_); clear cc; rintro _ _ ⟨x, a1, s1, rfl, hx, ha1, rfl⟩
  simp (config := { maxSteps := 1000000 }) (disch := omega) only [go_sem, Int.reduceToNat, ↓reduceIte, Nat.reduceLT, Nat.reduceEqDiff, Nat.reduceAdd, Nat.reduceMul, Nat.reduceSub, Nat.reduceBEq, Nat.reduceLeDiff, reduceCtorEq, Nat.reduceLT, ↓Br_true, ↓Br_false, bind, pure, sc27, sb27]
  exact ⟨x, hx, rfl⟩
end Go.Proofs.Ytdncopphjamilaa.Vx
