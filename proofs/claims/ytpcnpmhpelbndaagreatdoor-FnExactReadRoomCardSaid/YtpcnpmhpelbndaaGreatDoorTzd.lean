/- The law on the room that is read. -/
import Derived.Test.YtpcnpmhpelbndaaGreatDoorTzc
import Derived.Test.YtpcnpmhpelbndaaGreatDoorRe
namespace Go.Proofs.YtpcnpmhpelbndaaGreatDoor.Vx
open Go Go.RowKit Fl
set_option maxRecDepth 100000
set_option maxHeartbeats 4000000
set_option linter.unusedSimpArgs false
set_option linter.unusedVariables false
theorem lenfv {us : Nat → Win} {g : Nat → List FV} {n : Nat} (h : ∀ i, i < n → g i = (us i).fv) : ∀ i, i < n → (g i).length = 3 := fun i hi => by rw [h i hi]; rfl
/-- The answer to a room's text is that room. -/
theorem Fine.res {t : List UInt8} {r : Rom} {us : Nat → Win} {n : Nat} (q : Fine t r us n) {v : SV} {h : List Blk} (H : RRes t v h) : RoomRes r us n v h := by
  rcases H with ⟨r', us', n', q', H⟩ | ⟨hno, _⟩
  · obtain ⟨rfl, rfl, hu⟩ := q.uniq q'
    rcases H with ⟨h0, hv, hh⟩ | ⟨cap, g, h1, h2, h3, hv, hh⟩
    · exact .inl ⟨h0, hv, hh⟩
    · exact .inr ⟨cap, g, h1, h2, fun i hi => by rw [h3 i hi, hu i hi], hv, hh⟩
  · exact absurd q (hno r us n)
theorem RoomRes.pos {r : Rom} {us : Nat → Win} {n : Nat} (h0 : n ≠ 0) {v : SV} {h : List Blk} (H : RoomRes r us n v h) : ∃ cap g, n ≤ cap ∧ (∀ i, i < n → g i = (us i).fv) ∧ v = .tup [romV r n cap, .f (.int .i64 0)] ∧ h = [.rows n cap 3 g true] := by
  rcases H with ⟨e, _⟩ | ⟨cap, g, h1, h2, h3, hv, hh⟩
  · exact absurd e h0
  · exact ⟨cap, g, h2, h3, hv, hh⟩
theorem RoomRes.zero {r : Rom} {us : Nat → Win} {v : SV} {h : List Blk} (H : RoomRes r us 0 v h) : v = .tup [.agg [.f (.int .i8 r.wi), .f (.int .i8 r.hi), .f .nils], .f (.int .i64 0)] ∧ h = [] := by
  rcases H with ⟨_, hv, hh⟩ | ⟨cap, g, h1, _⟩
  · exact ⟨hv, hh⟩
  · omega
theorem RRes.none {t : List UInt8} (hn : ∀ r us n, ¬ Fine t r us n) {v : SV} {h : List Blk} (H : RRes t v h) : v = badV ∧ h = [] := by
  rcases H with ⟨r', us', n', q', H⟩ | ⟨hno, hv, hh⟩
  · exact absurd q' (hn _ _ _)
  · exact ⟨hv, hh⟩
theorem FnExactReadRoom_cv (t : List UInt8) :
    CV Tryz.prog 3 [.f (.str (bs t))] [] (fun v h => v = .f (.bool true) ∧ h = []) := by
  by_cases ht : t.length ≤ 1048576
  · have hl : decide ((1048576 : Int) < t.length) = false := decide_eq_false (by omega)
    have hq1 : decide ((1 : Int) < 0) = false := by decide
    have cs : CV Tryz.prog 6 [.f (.str (bs t))] [] (fun v h => RRes t v h) := (sReadRoom_cv t ht).mono fun v h H => RRes.of_spec H
    have ci := ReadRoom_cv t ht
    by_cases hf : ∃ r us n, Fine t r us n
    · obtain ⟨r, us, n, q⟩ := hf
      have cs := cs.mono fun v h H => q.res H
      have ci := ci.mono fun v h H => q.res H
      by_cases h0 : n = 0
      · subst h0
        have cs := cs.mono fun v h H => H.zero
        have ci := ci.mono fun v h H => H.zero
        refine cv_of_run 1000 sc3 sb3 66 [.tmp 2] tabOk (by kernel_rfl) Tryz.func3 rfl (by kernel_rfl) Tryz.ntmps3 rfl (by simp) rfl (by simp [bdL, SV.bd]) ?_
        simp (config := { maxSteps := 1000000 }) (disch := omega) only [go_sem, Int.reduceToNat, ↓reduceIte, Nat.reduceLT, Nat.reduceEqDiff, Nat.reduceAdd, Nat.reduceMul, Nat.reduceSub, Nat.reduceBEq, Nat.reduceLeDiff, reduceCtorEq, Nat.reduceLT, ↓Br_true, ↓Br_false, bind, pure, sc3, sb3, hl]
        (have cc := cs; (first | ((first | refine callR (by rfl) (by rfl) (by rfl) cc ?_ | refine callM (by rfl) (by rfl) (by rfl) cc ?_ | refine callMo (by rfl) (by rfl) (by rfl) cc ?_); clear cc; rintro _ _ ⟨rfl, rfl⟩) | (refine callE (by rfl) cc (by rfl) ?_; clear cc)))
        simp (config := { maxSteps := 1000000 }) (disch := omega) only [go_sem, Int.reduceToNat, ↓reduceIte, Nat.reduceLT, Nat.reduceEqDiff, Nat.reduceAdd, Nat.reduceMul, Nat.reduceSub, Nat.reduceBEq, Nat.reduceLeDiff, reduceCtorEq, Nat.reduceLT, ↓Br_true, ↓Br_false, bind, pure, sc3, sb3]
        (have cc := ci; (first | ((first | refine callR (by rfl) (by rfl) (by rfl) cc ?_ | refine callM (by rfl) (by rfl) (by rfl) cc ?_ | refine callMo (by rfl) (by rfl) (by rfl) cc ?_); clear cc; rintro _ _ ⟨rfl, rfl⟩) | (refine callE (by rfl) cc (by rfl) ?_; clear cc)))
        simp (config := { maxSteps := 1000000 }) (disch := omega) only [go_sem, Int.reduceToNat, ↓reduceIte, Nat.reduceLT, Nat.reduceEqDiff, Nat.reduceAdd, Nat.reduceMul, Nat.reduceSub, Nat.reduceBEq, Nat.reduceLeDiff, reduceCtorEq, Nat.reduceLT, ↓Br_true, ↓Br_false, bind, pure, sc3, sb3]
        (have cc := eqRoomNN_cv r.wi r.hi; (first | ((first | refine callR (by rfl) (by rfl) (by rfl) cc ?_ | refine callM (by rfl) (by rfl) (by rfl) cc ?_ | refine callMo (by rfl) (by rfl) (by rfl) cc ?_); clear cc; rintro _ _ ⟨rfl, rfl⟩) | (refine callE (by rfl) cc (by rfl) ?_; clear cc)))
        simp (config := { maxSteps := 1000000 }) (disch := omega) only [go_sem, Int.reduceToNat, ↓reduceIte, Nat.reduceLT, Nat.reduceEqDiff, Nat.reduceAdd, Nat.reduceMul, Nat.reduceSub, Nat.reduceBEq, Nat.reduceLeDiff, reduceCtorEq, Nat.reduceLT, ↓Br_true, ↓Br_false, bind, pure, sc3, sb3]
        (have cc := markRoomN_cv r.wi r.hi; (first | ((first | refine callR (by rfl) (by rfl) (by rfl) cc ?_ | refine callM (by rfl) (by rfl) (by rfl) cc ?_ | refine callMo (by rfl) (by rfl) (by rfl) cc ?_); clear cc; rintro _ _ ⟨rfl, rfl⟩) | (refine callE (by rfl) cc (by rfl) ?_; clear cc)))
        simp (config := { maxSteps := 1000000 }) (disch := omega) only [go_sem, Int.reduceToNat, ↓reduceIte, Nat.reduceLT, Nat.reduceEqDiff, Nat.reduceAdd, Nat.reduceMul, Nat.reduceSub, Nat.reduceBEq, Nat.reduceLeDiff, reduceCtorEq, Nat.reduceLT, ↓Br_true, ↓Br_false, bind, pure, sc3, sb3]
        (have cc := heldRoomN_cv r.wi r.hi; (first | ((first | refine callR (by rfl) (by rfl) (by rfl) cc ?_ | refine callM (by rfl) (by rfl) (by rfl) cc ?_ | refine callMo (by rfl) (by rfl) (by rfl) cc ?_); clear cc; rintro _ _ ⟨rfl, rfl⟩) | (refine callE (by rfl) cc (by rfl) ?_; clear cc)))
        simp (config := { maxSteps := 1000000 }) (disch := omega) only [go_sem, Int.reduceToNat, ↓reduceIte, Nat.reduceLT, Nat.reduceEqDiff, Nat.reduceAdd, Nat.reduceMul, Nat.reduceSub, Nat.reduceBEq, Nat.reduceLeDiff, reduceCtorEq, Nat.reduceLT, ↓Br_true, ↓Br_false, bind, pure, sc3, sb3, hq1]
        (have cc := ci; (first | ((first | refine callR (by rfl) (by rfl) (by rfl) cc ?_ | refine callM (by rfl) (by rfl) (by rfl) cc ?_ | refine callMo (by rfl) (by rfl) (by rfl) cc ?_); clear cc; rintro _ _ ⟨rfl, rfl⟩) | (refine callE (by rfl) cc (by rfl) ?_; clear cc)))
        simp (config := { maxSteps := 1000000 }) (disch := omega) only [go_sem, Int.reduceToNat, ↓reduceIte, Nat.reduceLT, Nat.reduceEqDiff, Nat.reduceAdd, Nat.reduceMul, Nat.reduceSub, Nat.reduceBEq, Nat.reduceLeDiff, reduceCtorEq, Nat.reduceLT, ↓Br_true, ↓Br_false, bind, pure, sc3, sb3]
        (have cc := eqRoomNN_cv r.wi r.hi; (first | ((first | refine callR (by rfl) (by rfl) (by rfl) cc ?_ | refine callM (by rfl) (by rfl) (by rfl) cc ?_ | refine callMo (by rfl) (by rfl) (by rfl) cc ?_); clear cc; rintro _ _ ⟨rfl, rfl⟩) | (refine callE (by rfl) cc (by rfl) ?_; clear cc)))
        simp (config := { maxSteps := 1000000 }) (disch := omega) only [go_sem, Int.reduceToNat, ↓reduceIte, Nat.reduceLT, Nat.reduceEqDiff, Nat.reduceAdd, Nat.reduceMul, Nat.reduceSub, Nat.reduceBEq, Nat.reduceLeDiff, reduceCtorEq, Nat.reduceLT, ↓Br_true, ↓Br_false, bind, pure, sc3, sb3]
        (have cc := heldRoomN_cv r.wi r.hi; (first | ((first | refine callR (by rfl) (by rfl) (by rfl) cc ?_ | refine callM (by rfl) (by rfl) (by rfl) cc ?_ | refine callMo (by rfl) (by rfl) (by rfl) cc ?_); clear cc; rintro _ _ ⟨rfl, rfl⟩) | (refine callE (by rfl) cc (by rfl) ?_; clear cc)))
        simp (config := { maxSteps := 1000000 }) (disch := omega) only [go_sem, Int.reduceToNat, ↓reduceIte, Nat.reduceLT, Nat.reduceEqDiff, Nat.reduceAdd, Nat.reduceMul, Nat.reduceSub, Nat.reduceBEq, Nat.reduceLeDiff, reduceCtorEq, Nat.reduceLT, ↓Br_true, ↓Br_false, bind, pure, sc3, sb3, hq1]
      · have cs := cs.mono fun v h H => H.pos h0
        have ci := ci.mono fun v h H => H.pos h0
        have h12 := q.n12
        have hq4 : decide (1 + 3 * (n : Int) < 0) = false := decide_eq_false (by omega)
        have ce := fun f g cap cap' hf hg h1 h2 => eqRoom_cv r us n f g cap cap' hf hg h1 h2 (by omega)
        refine cv_of_run 1000 sc3 sb3 66 [.tmp 2] tabOk (by kernel_rfl) Tryz.func3 rfl (by kernel_rfl) Tryz.ntmps3 rfl (by simp) rfl (by simp [bdL, SV.bd]) ?_
        simp (config := { maxSteps := 1000000 }) (disch := omega) only [go_sem, Int.reduceToNat, ↓reduceIte, Nat.reduceLT, Nat.reduceEqDiff, Nat.reduceAdd, Nat.reduceMul, Nat.reduceSub, Nat.reduceBEq, Nat.reduceLeDiff, reduceCtorEq, Nat.reduceLT, ↓Br_true, ↓Br_false, bind, pure, sc3, sb3, hl]
        have cc := cs; (first | refine callR (by rfl) (by rfl) (by rfl) cc ?_ | refine callM (by rfl) (by rfl) (by rfl) cc ?_ | refine callMo (by rfl) (by rfl) (by rfl) cc ?_ | refine callG (by rfl) (by rfl) (by rfl) cc ?_ | refine callW (by rfl) (by first | rfl | (simp [ofL, kpB, kpR, ofB, isOwnB, isDead, inL, hget]; done)) (by rfl) (by rfl) cc ?_); clear cc; rintro _ _ ⟨cap2, w2, c2, i2, rfl, rfl⟩
        simp (config := { maxSteps := 1000000 }) (disch := omega) only [go_sem, Int.reduceToNat, ↓reduceIte, Nat.reduceLT, Nat.reduceEqDiff, Nat.reduceAdd, Nat.reduceMul, Nat.reduceSub, Nat.reduceBEq, Nat.reduceLeDiff, reduceCtorEq, Nat.reduceLT, ↓Br_true, ↓Br_false, bind, pure, sc3, sb3]
        have cc := ci; (first | refine callR (by rfl) (by rfl) (by rfl) cc ?_ | refine callM (by rfl) (by rfl) (by rfl) cc ?_ | refine callMo (by rfl) (by rfl) (by rfl) cc ?_ | refine callG (by rfl) (by rfl) (by rfl) cc ?_ | refine callW (by rfl) (by first | rfl | (simp [ofL, kpB, kpR, ofB, isOwnB, isDead, inL, hget]; done)) (by rfl) (by rfl) cc ?_); clear cc; rintro _ _ ⟨cap4, w4, c4, i4, rfl, rfl⟩
        simp (config := { maxSteps := 1000000 }) (disch := omega) only [go_sem, Int.reduceToNat, ↓reduceIte, Nat.reduceLT, Nat.reduceEqDiff, Nat.reduceAdd, Nat.reduceMul, Nat.reduceSub, Nat.reduceBEq, Nat.reduceLeDiff, reduceCtorEq, Nat.reduceLT, ↓Br_true, ↓Br_false, bind, pure, sc3, sb3]
        (have cc := ce w4 w2 cap4 cap2 i4 i2 c4 c2; (first | ((first | refine callR (by rfl) (by rfl) (by rfl) cc ?_ | refine callM (by rfl) (by rfl) (by rfl) cc ?_ | refine callMo (by rfl) (by rfl) (by rfl) cc ?_); clear cc; rintro _ _ ⟨rfl, rfl⟩) | (refine callE (by rfl) cc (by rfl) ?_; clear cc)))
        simp (config := { maxSteps := 1000000 }) (disch := omega) only [go_sem, Int.reduceToNat, ↓reduceIte, Nat.reduceLT, Nat.reduceEqDiff, Nat.reduceAdd, Nat.reduceMul, Nat.reduceSub, Nat.reduceBEq, Nat.reduceLeDiff, reduceCtorEq, Nat.reduceLT, ↓Br_true, ↓Br_false, bind, pure, sc3, sb3]
        have cc := markRoom_cv r n w4 cap4 c4 (by omega) (lenfv i4); (first | refine callR (by rfl) (by rfl) (by rfl) cc ?_ | refine callM (by rfl) (by rfl) (by rfl) cc ?_ | refine callMo (by rfl) (by rfl) (by rfl) cc ?_ | refine callG (by rfl) (by rfl) (by rfl) cc ?_ | refine callW (by rfl) (by first | rfl | (simp [ofL, kpB, kpR, ofB, isOwnB, isDead, inL, hget]; done)) (by rfl) (by rfl) cc ?_); clear cc; rintro _ _ ⟨rfl, g7, i7, rfl⟩
        simp (config := { maxSteps := 1000000 }) (disch := omega) only [go_sem, Int.reduceToNat, ↓reduceIte, Nat.reduceLT, Nat.reduceEqDiff, Nat.reduceAdd, Nat.reduceMul, Nat.reduceSub, Nat.reduceBEq, Nat.reduceLeDiff, reduceCtorEq, Nat.reduceLT, ↓Br_true, ↓Br_false, bind, pure, sc3, sb3]
        (have cc := heldRoom_cv r n g7 cap4 c4 h12 i7; (first | ((first | refine callR (by rfl) (by rfl) (by rfl) cc ?_ | refine callM (by rfl) (by rfl) (by rfl) cc ?_ | refine callMo (by rfl) (by rfl) (by rfl) cc ?_); clear cc; rintro _ _ ⟨rfl, rfl⟩) | (refine callE (by rfl) cc (by rfl) ?_; clear cc)))
        simp (config := { maxSteps := 1000000 }) (disch := omega) only [go_sem, Int.reduceToNat, ↓reduceIte, Nat.reduceLT, Nat.reduceEqDiff, Nat.reduceAdd, Nat.reduceMul, Nat.reduceSub, Nat.reduceBEq, Nat.reduceLeDiff, reduceCtorEq, Nat.reduceLT, ↓Br_true, ↓Br_false, bind, pure, sc3, sb3, hq4]
        have cc := ci; (first | refine callR (by rfl) (by rfl) (by rfl) cc ?_ | refine callM (by rfl) (by rfl) (by rfl) cc ?_ | refine callMo (by rfl) (by rfl) (by rfl) cc ?_ | refine callG (by rfl) (by rfl) (by rfl) cc ?_ | refine callW (by rfl) (by first | rfl | (simp [ofL, kpB, kpR, ofB, isOwnB, isDead, inL, hget]; done)) (by rfl) (by rfl) cc ?_); clear cc; rintro _ _ ⟨cap9, w9, c9, i9, rfl, rfl⟩
        simp (config := { maxSteps := 1000000 }) (disch := omega) only [go_sem, Int.reduceToNat, ↓reduceIte, Nat.reduceLT, Nat.reduceEqDiff, Nat.reduceAdd, Nat.reduceMul, Nat.reduceSub, Nat.reduceBEq, Nat.reduceLeDiff, reduceCtorEq, Nat.reduceLT, ↓Br_true, ↓Br_false, bind, pure, sc3, sb3]
        (have cc := ce w9 w2 cap9 cap2 i9 i2 c9 c2; (first | ((first | refine callR (by rfl) (by rfl) (by rfl) cc ?_ | refine callM (by rfl) (by rfl) (by rfl) cc ?_ | refine callMo (by rfl) (by rfl) (by rfl) cc ?_); clear cc; rintro _ _ ⟨rfl, rfl⟩) | (refine callE (by rfl) cc (by rfl) ?_; clear cc)))
        simp (config := { maxSteps := 1000000 }) (disch := omega) only [go_sem, Int.reduceToNat, ↓reduceIte, Nat.reduceLT, Nat.reduceEqDiff, Nat.reduceAdd, Nat.reduceMul, Nat.reduceSub, Nat.reduceBEq, Nat.reduceLeDiff, reduceCtorEq, Nat.reduceLT, ↓Br_true, ↓Br_false, bind, pure, sc3, sb3]
        (have cc := heldRoom_cv r n g7 cap4 c4 h12 i7; (first | ((first | refine callR (by rfl) (by rfl) (by rfl) cc ?_ | refine callM (by rfl) (by rfl) (by rfl) cc ?_ | refine callMo (by rfl) (by rfl) (by rfl) cc ?_); clear cc; rintro _ _ ⟨rfl, rfl⟩) | (refine callE (by rfl) cc (by rfl) ?_; clear cc)))
        simp (config := { maxSteps := 1000000 }) (disch := omega) only [go_sem, Int.reduceToNat, ↓reduceIte, Nat.reduceLT, Nat.reduceEqDiff, Nat.reduceAdd, Nat.reduceMul, Nat.reduceSub, Nat.reduceBEq, Nat.reduceLeDiff, reduceCtorEq, Nat.reduceLT, ↓Br_true, ↓Br_false, bind, pure, sc3, sb3, hq4]
    · have hn : ∀ r us n, ¬ Fine t r us n := fun r us n q => hf ⟨r, us, n, q⟩
      have cs := cs.mono fun v h H => H.none hn
      have ci := ci.mono fun v h H => H.none hn
      refine cv_of_run 1000 sc3 sb3 66 [.tmp 2] tabOk (by kernel_rfl) Tryz.func3 rfl (by kernel_rfl) Tryz.ntmps3 rfl (by simp) rfl (by simp [bdL, SV.bd]) ?_
      simp (config := { maxSteps := 1000000 }) (disch := omega) only [go_sem, Int.reduceToNat, ↓reduceIte, Nat.reduceLT, Nat.reduceEqDiff, Nat.reduceAdd, Nat.reduceMul, Nat.reduceSub, Nat.reduceBEq, Nat.reduceLeDiff, reduceCtorEq, Nat.reduceLT, ↓Br_true, ↓Br_false, bind, pure, sc3, sb3, hl]
      (have cc := cs; (first | ((first | refine callR (by rfl) (by rfl) (by rfl) cc ?_ | refine callM (by rfl) (by rfl) (by rfl) cc ?_ | refine callMo (by rfl) (by rfl) (by rfl) cc ?_); clear cc; rintro _ _ ⟨rfl, rfl⟩) | (refine callE (by rfl) cc (by rfl) ?_; clear cc)))
      simp (config := { maxSteps := 1000000 }) (disch := omega) only [go_sem, Int.reduceToNat, ↓reduceIte, Nat.reduceLT, Nat.reduceEqDiff, Nat.reduceAdd, Nat.reduceMul, Nat.reduceSub, Nat.reduceBEq, Nat.reduceLeDiff, reduceCtorEq, Nat.reduceLT, ↓Br_true, ↓Br_false, bind, pure, sc3, sb3]
      (have cc := ci; (first | ((first | refine callR (by rfl) (by rfl) (by rfl) cc ?_ | refine callM (by rfl) (by rfl) (by rfl) cc ?_ | refine callMo (by rfl) (by rfl) (by rfl) cc ?_); clear cc; rintro _ _ ⟨rfl, rfl⟩) | (refine callE (by rfl) cc (by rfl) ?_; clear cc)))
      simp (config := { maxSteps := 1000000 }) (disch := omega) only [go_sem, Int.reduceToNat, ↓reduceIte, Nat.reduceLT, Nat.reduceEqDiff, Nat.reduceAdd, Nat.reduceMul, Nat.reduceSub, Nat.reduceBEq, Nat.reduceLeDiff, reduceCtorEq, Nat.reduceLT, ↓Br_true, ↓Br_false, bind, pure, sc3, sb3]
      (have cc := eqRoomNN_cv 0 0; (first | ((first | refine callR (by rfl) (by rfl) (by rfl) cc ?_ | refine callM (by rfl) (by rfl) (by rfl) cc ?_ | refine callMo (by rfl) (by rfl) (by rfl) cc ?_); clear cc; rintro _ _ ⟨rfl, rfl⟩) | (refine callE (by rfl) cc (by rfl) ?_; clear cc)))
      simp (config := { maxSteps := 1000000 }) (disch := omega) only [go_sem, Int.reduceToNat, ↓reduceIte, Nat.reduceLT, Nat.reduceEqDiff, Nat.reduceAdd, Nat.reduceMul, Nat.reduceSub, Nat.reduceBEq, Nat.reduceLeDiff, reduceCtorEq, Nat.reduceLT, ↓Br_true, ↓Br_false, bind, pure, sc3, sb3]
      (have cc := markRoomN_cv 0 0; (first | ((first | refine callR (by rfl) (by rfl) (by rfl) cc ?_ | refine callM (by rfl) (by rfl) (by rfl) cc ?_ | refine callMo (by rfl) (by rfl) (by rfl) cc ?_); clear cc; rintro _ _ ⟨rfl, rfl⟩) | (refine callE (by rfl) cc (by rfl) ?_; clear cc)))
      simp (config := { maxSteps := 1000000 }) (disch := omega) only [go_sem, Int.reduceToNat, ↓reduceIte, Nat.reduceLT, Nat.reduceEqDiff, Nat.reduceAdd, Nat.reduceMul, Nat.reduceSub, Nat.reduceBEq, Nat.reduceLeDiff, reduceCtorEq, Nat.reduceLT, ↓Br_true, ↓Br_false, bind, pure, sc3, sb3]
      (have cc := heldRoomN_cv 0 0; (first | ((first | refine callR (by rfl) (by rfl) (by rfl) cc ?_ | refine callM (by rfl) (by rfl) (by rfl) cc ?_ | refine callMo (by rfl) (by rfl) (by rfl) cc ?_); clear cc; rintro _ _ ⟨rfl, rfl⟩) | (refine callE (by rfl) cc (by rfl) ?_; clear cc)))
      simp (config := { maxSteps := 1000000 }) (disch := omega) only [go_sem, Int.reduceToNat, ↓reduceIte, Nat.reduceLT, Nat.reduceEqDiff, Nat.reduceAdd, Nat.reduceMul, Nat.reduceSub, Nat.reduceBEq, Nat.reduceLeDiff, reduceCtorEq, Nat.reduceLT, ↓Br_true, ↓Br_false, bind, pure, sc3, sb3, hq1]
      (have cc := ci; (first | ((first | refine callR (by rfl) (by rfl) (by rfl) cc ?_ | refine callM (by rfl) (by rfl) (by rfl) cc ?_ | refine callMo (by rfl) (by rfl) (by rfl) cc ?_); clear cc; rintro _ _ ⟨rfl, rfl⟩) | (refine callE (by rfl) cc (by rfl) ?_; clear cc)))
      simp (config := { maxSteps := 1000000 }) (disch := omega) only [go_sem, Int.reduceToNat, ↓reduceIte, Nat.reduceLT, Nat.reduceEqDiff, Nat.reduceAdd, Nat.reduceMul, Nat.reduceSub, Nat.reduceBEq, Nat.reduceLeDiff, reduceCtorEq, Nat.reduceLT, ↓Br_true, ↓Br_false, bind, pure, sc3, sb3]
      (have cc := eqRoomNN_cv 0 0; (first | ((first | refine callR (by rfl) (by rfl) (by rfl) cc ?_ | refine callM (by rfl) (by rfl) (by rfl) cc ?_ | refine callMo (by rfl) (by rfl) (by rfl) cc ?_); clear cc; rintro _ _ ⟨rfl, rfl⟩) | (refine callE (by rfl) cc (by rfl) ?_; clear cc)))
      simp (config := { maxSteps := 1000000 }) (disch := omega) only [go_sem, Int.reduceToNat, ↓reduceIte, Nat.reduceLT, Nat.reduceEqDiff, Nat.reduceAdd, Nat.reduceMul, Nat.reduceSub, Nat.reduceBEq, Nat.reduceLeDiff, reduceCtorEq, Nat.reduceLT, ↓Br_true, ↓Br_false, bind, pure, sc3, sb3]
      (have cc := heldRoomN_cv 0 0; (first | ((first | refine callR (by rfl) (by rfl) (by rfl) cc ?_ | refine callM (by rfl) (by rfl) (by rfl) cc ?_ | refine callMo (by rfl) (by rfl) (by rfl) cc ?_); clear cc; rintro _ _ ⟨rfl, rfl⟩) | (refine callE (by rfl) cc (by rfl) ?_; clear cc)))
      simp (config := { maxSteps := 1000000 }) (disch := omega) only [go_sem, Int.reduceToNat, ↓reduceIte, Nat.reduceLT, Nat.reduceEqDiff, Nat.reduceAdd, Nat.reduceMul, Nat.reduceSub, Nat.reduceBEq, Nat.reduceLeDiff, reduceCtorEq, Nat.reduceLT, ↓Br_true, ↓Br_false, bind, pure, sc3, sb3, hq1]
  · have hl : decide ((1048576 : Int) < t.length) = true := decide_eq_true (by omega)
    refine cv_of_run 1000 sc3 sb3 66 [.tmp 2] tabOk (by kernel_rfl) Tryz.func3 rfl (by kernel_rfl) Tryz.ntmps3 rfl (by simp) rfl (by simp [bdL, SV.bd]) ?_
    simp (config := { maxSteps := 1000000 }) (disch := omega) only [go_sem, Int.reduceToNat, ↓reduceIte, Nat.reduceLT, Nat.reduceEqDiff, Nat.reduceAdd, Nat.reduceMul, Nat.reduceSub, Nat.reduceBEq, Nat.reduceLeDiff, reduceCtorEq, Nat.reduceLT, ↓Br_true, ↓Br_false, bind, pure, sc3, sb3, hl]
theorem FnExactReadRoom_c (s : ByteArray) (w : World) (hg : Gl w) :
    Calls Tryz.prog 3 #[.string s] w fun e w' => e = .returned (.bool true) ∧ Below w.heap.size w w' := by
  have e : bs s.data.toList = s := by cases s; simp [bs]
  have := (FnExactReadRoom_cv s.data.toList).law w hg
  rw [e] at this
  exact this
end Go.Proofs.YtpcnpmhpelbndaaGreatDoor.Vx
