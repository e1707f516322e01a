/- Rooms, in the abstract: desks that are placed: the reference's search. -/
import Derived.Test.YtdncopphjamilaaRp
namespace Go.Proofs.Ytdncopphjamilaa.Vx
open Go Go.RowKit Fl
set_option maxRecDepth 100000
set_option maxHeartbeats 2000000
set_option linter.unusedSimpArgs false
set_option linter.unusedVariables false

theorem sq_one (a : Int) : decide (a * a ≤ 1) = inn a (-1) 1 := by
  have : a * a ≤ 1 ↔ -1 ≤ a ∧ a ≤ 1 := by
    constructor
    · intro h
      have h1 : ¬ 2 ≤ a := fun c => by
        have := Int.mul_le_mul c c (by omega) (by omega)
        omega
      have h2 : ¬ a ≤ -2 := fun c => by
        have := Int.mul_le_mul (show 2 ≤ -a by omega) (show 2 ≤ -a by omega) (by omega) (by omega)
        rw [Int.neg_mul_neg] at this
        omega
      omega
    · rintro ⟨h1, h2⟩
      rcases (show a = -1 ∨ a = 0 ∨ a = 1 by omega) with rfl | rfl | rfl <;> decide
  rw [Bool.eq_iff_iff, decide_eq_true_eq, inn_true]
  exact this
theorem inn_neg (a : Int) : inn (-a) (-1) 1 = inn a (-1) 1 := by
  rw [Bool.eq_iff_iff, inn_true, inn_true]; omega
theorem l03Near_cv (p o : Int × Int) (hp : inR p) (ho : inR o) : CV Try.prog 155 [tilV o, tilV p] [] (fun v h => v = .f (.bool (near p o)) ∧ h = []) := by
  obtain ⟨⟨_, _⟩, _, _⟩ := hp
  obtain ⟨⟨_, _⟩, _, _⟩ := ho
  have e1 : near p o = (inn (o.1 - p.1) (-1) 1 && inn (o.2 - p.2) (-1) 1) := by
    unfold near
    rw [← inn_neg (p.1 - o.1), ← inn_neg (p.2 - o.2), Int.neg_sub, Int.neg_sub]
  have s1 := sq_one (o.1 - p.1)
  have s2 := sq_one (o.2 - p.2)
  have b1 : 0 ≤ (o.1 - p.1) * (o.1 - p.1) ∧ (o.1 - p.1) * (o.1 - p.1) ≤ 81 := sq_le (by assumption) (by assumption) (by assumption) (by assumption)
  have b2 : 0 ≤ (o.2 - p.2) * (o.2 - p.2) ∧ (o.2 - p.2) * (o.2 - p.2) ≤ 81 := sq_le (by assumption) (by assumption) (by assumption) (by assumption)
  refine cv_of_run 1000 sc155 sb155 31 [.tmp 4] tabOk (by kernel_rfl) Try.func155 rfl (by kernel_rfl) Try.ntmps155 rfl (by simp) rfl (by simp [bdL, SV.bd]) ?_
  simp (config := { maxSteps := 1000000 }) (disch := omega) only [go_sem, Int.reduceToNat, ↓reduceIte, Nat.reduceLT, Nat.reduceEqDiff, Nat.reduceAdd, Nat.reduceMul, Nat.reduceSub, Nat.reduceBEq, Nat.reduceLeDiff, reduceCtorEq, Nat.reduceLT, ↓Br_true, ↓Br_false, bind, pure, sc155, sb155]
  repeat' (first | (with_reducible refine And.intro (by first | (unfold SOk; kernel_rfl) | (unfold SBOk; kernel_rfl) | (with_reducible assumption) | omega | assumption) ?_) | (with_reducible refine Br_intro (fun hc => ?_) (fun hc => ?_)) | ((with_reducible show WidN _ _ _ _ _ _ _ _); (first | refine widL (by decide) (by with_reducible assumption) ?_ | refine widL (by decide) (FWok_nn (by with_reducible assumption)) ?_ | refine widN (by decide) (fun c hc => ?_)); simp (config := { maxSteps := 1000000 }) (disch := omega) only [go_sem, Int.reduceToNat, ↓reduceIte, Nat.reduceLT, Nat.reduceEqDiff, Nat.reduceAdd, Nat.reduceMul, Nat.reduceSub, Nat.reduceBEq, Nat.reduceLeDiff, reduceCtorEq, Nat.reduceLT, ↓Br_true, ↓Br_false, bind, pure, sc155, sb155]))
  · rw [e1, ← s1, ← s2, hc]; simp
  · rw [e1, ← s1, ← s2, hc]; simp
def spRes (o : Option (List (Int × Int))) (b : List Blk) (v : SV) (h : List Blk) : Prop :=
  match o with
  | none => v = .tup [.slc 2 0 0 0, .f (.bool false)] ∧ h = b ++ [.rows 0 0 2 noRow true]
  | some out => ∃ cap g, TilAt out g ∧ out.length ≤ cap ∧ v = .tup [.slc 2 0 out.length cap, .f (.bool true)] ∧ h = b ++ [.rows out.length cap 2 g true]
theorem l03Put0_cv (N capN nb cb : Nat) (i : Nat) (f g : Nat → List FV) (h : nb ≤ cb) :
    CV Try.prog 108 [.slc 0 0 N capN, .slc 1 0 nb cb, .f (.int .i64 i), .f (.int .i64 ((0 : Nat) : Int))] [.rows N capN 2 f false, .rows nb cb 2 g false] (fun v hh => v = .tup [.slc 1 0 nb cb, .f (.bool true)] ∧ hh = [.rows N capN 2 f false, .rows nb cb 2 g false]) := by
  have hmd : decide (((0 : Nat) : Int) = 0) = true := by decide
  refine cv_of_run 1000 sc108 sb108 67 [.tmp 8, .tmp 9] tabOk (by kernel_rfl) Try.func108 rfl (by kernel_rfl) Try.ntmps108 rfl (by simp) rfl (by simp [bdL, SV.bd]) ?_
  simp (config := { maxSteps := 1000000 }) (disch := omega) only [go_sem, Int.reduceToNat, ↓reduceIte, Nat.reduceLT, Nat.reduceEqDiff, Nat.reduceAdd, Nat.reduceMul, Nat.reduceSub, Nat.reduceBEq, Nat.reduceLeDiff, reduceCtorEq, Nat.reduceLT, ↓Br_true, ↓Br_false, bind, pure, sc108, sb108, hmd]
theorem l03Put_cv (m : Nat) : ∀ (L bs : List (Int × Int)) (s N capN cb : Nat) (f g : Nat → List FV), Part L 0 N capN N capN f → Bef bs cb g → bs.length + (m + 1) ≤ 5 → s ≤ N →
    CV Try.prog 108 [.slc 0 0 N capN, .slc 1 0 bs.length cb, .f (.int .i64 s), .f (.int .i64 ((m + 1 : Nat) : Int))] [.rows N capN 2 f false, .rows bs.length cb 2 g false] (spRes (plc (L.drop s) (m + 1) bs) [.rows N capN 2 f false, .rows bs.length cb 2 g false])
  := by
  induction m using Nat.strongRecOn with
  | _ m ih =>
    intro L bs s N capN cb f g HL HB hm hs
    have hlen := HL.len
    have hF := HL.fit
    have h100 := HL.small
    have hb := HB.le
    have hmd : decide (((m + 1 : Nat) : Int) = 0) = false := decide_eq_false (by omega)
    refine cv_of_run 1000 sc108 sb108 67 [.tmp 8, .tmp 9] tabOk (by kernel_rfl) Try.func108 rfl (by kernel_rfl) Try.ntmps108 rfl (by simp) rfl (by simp [bdL, SV.bd]) ?_
    simp (config := { maxSteps := 1000000 }) (disch := omega) only [go_sem, Int.reduceToNat, ↓reduceIte, Nat.reduceLT, Nat.reduceEqDiff, Nat.reduceAdd, Nat.reduceMul, Nat.reduceSub, Nat.reduceBEq, Nat.reduceLeDiff, reduceCtorEq, Nat.reduceLT, ↓Br_true, ↓Br_false, bind, pure, sc108, sb108, hmd]
    refine ⟨Nat, fun i => i ≤ N ∧ plc (L.drop i) (m + 1) bs = plc (L.drop s) (m + 1) bs, fun i => N - i, fun i => [(0, .slc 0 0 N capN), (1, .slc 1 0 bs.length cb), (3, .f (.int .i64 ((m + 1 : Nat) : Int))), (8, .f .nils), (9, .f (.bool false)), (10, .f (.int .i64 i))], fun _ => [.rows N capN 2 f false, .rows bs.length cb 2 g false], s, (by intro _; simp), ?_, (by (try refine Or.inl ?_); simp [Cov, covE, covH, cb_dead, cb_lit, cb_rows, cb_cells, cd_lit, cd_rows, cd_cells, cd_dead, covRow, look, SV.known, SV.bd, bdL, hb, hF] <;> omega), ?_⟩
    · exact ⟨hs, rfl⟩
    · rintro i ⟨hi, hp⟩
      by_cases hlt : i < N
      · have hd : decide ((i : Int) < N) = true := decide_eq_true (by omega)
        have e1 := HL.row i hlt
        rw [Nat.zero_add] at e1
        have hI := HL.inr i hlt
        simp (config := { maxSteps := 1000000 }) (disch := omega) only [go_sem, Int.reduceToNat, ↓reduceIte, Nat.reduceLT, Nat.reduceEqDiff, Nat.reduceAdd, Nat.reduceMul, Nat.reduceSub, Nat.reduceBEq, Nat.reduceLeDiff, reduceCtorEq, Nat.reduceLT, ↓Br_true, ↓Br_false, bind, pure, sc108, sb108, hd, e1]
        generalize ht : tlN L i = t at *
        refine ⟨Nat, fun k => k ≤ bs.length, fun k => bs.length - k, fun k => [(0, .slc 0 0 N capN), (1, .slc 1 0 bs.length cb), (3, .f (.int .i64 ((m + 1 : Nat) : Int))), (8, .f .nils), (9, .f (.bool false)), (10, .f (.int .i64 i)), (11, .f (.bool (farK t bs k))), (12, .f (.int .i64 k))], fun _ => [.rows N capN 2 f false, .rows bs.length cb 2 g false], 0, (by intro _; simp), ?_, (by (try refine Or.inl ?_); simp [Cov, covE, covH, cb_dead, cb_lit, cb_rows, cb_cells, cd_lit, cd_rows, cd_cells, cd_dead, covRow, look, SV.known, SV.bd, bdL, hb, hF, farK] <;> omega), ?_⟩
        · omega
        · intro k hk
          by_cases hkt : k < bs.length
          · have hd : decide ((k : Int) < bs.length) = true := decide_eq_true (by omega)
            have e2 := HB.row k hkt
            have hJ := HB.inr k hkt
            have eS : farK t bs (k + 1) = (farK t bs k && !near t (tlN bs k)) := rfl
            simp (config := { maxSteps := 1000000 }) (disch := omega) only [go_sem, Int.reduceToNat, ↓reduceIte, Nat.reduceLT, Nat.reduceEqDiff, Nat.reduceAdd, Nat.reduceMul, Nat.reduceSub, Nat.reduceBEq, Nat.reduceLeDiff, reduceCtorEq, Nat.reduceLT, ↓Br_true, ↓Br_false, bind, pure, sc108, sb108, hd, e1, e2]
            repeat' (first | (with_reducible refine And.intro (by first | (unfold SOk; kernel_rfl) | (unfold SBOk; kernel_rfl) | (with_reducible assumption) | omega | assumption) ?_) | (with_reducible refine Br_intro (fun hc => ?_) (fun hc => ?_)) | ((have cc := l03Near_cv t (tlN bs k) hI hJ; (first | ((first | refine callR (by rfl) (by rfl) (by rfl) cc ?_ | refine callM (by rfl) (by rfl) (by rfl) cc ?_ | refine callMo (by rfl) (by rfl) (by rfl) cc ?_); clear cc; rintro _ _ ⟨rfl, rfl⟩) | (refine callE (by rfl) cc (by rfl) ?_; clear cc))); simp (config := { maxSteps := 1000000 }) (disch := omega) only [go_sem, Int.reduceToNat, ↓reduceIte, Nat.reduceLT, Nat.reduceEqDiff, Nat.reduceAdd, Nat.reduceMul, Nat.reduceSub, Nat.reduceBEq, Nat.reduceLeDiff, reduceCtorEq, Nat.reduceLT, ↓Br_true, ↓Br_false, bind, pure, sc108, sb108, hd, e1, e2]) | ((with_reducible show WidN _ _ _ _ _ _ _ _); (first | refine widL (by decide) (by with_reducible assumption) ?_ | refine widL (by decide) (FWok_nn (by with_reducible assumption)) ?_ | refine widN (by decide) (fun c hc => ?_)); simp (config := { maxSteps := 1000000 }) (disch := omega) only [go_sem, Int.reduceToNat, ↓reduceIte, Nat.reduceLT, Nat.reduceEqDiff, Nat.reduceAdd, Nat.reduceMul, Nat.reduceSub, Nat.reduceBEq, Nat.reduceLeDiff, reduceCtorEq, Nat.reduceLT, ↓Br_true, ↓Br_false, bind, pure, sc108, sb108, hd, e1, e2]))
            · have eT : farK t bs (k + 1) = !near t (tlN bs k) := by rw [eS, hc]; simp
              exact ⟨k + 1, by omega, by omega, by (try refine Or.inl ?_); simp [Cov, covE, covH, cb_dead, cb_lit, cb_rows, cb_cells, cd_lit, cd_rows, cd_cells, cd_dead, covRow, look, SV.known, SV.bd, bdL, eT, hb, hF] <;> omega⟩
            · have eT : farK t bs (k + 1) = false := by rw [eS, hc]; simp
              exact ⟨k + 1, by omega, by omega, by (try refine Or.inl ?_); simp [Cov, covE, covH, cb_dead, cb_lit, cb_rows, cb_cells, cd_lit, cd_rows, cd_cells, cd_dead, covRow, look, SV.known, SV.bd, bdL, eT, hb, hF] <;> omega⟩
          · have hd : decide ((k : Int) < bs.length) = false := decide_eq_false (by omega)
            obtain rfl : k = bs.length := by omega
            simp (config := { maxSteps := 1000000 }) (disch := omega) only [go_sem, Int.reduceToNat, ↓reduceIte, Nat.reduceLT, Nat.reduceEqDiff, Nat.reduceAdd, Nat.reduceMul, Nat.reduceSub, Nat.reduceBEq, Nat.reduceLeDiff, reduceCtorEq, Nat.reduceLT, ↓Br_true, ↓Br_false, bind, pure, sc108, sb108, hd]
            refine ⟨fun hc => ?_, fun hc => ?_⟩
            · simp only [Bool.not_eq_true'] at hc
              exact ⟨i + 1, ⟨by omega, by rw [← hp]; exact (plc_near (by omega) (by rw [ht]; exact hc)).symm⟩, by omega, by (try refine Or.inl ?_); simp [Cov, covE, covH, cb_dead, cb_lit, cb_rows, cb_cells, cd_lit, cd_rows, cd_cells, cd_dead, covRow, look, SV.known, SV.bd, bdL, hb, hF] <;> omega⟩
            · simp only [Bool.not_eq_false'] at hc
              have en : ((m + 1 : Nat) : Int) - 1 = m := by omega
              have ei : (i : Int) + 1 = ((i + 1 : Nat) : Int) := by omega
              have hff : farK (tlN L i) bs bs.length = true := by rw [ht]; exact hc
              repeat (with_reducible refine And.intro (by first | omega | assumption | (unfold SOk; kernel_rfl) | (unfold SBOk; kernel_rfl)) ?_)
              have el : (bs ++ [t]).length = bs.length + 1 := by simp
              have ez : catR noRow 0 (shR g 0) = g := by funext x; simp [catR, shR]
              have HB2 := fun c2 (hc2 : bs.length + 1 ≤ c2) => show Bef (bs ++ [t]) c2 (catR (catR noRow 0 (shR g 0)) bs.length (shR (nthR [ tilR t ]) 0)) by rw [ez]; exact HB.push hI hc2
              cases hq : plc (L.drop (i + 1)) m (bs ++ [t]) with
              | none =>
                rcases m with _ | k
                · rw [plc_zero] at hq; cases hq
                refine ⟨Unit, fun _ => True, fun _ => [(0, .slc 0 0 N capN), (1, .slc 1 0 bs.length cb), (3, .f (.int .i64 ((k + 1 + 1 : Nat) : Int))), (8, .f .nils), (9, .f (.bool false)), (10, .f (.int .i64 i)), (14, .f (.bool false))], fun _ => [.rows N capN 2 f false, .rows bs.length cb 2 g false], ?_, ?_⟩
                · simp (config := { maxSteps := 1000000 }) (disch := omega) only [go_sem, Int.reduceToNat, ↓reduceIte, Nat.reduceLT, Nat.reduceEqDiff, Nat.reduceAdd, Nat.reduceMul, Nat.reduceSub, Nat.reduceBEq, Nat.reduceLeDiff, reduceCtorEq, Nat.reduceLT, ↓Br_true, ↓Br_false, bind, pure, sc108, sb108, en, ei, e1]
                  repeat' (first | omega | (with_reducible refine And.intro ?_ ?_))
                  all_goals
                    refine Or.inr ⟨by omega, fun c1 hc1 => Or.inr ⟨by omega, by omega, fun c2 hc2 => ?_⟩⟩
                    have cv := ih k (by omega) L (bs ++ [t]) (i + 1) N capN c2 f _ HL (HB2 c2 hc2) (by rw [el]; omega) (by omega)
                    rw [hq] at cv
                    simp only [spRes, el] at cv
                    (have cc := cv; (first | ((first | refine callR (by rfl) (by rfl) (by rfl) cc ?_ | refine callM (by rfl) (by rfl) (by rfl) cc ?_ | refine callMo (by rfl) (by rfl) (by rfl) cc ?_); clear cc; rintro _ _ ⟨rfl, rfl⟩) | (refine callE (by rfl) cc (by rfl) ?_; clear cc)))
                    simp (config := { maxSteps := 1000000 }) (disch := omega) only [go_sem, Int.reduceToNat, ↓reduceIte, Nat.reduceLT, Nat.reduceEqDiff, Nat.reduceAdd, Nat.reduceMul, Nat.reduceSub, Nat.reduceBEq, Nat.reduceLeDiff, reduceCtorEq, Nat.reduceLT, ↓Br_true, ↓Br_false, bind, pure, sc108, sb108]
                    exact ⟨(), trivial, by (try refine Or.inl ?_); simp [Cov, covE, covH, cb_dead, cb_lit, cb_rows, cb_cells, cd_lit, cd_rows, cd_cells, cd_dead, covRow, look, SV.known, SV.bd, bdL, hb, hF] <;> omega⟩
                · rintro ⟨⟩ _
                  refine ⟨by simp, ?_⟩
                  simp (config := { maxSteps := 1000000 }) (disch := omega) only [go_sem, Int.reduceToNat, ↓reduceIte, Nat.reduceLT, Nat.reduceEqDiff, Nat.reduceAdd, Nat.reduceMul, Nat.reduceSub, Nat.reduceBEq, Nat.reduceLeDiff, reduceCtorEq, Nat.reduceLT, ↓Br_true, ↓Br_false, bind, pure, sc108, sb108]
                  refine ⟨i + 1, ⟨by omega, ?_⟩, by omega, by (try refine Or.inl ?_); simp [Cov, covE, covH, cb_dead, cb_lit, cb_rows, cb_cells, cd_lit, cd_rows, cd_cells, cd_dead, covRow, look, SV.known, SV.bd, bdL, hb, hF] <;> omega⟩
                  rw [← hp]; exact (plc_none (by omega) hff (by rw [ht]; exact hq)).symm
              | some out =>
                have hr := plc_some (by omega) hff (by rw [ht]; exact hq)
                rw [hp] at hr
                refine ⟨Nat × (Nat → List FV), fun s => TilAt out s.2 ∧ out.length ≤ s.1, fun s => [(0, .slc 0 0 N capN), (1, .slc 1 0 bs.length cb), (3, .f (.int .i64 ((m + 1 : Nat) : Int))), (8, .f .nils), (9, .f (.bool false)), (10, .f (.int .i64 i)), (13, .slc 2 0 out.length s.1), (14, .f (.bool true))], fun s => [.rows N capN 2 f false, .rows bs.length cb 2 g false, .rows out.length s.1 2 s.2 true], ?_, ?_⟩
                · rcases m with _ | k
                  · rw [plc_zero] at hq
                    cases hq
                    simp (config := { maxSteps := 1000000 }) (disch := omega) only [go_sem, Int.reduceToNat, ↓reduceIte, Nat.reduceLT, Nat.reduceEqDiff, Nat.reduceAdd, Nat.reduceMul, Nat.reduceSub, Nat.reduceBEq, Nat.reduceLeDiff, reduceCtorEq, Nat.reduceLT, ↓Br_true, ↓Br_false, bind, pure, sc108, sb108, en, ei, e1]
                    repeat' (first | omega | (with_reducible refine And.intro ?_ ?_))
                    all_goals
                      refine Or.inr ⟨by omega, fun c1 hc1 => Or.inr ⟨by omega, by omega, fun c2 hc2 => ?_⟩⟩
                      (first | (refine callR (by rfl) (by rfl) (by rfl) (l03Put0_cv _ _ _ _ _ _ _ hc2) ?_; rintro _ _ ⟨rfl, rfl⟩) | (refine callM (by rfl) (by rfl) (by rfl) (l03Put0_cv _ _ _ _ _ _ _ hc2) ?_; rintro _ _ ⟨rfl, rfl⟩) | (refine callMo (by rfl) (by rfl) (by rfl) (l03Put0_cv _ _ _ _ _ _ _ hc2) ?_; rintro _ _ ⟨rfl, rfl⟩) | (refine callE (by rfl) (l03Put0_cv _ _ _ _ _ _ _ hc2) (by rfl) ?_))
                      simp (config := { maxSteps := 1000000 }) (disch := omega) only [go_sem, Int.reduceToNat, ↓reduceIte, Nat.reduceLT, Nat.reduceEqDiff, Nat.reduceAdd, Nat.reduceMul, Nat.reduceSub, Nat.reduceBEq, Nat.reduceLeDiff, reduceCtorEq, Nat.reduceLT, ↓Br_true, ↓Br_false, bind, pure, sc108, sb108]
                      exact ⟨(c2, catR (catR noRow 0 (shR g 0)) bs.length (shR (nthR [ [.int .i8 t.1, .int .i8 t.2] ]) 0)), ⟨(HB2 c2 hc2).row, by rw [el]; exact hc2⟩, by refine Or.inr ⟨[0, 1, 5], by rfl, ?_⟩; simp [Cov, covE, covH, cb_dead, cb_lit, cb_rows, cb_cells, cd_lit, cd_rows, cd_cells, cd_dead, covRow, look, SV.known, SV.bd, bdL, locE, locV, locH, hget, SV.lin, inL, SV.ren, idx, bk_ren_lit, bk_ren_rows, bk_ren_cells, renL, hb, hF, hc2, el] <;> omega⟩
                  · simp (config := { maxSteps := 1000000 }) (disch := omega) only [go_sem, Int.reduceToNat, ↓reduceIte, Nat.reduceLT, Nat.reduceEqDiff, Nat.reduceAdd, Nat.reduceMul, Nat.reduceSub, Nat.reduceBEq, Nat.reduceLeDiff, reduceCtorEq, Nat.reduceLT, ↓Br_true, ↓Br_false, bind, pure, sc108, sb108, en, ei, e1]
                    repeat' (first | omega | (with_reducible refine And.intro ?_ ?_))
                    all_goals
                      refine Or.inr ⟨by omega, fun c1 hc1 => Or.inr ⟨by omega, by omega, fun c2 hc2 => ?_⟩⟩
                      have cv := ih k (by omega) L (bs ++ [t]) (i + 1) N capN c2 f _ HL (HB2 c2 hc2) (by rw [el]; omega) (by omega)
                      rw [hq] at cv
                      simp only [spRes, el] at cv
                      have cc := cv; (first | refine callR (by rfl) (by rfl) (by rfl) cc ?_ | refine callM (by rfl) (by rfl) (by rfl) cc ?_ | refine callMo (by rfl) (by rfl) (by rfl) cc ?_ | refine callG (by rfl) (by rfl) (by rfl) cc ?_ | refine callW (by rfl) (by first | rfl | (simp [ofL, kpB, kpR, ofB, isOwnB, isDead, inL, hget]; done)) (by rfl) (by rfl) cc ?_); clear cc; rintro _ _ ⟨cap2, g2, h1, h2, rfl, rfl⟩
                      simp (config := { maxSteps := 1000000 }) (disch := omega) only [go_sem, Int.reduceToNat, ↓reduceIte, Nat.reduceLT, Nat.reduceEqDiff, Nat.reduceAdd, Nat.reduceMul, Nat.reduceSub, Nat.reduceBEq, Nat.reduceLeDiff, reduceCtorEq, Nat.reduceLT, ↓Br_true, ↓Br_false, bind, pure, sc108, sb108]
                      exact ⟨(cap2, g2), ⟨h1, h2⟩, by refine Or.inr ⟨[0, 1, 6], by rfl, ?_⟩; simp [Cov, covE, covH, cb_dead, cb_lit, cb_rows, cb_cells, cd_lit, cd_rows, cd_cells, cd_dead, covRow, look, SV.known, SV.bd, bdL, locE, locV, locH, hget, SV.lin, inL, SV.ren, idx, bk_ren_lit, bk_ren_rows, bk_ren_cells, renL, hb, hF, h2] <;> omega⟩
                · rintro ⟨c3, y⟩ ⟨h1, h2⟩
                  simp only at h1 h2
                  refine ⟨by simp, ?_⟩
                  simp (config := { maxSteps := 1000000 }) (disch := omega) only [go_sem, Int.reduceToNat, ↓reduceIte, Nat.reduceLT, Nat.reduceEqDiff, Nat.reduceAdd, Nat.reduceMul, Nat.reduceSub, Nat.reduceBEq, Nat.reduceLeDiff, reduceCtorEq, Nat.reduceLT, ↓Br_true, ↓Br_false, bind, pure, sc108, sb108, hr]
                  exact ⟨c3, y, h1, h2, rfl, rfl⟩
      · have hd : decide ((i : Int) < N) = false := decide_eq_false (by omega)
        obtain rfl : i = N := by omega
        simp (config := { maxSteps := 1000000 }) (disch := omega) only [go_sem, Int.reduceToNat, ↓reduceIte, Nat.reduceLT, Nat.reduceEqDiff, Nat.reduceAdd, Nat.reduceMul, Nat.reduceSub, Nat.reduceBEq, Nat.reduceLeDiff, reduceCtorEq, Nat.reduceLT, ↓Br_true, ↓Br_false, bind, pure, sc108, sb108, hd]
        rw [List.drop_of_length_le (by omega)] at hp
        rw [← hp]
        exact ⟨rfl, rfl⟩
end Go.Proofs.Ytdncopphjamilaa.Vx
