/- Rooms, in the abstract: seats for people: the program's side. -/
import Derived.Test.YtdncopphjamilaaRsp
namespace Go.Proofs.Ytdncopphjamilaa.Vx
open Go Go.RowKit Fl
set_option maxRecDepth 100000
set_option maxHeartbeats 2000000
set_option linter.unusedSimpArgs false
set_option linter.unusedVariables false

theorem best_bd {B : Nat → Int} {m l p : Nat} {T : Int} (k : Nat) (hk : k ≤ m) : 0 ≤ bestK (fun i => sS B m l (p + 1) (tkS T i)) (okS B T p) (sS B m l (p + 1) T) k ∧ bestK (fun i => sS B m l (p + 1) (tkS T i)) (okS B T p) (sS B m l (p + 1) T) k ≤ l + 1 := by
  obtain ⟨h1, h2, h3⟩ := best_ge (fun i => sS B m l (p + 1) (tkS T i)) (okS B T p) (sS B m l (p + 1) T) k
  have a := sS_le B m l (p + 1) T
  refine ⟨by omega, ?_⟩
  rcases h3 with h | ⟨i, _, _, h⟩
  · omega
  · have b := sS_le B m l (p + 1) (tkS T i)
    omega
theorem seats_cv (B : Nat → Int) (m capb : Nat) (z : Nat → List FV) (hz : BitsAt B m z) (hm : m ≤ capb) (hm8 : m ≤ 8) (q : Nat) (hq : q ≤ 8) : ∀ (l p : Nat) (T : Int), p + l = q →
    CV Try.prog 76 [.slc 0 0 m capb, .f (.int .i64 q), .f (.int .i64 p), .f (.int .u16 T)] [.rows m capb 1 z false] (fun v h => v = .f (.int .i64 (sS B m l p T)) ∧ h = [.rows m capb 1 z false])
  | 0, p, T, h => by
    have hd : decide ((p : Int) = q) = true := decide_eq_true (by omega)
    refine cv_of_run 1000 sc76 sb76 54 [.tmp 8] tabOk (by kernel_rfl) Try.func76 rfl (by kernel_rfl) Try.ntmps76 rfl (by simp) rfl (by simp [bdL, SV.bd]) ?_
    simp (config := { maxSteps := 1000000 }) (disch := omega) only [go_sem, Int.reduceToNat, ↓reduceIte, Nat.reduceLT, Nat.reduceEqDiff, Nat.reduceAdd, Nat.reduceMul, Nat.reduceSub, Nat.reduceBEq, Nat.reduceLeDiff, reduceCtorEq, Nat.reduceLT, ↓Br_true, ↓Br_false, bind, pure, sc76, sb76, hd]
    simp [sS]
  | l + 1, p, T, h => by
    have hd : decide ((p : Int) = q) = false := decide_eq_false (by omega)
    have ep : (p : Int) + 1 = ((p + 1 : Nat) : Int) := by omega
    have ih := fun T => seats_cv B m capb z hz hm hm8 q hq l (p + 1) T (by omega)
    have hS : sS B m (l + 1) p T = bestK (fun i => sS B m l (p + 1) (tkS T i)) (okS B T p) (sS B m l (p + 1) T) m := rfl
    rw [hS]
    have bb := fun k hk => best_bd (B := B) (m := m) (l := l) (p := p) (T := T) k hk
    have bS := fun k => sS_le B m l (p + 1) (tkS T k)
    have eS := fun k => show bestK (fun i => sS B m l (p + 1) (tkS T i)) (okS B T p) (sS B m l (p + 1) T) (k + 1) = if okS B T p k then mxI (bestK (fun i => sS B m l (p + 1) (tkS T i)) (okS B T p) (sS B m l (p + 1) T) k) (1 + sS B m l (p + 1) (tkS T k)) else bestK (fun i => sS B m l (p + 1) (tkS T i)) (okS B T p) (sS B m l (p + 1) T) k from rfl
    have e0 : sS B m l (p + 1) T = bestK (fun i => sS B m l (p + 1) (tkS T i)) (okS B T p) (sS B m l (p + 1) T) 0 := rfl
    refine cv_of_run 1000 sc76 sb76 54 [.tmp 8] tabOk (by kernel_rfl) Try.func76 rfl (by kernel_rfl) Try.ntmps76 rfl (by simp) rfl (by simp [bdL, SV.bd]) ?_
    simp (config := { maxSteps := 1000000 }) (disch := omega) only [go_sem, Int.reduceToNat, ↓reduceIte, Nat.reduceLT, Nat.reduceEqDiff, Nat.reduceAdd, Nat.reduceMul, Nat.reduceSub, Nat.reduceBEq, Nat.reduceLeDiff, reduceCtorEq, Nat.reduceLT, ↓Br_true, ↓Br_false, bind, pure, sc76, sb76, hd, ep]
    (have cc := ih T; (first | ((first | refine callR (by rfl) (by rfl) (by rfl) cc ?_ | refine callM (by rfl) (by rfl) (by rfl) cc ?_ | refine callMo (by rfl) (by rfl) (by rfl) cc ?_); clear cc; rintro _ _ ⟨rfl, rfl⟩) | (refine callE (by rfl) cc (by rfl) ?_; clear cc)))
    simp (config := { maxSteps := 1000000 }) (disch := omega) only [go_sem, Int.reduceToNat, ↓reduceIte, Nat.reduceLT, Nat.reduceEqDiff, Nat.reduceAdd, Nat.reduceMul, Nat.reduceSub, Nat.reduceBEq, Nat.reduceLeDiff, reduceCtorEq, Nat.reduceLT, ↓Br_true, ↓Br_false, bind, pure, sc76, sb76, hd, ep]
    generalize bestK (fun i => sS B m l (p + 1) (tkS T i)) (okS B T p) (sS B m l (p + 1) T) = W at *
    refine ⟨Nat, fun i => i ≤ m, fun i => m - i, fun i => [(0, .slc 0 0 m capb), (1, .f (.int .i64 q)), (2, .f (.int .i64 p)), (3, .f (.int .u16 T)), (8, .f (.int .i64 0)), (9, .f (.int .i64 (W i))), (21, .slc 0 0 m capb), (22, .f (.int .i64 m)), (23, .f (.int .i64 i))], fun _ => [.rows m capb 1 z false], 0, (by intro _; simp), ?_, (by (try refine Or.inl ?_); simp [Cov, covE, covH, cb_dead, cb_lit, cb_rows, cb_cells, cd_lit, cd_rows, cd_cells, cd_dead, covRow, look, SV.known, SV.bd, bdL, hm, e0] <;> omega), ?_⟩
    · omega
    · intro i hi
      by_cases hlt : i < m
      · have hd2 : decide ((i : Int) < m) = true := decide_eq_true (by omega)
        have e1 := hz i hlt
        have b1 := bb i hi
        have b2 := bS i
        have en := eS i
        cases c1 : decide (bitI .and .u16 (shrI .u16 T i) 1 = 0)
        · rw [show okS B T p i = false by rw [okS, c1]; rfl] at en
          simp (config := { maxSteps := 1000000 }) (disch := omega) only [go_sem, Int.reduceToNat, ↓reduceIte, Nat.reduceLT, Nat.reduceEqDiff, Nat.reduceAdd, Nat.reduceMul, Nat.reduceSub, Nat.reduceBEq, Nat.reduceLeDiff, reduceCtorEq, Nat.reduceLT, ↓Br_true, ↓Br_false, bind, pure, sc76, sb76, hd2, e1, c1]
          repeat' (first | (with_reducible refine And.intro (by first | (unfold SOk; kernel_rfl) | (unfold SBOk; kernel_rfl) | (with_reducible assumption) | omega | assumption) ?_) | (with_reducible refine Br_intro (fun hc => ?_) (fun hc => ?_)) | ((with_reducible show WidN _ _ _ _ _ _ _ _); (first | refine widL (by decide) (by with_reducible assumption) ?_ | refine widL (by decide) (FWok_nn (by with_reducible assumption)) ?_ | refine widN (by decide) (fun c hc => ?_)); simp (config := { maxSteps := 1000000 }) (disch := omega) only [go_sem, Int.reduceToNat, ↓reduceIte, Nat.reduceLT, Nat.reduceEqDiff, Nat.reduceAdd, Nat.reduceMul, Nat.reduceSub, Nat.reduceBEq, Nat.reduceLeDiff, reduceCtorEq, Nat.reduceLT, ↓Br_true, ↓Br_false, bind, pure, sc76, sb76, hd2, e1, c1]))
          exact ⟨i + 1, by omega, by omega, by (try refine Or.inl ?_); simp [Cov, covE, covH, cb_dead, cb_lit, cb_rows, cb_cells, cd_lit, cd_rows, cd_cells, cd_dead, covRow, look, SV.known, SV.bd, bdL, hm, en] <;> omega⟩
        · cases c2 : decide (bitI .and .u16 (shrI .u16 (B i) p) 1 = 1)
          · rw [show okS B T p i = false by rw [okS, c1, c2]; rfl] at en
            simp (config := { maxSteps := 1000000 }) (disch := omega) only [go_sem, Int.reduceToNat, ↓reduceIte, Nat.reduceLT, Nat.reduceEqDiff, Nat.reduceAdd, Nat.reduceMul, Nat.reduceSub, Nat.reduceBEq, Nat.reduceLeDiff, reduceCtorEq, Nat.reduceLT, ↓Br_true, ↓Br_false, bind, pure, sc76, sb76, hd2, e1, c1, c2]
            repeat' (first | (with_reducible refine And.intro (by first | (unfold SOk; kernel_rfl) | (unfold SBOk; kernel_rfl) | (with_reducible assumption) | omega | assumption) ?_) | (with_reducible refine Br_intro (fun hc => ?_) (fun hc => ?_)) | ((with_reducible show WidN _ _ _ _ _ _ _ _); (first | refine widL (by decide) (by with_reducible assumption) ?_ | refine widL (by decide) (FWok_nn (by with_reducible assumption)) ?_ | refine widN (by decide) (fun c hc => ?_)); simp (config := { maxSteps := 1000000 }) (disch := omega) only [go_sem, Int.reduceToNat, ↓reduceIte, Nat.reduceLT, Nat.reduceEqDiff, Nat.reduceAdd, Nat.reduceMul, Nat.reduceSub, Nat.reduceBEq, Nat.reduceLeDiff, reduceCtorEq, Nat.reduceLT, ↓Br_true, ↓Br_false, bind, pure, sc76, sb76, hd2, e1, c1, c2]))
            exact ⟨i + 1, by omega, by omega, by (try refine Or.inl ?_); simp [Cov, covE, covH, cb_dead, cb_lit, cb_rows, cb_cells, cd_lit, cd_rows, cd_cells, cd_dead, covRow, look, SV.known, SV.bd, bdL, hm, en] <;> omega⟩
          · rw [show okS B T p i = true by rw [okS, c1, c2]; rfl, if_pos rfl] at en
            have cc := ih (tkS T i)
            unfold tkS at cc b2 en
            simp (config := { maxSteps := 1000000 }) (disch := omega) only [go_sem, Int.reduceToNat, ↓reduceIte, Nat.reduceLT, Nat.reduceEqDiff, Nat.reduceAdd, Nat.reduceMul, Nat.reduceSub, Nat.reduceBEq, Nat.reduceLeDiff, reduceCtorEq, Nat.reduceLT, ↓Br_true, ↓Br_false, bind, pure, sc76, sb76, hd2, e1, c1, c2, ep]
            repeat' (first | (with_reducible refine And.intro (by first | (unfold SOk; kernel_rfl) | (unfold SBOk; kernel_rfl) | (with_reducible assumption) | omega | assumption) ?_) | (with_reducible refine Br_intro (fun hc => ?_) (fun hc => ?_)) | ((have cc := cc; (first | ((first | refine callR (by rfl) (by rfl) (by rfl) cc ?_ | refine callM (by rfl) (by rfl) (by rfl) cc ?_ | refine callMo (by rfl) (by rfl) (by rfl) cc ?_); clear cc; rintro _ _ ⟨rfl, rfl⟩) | (refine callE (by rfl) cc (by rfl) ?_; clear cc))); simp (config := { maxSteps := 1000000 }) (disch := omega) only [go_sem, Int.reduceToNat, ↓reduceIte, Nat.reduceLT, Nat.reduceEqDiff, Nat.reduceAdd, Nat.reduceMul, Nat.reduceSub, Nat.reduceBEq, Nat.reduceLeDiff, reduceCtorEq, Nat.reduceLT, ↓Br_true, ↓Br_false, bind, pure, sc76, sb76, hd2, e1, c1, c2, ep]) | ((with_reducible show WidN _ _ _ _ _ _ _ _); (first | refine widL (by decide) (by with_reducible assumption) ?_ | refine widL (by decide) (FWok_nn (by with_reducible assumption)) ?_ | refine widN (by decide) (fun c hc => ?_)); simp (config := { maxSteps := 1000000 }) (disch := omega) only [go_sem, Int.reduceToNat, ↓reduceIte, Nat.reduceLT, Nat.reduceEqDiff, Nat.reduceAdd, Nat.reduceMul, Nat.reduceSub, Nat.reduceBEq, Nat.reduceLeDiff, reduceCtorEq, Nat.reduceLT, ↓Br_true, ↓Br_false, bind, pure, sc76, sb76, hd2, e1, c1, c2, ep]))
            exact ⟨i + 1, by omega, by omega, by (try refine Or.inl ?_); simp [Cov, covE, covH, cb_dead, cb_lit, cb_rows, cb_cells, cd_lit, cd_rows, cd_cells, cd_dead, covRow, look, SV.known, SV.bd, bdL, hm, en] <;> omega⟩
      · have hd2 : decide ((i : Int) < m) = false := decide_eq_false (by omega)
        simp (config := { maxSteps := 1000000 }) (disch := omega) only [go_sem, Int.reduceToNat, ↓reduceIte, Nat.reduceLT, Nat.reduceEqDiff, Nat.reduceAdd, Nat.reduceMul, Nat.reduceSub, Nat.reduceBEq, Nat.reduceLeDiff, reduceCtorEq, Nat.reduceLT, ↓Br_true, ↓Br_false, bind, pure, sc76, sb76, hd2]
        obtain rfl : i = m := by omega
        rfl
/-- The whole numbers of a list lie in a block. -/
def IntAt (L : List Int) (f : Nat → List FV) : Prop := ∀ i, i < L.length → f i = [.int .i64 (L.getD i 0)]
theorem IntAt.push {L : List Int} {f : Nat → List FV} (h : IntAt L f) (x : Int) : IntAt (L ++ [x]) (catR f L.length (shR (nthR [ [.int .i64 x] ]) 0)) := fun i hi => by
  simp only [List.length_append, List.length_singleton] at hi
  unfold catR
  by_cases c : i < L.length
  · rw [if_pos c, h i c]
    simp only [List.getD_eq_getElem?_getD, List.getElem?_append_left c]
  · obtain rfl : i = L.length := by omega
    rw [if_neg c]
    simp [shR, nthR]
theorem SeatPeople_cv (r : Rom) (us : Nat → Win) (ds : Nat → Dsk) (ps : Nat → Psn) (n cap m capm q capq : Nat) (f g u : Nat → List FV) (H : RomH r us n cap f) (D : DskH ds m capm g) (P : PsnH ps q capq u) (ha : sbC r us n ds ps m q = 0) :
    CV Try.prog 13 [romV r n cap, .slc 1 0 m capm, .slc 2 0 q capq] [.rows n cap 3 f false, .rows m capm 3 g false, .rows q capq 3 u false] (fun v h => ∃ cap' z, IntAt (gr (fun j => sbI r us n ps (ds j) q) m q 0 0) z ∧ q ≤ cap' ∧ v = .tup [.slc 3 0 q cap', .f (.int .i64 (sS (fun j => sbI r us n ps (ds j) q) m q 0 0)), .f (.int .i64 0)] ∧ h = [.rows n cap 3 f false, .rows m capm 3 g false, .rows q capq 3 u false, .rows q cap' 1 z true]) := by
  have hcap := H.hcap
  obtain ⟨hP, hA, h8, hq8⟩ := pplC_zero ha
  have cb := SuitBits_cv r us ds ps n cap m capm q capq f g u H D P ha
  obtain ⟨hg, hcm, hm, hs⟩ := D
  obtain ⟨hu, hcq, hq⟩ := P
  generalize (fun j => sbI r us n ps (ds j) q) = W at *
  refine cv_of_run 1000 sc13 sb13 89 [.tmp 6, .tmp 7, .tmp 8] tabOk (by kernel_rfl) Try.func13 rfl (by kernel_rfl) Try.ntmps13 rfl (by simp) rfl (by simp [bdL, SV.bd]) ?_
  simp (config := { maxSteps := 1000000 }) (disch := omega) only [go_sem, Int.reduceToNat, ↓reduceIte, Nat.reduceLT, Nat.reduceEqDiff, Nat.reduceAdd, Nat.reduceMul, Nat.reduceSub, Nat.reduceBEq, Nat.reduceLeDiff, reduceCtorEq, Nat.reduceLT, ↓Br_true, ↓Br_false, bind, pure, sc13, sb13]
  have cc := cb; (first | refine callR (by rfl) (by rfl) (by rfl) cc ?_ | refine callM (by rfl) (by rfl) (by rfl) cc ?_ | refine callMo (by rfl) (by rfl) (by rfl) cc ?_ | refine callG (by rfl) (by rfl) (by rfl) cc ?_ | refine callW (by rfl) (by first | rfl | (simp [ofL, kpB, kpR, ofB, isOwnB, isDead, inL, hget]; done)) (by rfl) (by rfl) cc ?_); clear cc; rintro _ _ ⟨z, hz, rfl, rfl⟩
  simp (config := { maxSteps := 1000000 }) (disch := omega) only [go_sem, Int.reduceToNat, ↓reduceIte, Nat.reduceLT, Nat.reduceEqDiff, Nat.reduceAdd, Nat.reduceMul, Nat.reduceSub, Nat.reduceBEq, Nat.reduceLeDiff, reduceCtorEq, Nat.reduceLT, ↓Br_true, ↓Br_false, bind, pure, sc13, sb13]
  have cs := seats_cv W m m z hz (Nat.le_refl m) h8 q hq8
  have c0 := cs q 0 0 (by omega)
  (have cc := c0; (first | ((first | refine callR (by rfl) (by rfl) (by rfl) cc ?_ | refine callM (by rfl) (by rfl) (by rfl) cc ?_ | refine callMo (by rfl) (by rfl) (by rfl) cc ?_); clear cc; rintro _ _ ⟨rfl, rfl⟩) | (refine callE (by rfl) cc (by rfl) ?_; clear cc)))
  simp (config := { maxSteps := 1000000 }) (disch := omega) only [go_sem, Int.reduceToNat, ↓reduceIte, Nat.reduceLT, Nat.reduceEqDiff, Nat.reduceAdd, Nat.reduceMul, Nat.reduceSub, Nat.reduceBEq, Nat.reduceLeDiff, reduceCtorEq, Nat.reduceLT, ↓Br_true, ↓Br_false, bind, pure, sc13, sb13]
  refine ⟨(Nat × Int × List Int × Nat × (Nat → List FV)), fun s => s.1 ≤ q ∧ s.2.2.1.length = s.1 ∧ s.2.2.1 ++ gr W m (q - s.1) s.1 s.2.1 = gr W m q 0 0 ∧ IntAt s.2.2.1 s.2.2.2.2 ∧ s.1 ≤ s.2.2.2.1, fun s => q - s.1, fun s => [(6, .f .nils), (7, .f (.int .i64 0)), (8, .f (.int .i64 0)), (9, .slc 4 0 m m), (11, .f (.int .i64 q)), (12, .slc 5 0 s.1 s.2.2.2.1), (13, .f (.int .u16 s.2.1)), (14, .f (.int .i64 (sS W m (q - s.1) s.1 s.2.1))), (15, .f (.int .i64 (sS W m q 0 0))), (37, .f (.int .i64 q)), (38, .f (.int .i64 s.1))], fun s => [.rows n cap 3 f false, .rows m capm 3 g false, .rows q capq 3 u false, .dead, .rows m m 1 z true, .rows s.1 s.2.2.2.1 1 s.2.2.2.2 true], (0, 0, [], 0, noRow), (by intro _; simp), ?_, (by (try refine Or.inl ?_); simp [Cov, covE, covH, cb_dead, cb_lit, cb_rows, cb_cells, cd_lit, cd_rows, cd_cells, cd_dead, covRow, look, SV.known, SV.bd, bdL, hcap, hcm, hcq, Nat.sub_zero] <;> omega), ?_⟩
  · exact ⟨by omega, rfl, rfl, fun i hi => by simp at hi, by omega⟩
  · rintro ⟨p, T, L, co, y⟩ ⟨hp, hL, hgr, hy, hc⟩
    simp only at hp hL hgr hy hc
    by_cases hlt : p < q
    · have hd : decide ((p : Int) < q) = true := decide_eq_true (by omega)
      obtain ⟨l, rfl⟩ : ∃ l, q = p + (l + 1) := ⟨q - p - 1, by omega⟩
      have ql : p + (l + 1) - p = l + 1 := by omega
      have ql2 : p + (l + 1) - (p + 1) = l := by omega
      rw [ql] at hgr
      have ep : (p : Int) + 1 = ((p + 1 : Nat) : Int) := by omega
      have bS := fun k => sS_le W m l (p + 1) (tkS T k)
      have bT := sS_le W m (l + 1) p T
      simp (config := { maxSteps := 1000000 }) (disch := omega) only [go_sem, Int.reduceToNat, ↓reduceIte, Nat.reduceLT, Nat.reduceEqDiff, Nat.reduceAdd, Nat.reduceMul, Nat.reduceSub, Nat.reduceBEq, Nat.reduceLeDiff, reduceCtorEq, Nat.reduceLT, ↓Br_true, ↓Br_false, bind, pure, sc13, sb13, hd, ql]
      refine ⟨Nat, fun i => i ≤ m ∧ ∀ j, j < i → grP W m l p T j = false, fun i => m - i, fun i => [(6, .f .nils), (7, .f (.int .i64 0)), (8, .f (.int .i64 0)), (9, .slc 4 0 m m), (11, .f (.int .i64 ((p + (l + 1) : Nat) : Int))), (12, .slc 5 0 p co), (13, .f (.int .u16 T)), (14, .f (.int .i64 (sS W m (l + 1) p T))), (15, .f (.int .i64 (sS W m (p + (l + 1)) 0 0))), (37, .f (.int .i64 ((p + (l + 1) : Nat) : Int))), (38, .f (.int .i64 p)), (16, .f (.int .i64 p)), (17, .f (.int .i64 (-1))), (41, .slc 4 0 m m), (42, .f (.int .i64 m)), (43, .f (.int .i64 i))], fun _ => [.rows n cap 3 f false, .rows m capm 3 g false, .rows (p + (l + 1)) capq 3 u false, .dead, .rows m m 1 z true, .rows p co 1 y true], 0, (by intro _; simp), ?_, (by (try refine Or.inl ?_); simp [Cov, covE, covH, cb_dead, cb_lit, cb_rows, cb_cells, cd_lit, cd_rows, cd_cells, cd_dead, covRow, look, SV.known, SV.bd, bdL, hcap, hcm, hcq, hc, ql] <;> omega), ?_⟩
      · exact ⟨by omega, fun j hj => by omega⟩
      · rintro i ⟨hi, hno⟩
        by_cases hit : i < m
        · have hd2 : decide ((i : Int) < m) = true := decide_eq_true (by omega)
          have e1 := hz i hit
          have b2 := bS i
          have nx : grP W m l p T i = false → ∀ j, j < i + 1 → grP W m l p T j = false := fun h j hj => by
            by_cases c : j < i
            · exact hno j c
            · obtain rfl : j = i := by omega
              exact h
          cases c1 : decide (bitI .and .u16 (shrI .u16 T i) 1 = 0)
          · simp (config := { maxSteps := 1000000 }) (disch := omega) only [go_sem, Int.reduceToNat, ↓reduceIte, Nat.reduceLT, Nat.reduceEqDiff, Nat.reduceAdd, Nat.reduceMul, Nat.reduceSub, Nat.reduceBEq, Nat.reduceLeDiff, reduceCtorEq, Nat.reduceLT, ↓Br_true, ↓Br_false, bind, pure, sc13, sb13, hd2, e1, c1]
            repeat' (first | (with_reducible refine And.intro (by first | (unfold SOk; kernel_rfl) | (unfold SBOk; kernel_rfl) | (with_reducible assumption) | omega | assumption) ?_) | (with_reducible refine Br_intro (fun hc => ?_) (fun hc => ?_)) | ((with_reducible show WidN _ _ _ _ _ _ _ _); (first | refine widL (by decide) (by with_reducible assumption) ?_ | refine widL (by decide) (FWok_nn (by with_reducible assumption)) ?_ | refine widN (by decide) (fun c hc => ?_)); simp (config := { maxSteps := 1000000 }) (disch := omega) only [go_sem, Int.reduceToNat, ↓reduceIte, Nat.reduceLT, Nat.reduceEqDiff, Nat.reduceAdd, Nat.reduceMul, Nat.reduceSub, Nat.reduceBEq, Nat.reduceLeDiff, reduceCtorEq, Nat.reduceLT, ↓Br_true, ↓Br_false, bind, pure, sc13, sb13, hd2, e1, c1]))
            exact ⟨i + 1, ⟨by omega, nx (by rw [grP, okS, c1]; rfl)⟩, by omega, by (try refine Or.inl ?_); simp [Cov, covE, covH, cb_dead, cb_lit, cb_rows, cb_cells, cd_lit, cd_rows, cd_cells, cd_dead, covRow, look, SV.known, SV.bd, bdL, hcap, hcm, hcq, hc] <;> omega⟩
          · cases c2 : decide (bitI .and .u16 (shrI .u16 (W i) p) 1 = 1)
            · simp (config := { maxSteps := 1000000 }) (disch := omega) only [go_sem, Int.reduceToNat, ↓reduceIte, Nat.reduceLT, Nat.reduceEqDiff, Nat.reduceAdd, Nat.reduceMul, Nat.reduceSub, Nat.reduceBEq, Nat.reduceLeDiff, reduceCtorEq, Nat.reduceLT, ↓Br_true, ↓Br_false, bind, pure, sc13, sb13, hd2, e1, c1, c2]
              repeat' (first | (with_reducible refine And.intro (by first | (unfold SOk; kernel_rfl) | (unfold SBOk; kernel_rfl) | (with_reducible assumption) | omega | assumption) ?_) | (with_reducible refine Br_intro (fun hc => ?_) (fun hc => ?_)) | ((with_reducible show WidN _ _ _ _ _ _ _ _); (first | refine widL (by decide) (by with_reducible assumption) ?_ | refine widL (by decide) (FWok_nn (by with_reducible assumption)) ?_ | refine widN (by decide) (fun c hc => ?_)); simp (config := { maxSteps := 1000000 }) (disch := omega) only [go_sem, Int.reduceToNat, ↓reduceIte, Nat.reduceLT, Nat.reduceEqDiff, Nat.reduceAdd, Nat.reduceMul, Nat.reduceSub, Nat.reduceBEq, Nat.reduceLeDiff, reduceCtorEq, Nat.reduceLT, ↓Br_true, ↓Br_false, bind, pure, sc13, sb13, hd2, e1, c1, c2]))
              exact ⟨i + 1, ⟨by omega, nx (by rw [grP, okS, c1, c2]; rfl)⟩, by omega, by (try refine Or.inl ?_); simp [Cov, covE, covH, cb_dead, cb_lit, cb_rows, cb_cells, cd_lit, cd_rows, cd_cells, cd_dead, covRow, look, SV.known, SV.bd, bdL, hcap, hcm, hcq, hc] <;> omega⟩
            · have cc := cs l (p + 1) (tkS T i) (by omega)
              cases c3 : decide (1 + sS W m l (p + 1) (tkS T i) = sS W m (l + 1) p T)
              · have hgf : grP W m l p T i = false := by rw [grP, c3, Bool.and_false]
                unfold tkS at cc b2 c3
                simp (config := { maxSteps := 1000000 }) (disch := omega) only [go_sem, Int.reduceToNat, ↓reduceIte, Nat.reduceLT, Nat.reduceEqDiff, Nat.reduceAdd, Nat.reduceMul, Nat.reduceSub, Nat.reduceBEq, Nat.reduceLeDiff, reduceCtorEq, Nat.reduceLT, ↓Br_true, ↓Br_false, bind, pure, sc13, sb13, hd2, e1, c1, c2, ep]
                repeat' (first | (with_reducible refine And.intro (by first | (unfold SOk; kernel_rfl) | (unfold SBOk; kernel_rfl) | (with_reducible assumption) | omega | assumption) ?_) | (with_reducible refine Br_intro (fun hc => ?_) (fun hc => ?_)) | ((have cc := cc; (first | ((first | refine callR (by rfl) (by rfl) (by rfl) cc ?_ | refine callM (by rfl) (by rfl) (by rfl) cc ?_ | refine callMo (by rfl) (by rfl) (by rfl) cc ?_); clear cc; rintro _ _ ⟨rfl, rfl⟩) | (refine callE (by rfl) cc (by rfl) ?_; clear cc))); simp (config := { maxSteps := 1000000 }) (disch := omega) only [go_sem, Int.reduceToNat, ↓reduceIte, Nat.reduceLT, Nat.reduceEqDiff, Nat.reduceAdd, Nat.reduceMul, Nat.reduceSub, Nat.reduceBEq, Nat.reduceLeDiff, reduceCtorEq, Nat.reduceLT, ↓Br_true, ↓Br_false, bind, pure, sc13, sb13, hd2, e1, c1, c2, ep, c3]) | ((with_reducible show WidN _ _ _ _ _ _ _ _); (first | refine widL (by decide) (by with_reducible assumption) ?_ | refine widL (by decide) (FWok_nn (by with_reducible assumption)) ?_ | refine widN (by decide) (fun c hc => ?_)); simp (config := { maxSteps := 1000000 }) (disch := omega) only [go_sem, Int.reduceToNat, ↓reduceIte, Nat.reduceLT, Nat.reduceEqDiff, Nat.reduceAdd, Nat.reduceMul, Nat.reduceSub, Nat.reduceBEq, Nat.reduceLeDiff, reduceCtorEq, Nat.reduceLT, ↓Br_true, ↓Br_false, bind, pure, sc13, sb13, hd2, e1, c1, c2, ep, c3]))
                exact ⟨i + 1, ⟨by omega, nx hgf⟩, by omega, by (try refine Or.inl ?_); simp [Cov, covE, covH, cb_dead, cb_lit, cb_rows, cb_cells, cd_lit, cd_rows, cd_cells, cd_dead, covRow, look, SV.known, SV.bd, bdL, hcap, hcm, hcq, hc] <;> omega⟩
              · have hgt : grP W m l p T i = true := by rw [grP, okS, c1, c2, c3]; rfl
                have hf := fi_of_some hgt hno hit
                have h3 := of_decide_eq_true c3
                have el : sS W m (l + 1) p T - 1 = sS W m l (p + 1) (tkS T i) := by omega
                rw [gr, hf] at hgr
                have hst : bitI .or .u16 T (shlI .u16 1 i) = tkS T i := rfl
                unfold tkS at cc b2 c3
                simp (config := { maxSteps := 1000000 }) (disch := omega) only [go_sem, Int.reduceToNat, ↓reduceIte, Nat.reduceLT, Nat.reduceEqDiff, Nat.reduceAdd, Nat.reduceMul, Nat.reduceSub, Nat.reduceBEq, Nat.reduceLeDiff, reduceCtorEq, Nat.reduceLT, ↓Br_true, ↓Br_false, bind, pure, sc13, sb13, hd2, e1, c1, c2, ep]
                repeat' (first | (with_reducible refine And.intro (by first | (unfold SOk; kernel_rfl) | (unfold SBOk; kernel_rfl) | (with_reducible assumption) | omega | assumption) ?_) | (with_reducible refine Br_intro (fun hc => ?_) (fun hc => ?_)) | ((have cc := cc; (first | ((first | refine callR (by rfl) (by rfl) (by rfl) cc ?_ | refine callM (by rfl) (by rfl) (by rfl) cc ?_ | refine callMo (by rfl) (by rfl) (by rfl) cc ?_); clear cc; rintro _ _ ⟨rfl, rfl⟩) | (refine callE (by rfl) cc (by rfl) ?_; clear cc))); simp (config := { maxSteps := 1000000 }) (disch := omega) only [go_sem, Int.reduceToNat, ↓reduceIte, Nat.reduceLT, Nat.reduceEqDiff, Nat.reduceAdd, Nat.reduceMul, Nat.reduceSub, Nat.reduceBEq, Nat.reduceLeDiff, reduceCtorEq, Nat.reduceLT, ↓Br_true, ↓Br_false, bind, pure, sc13, sb13, hd2, e1, c1, c2, ep, c3]) | ((with_reducible show WidN _ _ _ _ _ _ _ _); (first | refine widL (by decide) (by with_reducible assumption) ?_ | refine widL (by decide) (FWok_nn (by with_reducible assumption)) ?_ | refine widN (by decide) (fun c hc => ?_)); simp (config := { maxSteps := 1000000 }) (disch := omega) only [go_sem, Int.reduceToNat, ↓reduceIte, Nat.reduceLT, Nat.reduceEqDiff, Nat.reduceAdd, Nat.reduceMul, Nat.reduceSub, Nat.reduceBEq, Nat.reduceLeDiff, reduceCtorEq, Nat.reduceLT, ↓Br_true, ↓Br_false, bind, pure, sc13, sb13, hd2, e1, c1, c2, ep, c3]))
                refine Or.inr (Or.inl ⟨⟨rfl, Nat.le_refl _⟩, fun c' hc' => ?_⟩)
                simp (config := { maxSteps := 1000000 }) (disch := omega) only [go_sem, Int.reduceToNat, ↓reduceIte, Nat.reduceLT, Nat.reduceEqDiff, Nat.reduceAdd, Nat.reduceMul, Nat.reduceSub, Nat.reduceBEq, Nat.reduceLeDiff, reduceCtorEq, Nat.reduceLT, ↓Br_true, ↓Br_false, bind, pure, sc13, sb13, hst]
                refine ⟨(p + 1, tkS T i, L ++ [(i : Int)], c', catR y p (shR (nthR [ [.int .i64 (i : Int)] ]) 0)), ⟨by omega, by simp [hL], ?_, ?_, by simpa using hc'⟩, by omega, ?_⟩
                · rw [ql2, ← hgr]; simp
                · have := hy.push (i : Int); rw [hL] at this; exact this
                · refine Or.inr ⟨[0, 1, 2, 3, 4, 7], by rfl, ?_⟩; simp [Cov, covE, covH, cb_dead, cb_lit, cb_rows, cb_cells, cd_lit, cd_rows, cd_cells, cd_dead, covRow, look, SV.known, SV.bd, bdL, locE, locV, locH, hget, SV.lin, inL, SV.ren, idx, bk_ren_lit, bk_ren_rows, bk_ren_cells, renL, hc', hcap, hcm, hcq, ql2, el] <;> omega
        · have hd2 : decide ((i : Int) < m) = false := decide_eq_false (by omega)
          obtain rfl : i = m := by omega
          have hf := fi_of_none hno
          rw [gr, hf] at hgr
          have el : sS W i (l + 1) p T = sS W i l (p + 1) T := by
            obtain ⟨_, _, h3⟩ := best_ge (fun k => sS W i l (p + 1) (tkS T k)) (okS W T p) (sS W i l (p + 1) T) i
            rcases h3 with h3 | ⟨j, hj, ho, h3⟩
            · exact h3
            · have := hno j hj
              rw [grP, ho, Bool.true_and] at this
              exact absurd h3.symm (of_decide_eq_false this)
          simp (config := { maxSteps := 1000000 }) (disch := omega) only [go_sem, Int.reduceToNat, ↓reduceIte, Nat.reduceLT, Nat.reduceEqDiff, Nat.reduceAdd, Nat.reduceMul, Nat.reduceSub, Nat.reduceBEq, Nat.reduceLeDiff, reduceCtorEq, Nat.reduceLT, ↓Br_true, ↓Br_false, bind, pure, sc13, sb13, hd2]
          repeat' (first | (with_reducible refine And.intro (by first | (unfold SOk; kernel_rfl) | (unfold SBOk; kernel_rfl) | (with_reducible assumption) | omega | assumption) ?_) | (with_reducible refine Br_intro (fun hc => ?_) (fun hc => ?_)) | ((with_reducible show WidN _ _ _ _ _ _ _ _); (first | refine widL (by decide) (by with_reducible assumption) ?_ | refine widL (by decide) (FWok_nn (by with_reducible assumption)) ?_ | refine widN (by decide) (fun c hc => ?_)); simp (config := { maxSteps := 1000000 }) (disch := omega) only [go_sem, Int.reduceToNat, ↓reduceIte, Nat.reduceLT, Nat.reduceEqDiff, Nat.reduceAdd, Nat.reduceMul, Nat.reduceSub, Nat.reduceBEq, Nat.reduceLeDiff, reduceCtorEq, Nat.reduceLT, ↓Br_true, ↓Br_false, bind, pure, sc13, sb13]))
          refine Or.inr (Or.inl ⟨⟨rfl, Nat.le_refl _⟩, fun c' hc' => ?_⟩)
          simp (config := { maxSteps := 1000000 }) (disch := omega) only [go_sem, Int.reduceToNat, ↓reduceIte, Nat.reduceLT, Nat.reduceEqDiff, Nat.reduceAdd, Nat.reduceMul, Nat.reduceSub, Nat.reduceBEq, Nat.reduceLeDiff, reduceCtorEq, Nat.reduceLT, ↓Br_true, ↓Br_false, bind, pure, sc13, sb13]
          refine ⟨(p + 1, T, L ++ [-1], c', catR y p (shR (nthR [ [.int .i64 (-1)] ]) 0)), ⟨by omega, by simp [hL], ?_, ?_, by simpa using hc'⟩, by omega, ?_⟩
          · rw [ql2, ← hgr]; simp
          · have := hy.push (-1); rw [hL] at this; exact this
          · refine Or.inr ⟨[0, 1, 2, 3, 4, 7], by rfl, ?_⟩; simp [Cov, covE, covH, cb_dead, cb_lit, cb_rows, cb_cells, cd_lit, cd_rows, cd_cells, cd_dead, covRow, look, SV.known, SV.bd, bdL, locE, locV, locH, hget, SV.lin, inL, SV.ren, idx, bk_ren_lit, bk_ren_rows, bk_ren_cells, renL, hc', hcap, hcm, hcq, ql2, el] <;> omega
    · have hd : decide ((p : Int) < q) = false := decide_eq_false (by omega)
      obtain rfl : p = q := by omega
      rw [Nat.sub_self, gr, List.append_nil] at hgr
      subst hgr
      simp (config := { maxSteps := 1000000 }) (disch := omega) only [go_sem, Int.reduceToNat, ↓reduceIte, Nat.reduceLT, Nat.reduceEqDiff, Nat.reduceAdd, Nat.reduceMul, Nat.reduceSub, Nat.reduceBEq, Nat.reduceLeDiff, reduceCtorEq, Nat.reduceLT, ↓Br_true, ↓Br_false, bind, pure, sc13, sb13, hd]
      exact ⟨co, y, hy, hc, rfl, rfl⟩
end Go.Proofs.Ytdncopphjamilaa.Vx
