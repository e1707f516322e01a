/- Rooms, in the abstract: seats for people: the reference's search. -/
import Derived.Test.YtdncopphjamilaaRse
namespace Go.Proofs.Ytdncopphjamilaa.Vx
open Go Go.RowKit Fl
set_option maxRecDepth 100000
set_option maxHeartbeats 4000000
set_option linter.unusedSimpArgs false
set_option linter.unusedVariables false

abbrev wkB (lb m capb q nb capB : Nat) (M : Int) : Blk := .lit [.slc 2 0 m capb, .f (.int .i64 q), .slc lb 0 nb capB, .f (.int .i64 M)] true
/-- The search's block and the best seats behind a loop: unchanged, or changed. -/
def frW (m capb q nb capB : Nat) (M : Int) (M2 : Nat → Int) : Nat → Option (Nat × (Nat → List FV)) → Blk
  | _, none => wkB 3 m capb q nb capB M
  | k, some s => wkB 4 m capb q q s.1 (M2 k)
def frE (q : Nat) : Option (Nat × (Nat → List FV)) → List Blk
  | none => []
  | some s => [.rows q s.1 1 s.2 true]
def frI (q : Nat) (K : Nat → List Int × Int) (M : Int) : Nat → Option (Nat × (Nat → List FV)) → Prop
  | k, none => K k = ([], M)
  | k, some w => IntAt (K k).1 w.2 ∧ (K k).1.length = q ∧ q ≤ w.1 ∧ M < (K k).2
theorem fin_ch {V W M : Int} {G L : List Int} (h : (L, W) = if M < V then (G, V) else ([], M)) (hw : M < W) : M < V ∧ L = G ∧ W = V := by
  by_cases c : M < V
  · rw [if_pos c] at h
    cases h
    exact ⟨c, rfl, rfl⟩
  · rw [if_neg c] at h
    cases h
    omega
theorem fin_un {V M : Int} {G : List Int} (h : (([], M) : List Int × Int) = if M < V then (G, V) else ([], M)) : ¬ M < V := by
  intro c
  rw [if_pos c] at h
  cases h
  omega
theorem seatsFrom_cv (B : Nat → Int) (m capb : Nat) (z : Nat → List FV) (hz : BitsAt B m z) (hm : m ≤ capb) (hm8 : m ≤ 8) (q : Nat) (hq : q ≤ 8) : ∀ (l p : Nat) (T c : Int) (sl : List Int) (capS : Nat) (sg : Nat → List FV) (nb capB : Nat) (bg : Nat → List FV) (M : Int), p + l = q → sl.length = p → IntAt sl sg → p ≤ capS → nb ≤ capB → 0 ≤ c → c ≤ p →
    CV Try.prog 72 [.ptr 0 0 0, .slc 1 0 p capS, .f (.int .u16 T), .f (.int .i64 c)] [wkB 3 m capb q nb capB M, .rows p capS 1 sg true, .rows m capb 1 z true, .rows nb capB 1 bg true]
      (fun v h => v = .tup [] ∧ if M < c + sS B m l p T then ∃ cap' g', IntAt (sl ++ gr B m l p T) g' ∧ q ≤ cap' ∧ h = [wkB 4 m capb q q cap' (c + sS B m l p T), .rows p capS 1 sg true, .rows m capb 1 z true, .rows nb capB 1 bg true, .rows q cap' 1 g' true] else h = [wkB 3 m capb q nb capB M, .rows p capS 1 sg true, .rows m capb 1 z true, .rows nb capB 1 bg true])
  | 0, p, T, c, sl, capS, sg, nb, capB, bg, M, hp, hL, hs, hcS, hcB, hc0, hc1 => by
    obtain rfl : p = q := by omega
    have e0 : (p : Int) - p = 0 := by omega
    have ez : catR noRow 0 (shR sg 0) = sg := by funext x; simp [catR, shR]
    simp only [sS, gr, Int.add_zero, List.append_nil]
    by_cases hM : c ≤ M
    · have hd : decide (c ≤ M) = true := decide_eq_true hM
      have hnM : ¬ M < c := by omega
      refine cv_of_run 1000 sc72 sb72 93 [] tabOk (by kernel_rfl) Try.func72 rfl (by kernel_rfl) Try.ntmps72 rfl (by simp) rfl (by simp [bdL, SV.bd]) ?_
      simp (config := { maxSteps := 1000000 }) (disch := omega) only [go_sem, Int.reduceToNat, ↓reduceIte, Nat.reduceLT, Nat.reduceEqDiff, Nat.reduceAdd, Nat.reduceMul, Nat.reduceSub, Nat.reduceBEq, Nat.reduceLeDiff, reduceCtorEq, Nat.reduceLT, ↓Br_true, ↓Br_false, bind, pure, sc72, sb72, e0, Int.add_zero, hd]
      simp [hnM]
    · have hd : decide (c ≤ M) = false := decide_eq_false hM
      have hnM : M < c := by omega
      have hd0 : decide ((0 : Int) = 0) = true := by decide
      refine cv_of_run 1000 sc72 sb72 93 [] tabOk (by kernel_rfl) Try.func72 rfl (by kernel_rfl) Try.ntmps72 rfl (by simp) rfl (by simp [bdL, SV.bd]) ?_
      simp (config := { maxSteps := 1000000 }) (disch := omega) only [go_sem, Int.reduceToNat, ↓reduceIte, Nat.reduceLT, Nat.reduceEqDiff, Nat.reduceAdd, Nat.reduceMul, Nat.reduceSub, Nat.reduceBEq, Nat.reduceLeDiff, reduceCtorEq, Nat.reduceLT, ↓Br_true, ↓Br_false, bind, pure, sc72, sb72, e0, Int.add_zero, hd]
      refine ⟨by omega, Or.inr (Or.inl ⟨⟨rfl, Nat.le_refl _⟩, fun c1 hc1' => ?_⟩)⟩
      simp (config := { maxSteps := 1000000 }) (disch := omega) only [go_sem, Int.reduceToNat, ↓reduceIte, Nat.reduceLT, Nat.reduceEqDiff, Nat.reduceAdd, Nat.reduceMul, Nat.reduceSub, Nat.reduceBEq, Nat.reduceLeDiff, reduceCtorEq, Nat.reduceLT, ↓Br_true, ↓Br_false, bind, pure, sc72, sb72]
      rw [if_pos hnM]
      exact ⟨c1, _, by rw [ez]; exact hs, by simpa using hc1', rfl⟩

  | l + 1, p, T, c, sl, capS, sg, nb, capB, bg, M, hp, hL, hs, hcS, hcB, hc0, hc1 => by
    have e0 : (q : Int) - p = ((l + 1 : Nat) : Int) := by omega
    have ez : catR noRow 0 (shR sg 0) = sg := by funext x; simp [catR, shR]
    have bS := sS_le B m (l + 1) p T
    have ih := seatsFrom_cv B m capb z hz hm hm8 q hq l (p + 1)
    by_cases hM : c + ((l + 1 : Nat) : Int) ≤ M
    · have hd : decide (c + ((l + 1 : Nat) : Int) ≤ M) = true := decide_eq_true hM
      have hnM : ¬ M < c + sS B m (l + 1) p T := by omega
      refine cv_of_run 1000 sc72 sb72 93 [] tabOk (by kernel_rfl) Try.func72 rfl (by kernel_rfl) Try.ntmps72 rfl (by simp) rfl (by simp [bdL, SV.bd]) ?_
      simp (config := { maxSteps := 1000000 }) (disch := omega) only [go_sem, Int.reduceToNat, ↓reduceIte, Nat.reduceLT, Nat.reduceEqDiff, Nat.reduceAdd, Nat.reduceMul, Nat.reduceSub, Nat.reduceBEq, Nat.reduceLeDiff, reduceCtorEq, Nat.reduceLT, ↓Br_true, ↓Br_false, bind, pure, sc72, sb72, e0, hd]
      simp [hnM]
    · have hd : decide (c + ((l + 1 : Nat) : Int) ≤ M) = false := decide_eq_false hM
      have hd0 : decide (((l + 1 : Nat) : Int) = 0) = false := decide_eq_false (by omega)
      have hstep := search_step B m l p T c sl ([], M)
      have HS : ∀ (x : Int) (c2 : Nat), p + 1 ≤ c2 → IntAt (sl ++ [x]) (catR (catR noRow 0 (shR sg 0)) p (shR (nthR [ [.int .i64 x] ]) 0)) := fun x c2 _ => by
        rw [ez]; have := hs.push x; rw [hL] at this; exact this
      have hLen : ∀ x : Int, (sl ++ [x]).length = p + 1 := fun x => by simp [hL]
      refine cv_of_run 1000 sc72 sb72 93 [] tabOk (by kernel_rfl) Try.func72 rfl (by kernel_rfl) Try.ntmps72 rfl (by simp) rfl (by simp [bdL, SV.bd]) ?_
      simp (config := { maxSteps := 1000000 }) (disch := omega) only [go_sem, Int.reduceToNat, ↓reduceIte, Nat.reduceLT, Nat.reduceEqDiff, Nat.reduceAdd, Nat.reduceMul, Nat.reduceSub, Nat.reduceBEq, Nat.reduceLeDiff, reduceCtorEq, Nat.reduceLT, ↓Br_true, ↓Br_false, bind, pure, sc72, sb72, e0, hd, hd0]
      have eK := fun k => show stK B m l p T c sl ([], M) (k + 1) = if okS B T p k = true ∧ (stK B m l p T c sl ([], M) k).2 < c + 1 + sS B m l (p + 1) (tkS T k) then (sl ++ (k : Int) :: gr B m l (p + 1) (tkS T k), c + 1 + sS B m l (p + 1) (tkS T k)) else stK B m l p T c sl ([], M) k from rfl
      have eK0 : stK B m l p T c sl ([], M) 0 = ([], M) := rfl
      have hwid := fun (k : Nat) => (gr_len B m l (p + 1) (tkS T k))
      have hwid0 := gr_len B m l (p + 1) T
      generalize hKK : stK B m l p T c sl ([], M) = K at *
      refine ⟨(Nat × Option (Nat × (Nat → List FV))), fun s => s.1 ≤ m ∧ frI q K M s.1 s.2, fun s => m - s.1, fun s => [(0, .ptr 0 0 0), (1, .slc 1 0 p capS), (2, .f (.int .u16 T)), (3, .f (.int .i64 c)), (9, .f (.int .u64 p)), (10, .f (.int .i64 s.1))], fun s => [frW m capb q nb capB M (fun k => (K k).2) s.1 s.2, .rows p capS 1 sg true, .rows m capb 1 z true, .rows nb capB 1 bg true] ++ frE q s.2, (0, none), (by intro _; simp), ?_, (by (try refine Or.inl ?_); simp [Cov, covE, covH, cb_dead, cb_lit, cb_rows, cb_cells, cd_lit, cd_rows, cd_cells, cd_dead, covRow, look, SV.known, SV.bd, bdL, hm, hcS, hcB, frW, frE, List.cons_append, List.nil_append] <;> omega), ?_⟩
      · exact ⟨by omega, eK0⟩
      · rintro ⟨k, ow⟩ ⟨hk, hI⟩
        simp only at hk hI
        by_cases hkt : k < m
        · have hd2 : decide ((k : Int) < m) = true := decide_eq_true (by omega)
          have e1 := hz k hkt
          have hst : bitI .or .u16 T (shlI .u16 1 k) = tkS T k := rfl
          have en := eK k
          have bk := sS_le B m l (p + 1) (tkS T k)
          rcases ow with _ | ⟨cb2, y2⟩

          · have hI : K k = ([], M) := hI
            simp only [frW, frE, List.cons_append, List.nil_append]
            cases c1 : decide (bitI .and .u16 (shrI .u16 T k) 1 = 0)
            · have en' : K (k + 1) = K k := by rw [en, if_neg (by rw [okS, c1]; simp)]
              simp (config := { maxSteps := 1000000 }) (disch := omega) only [go_sem, Int.reduceToNat, ↓reduceIte, Nat.reduceLT, Nat.reduceEqDiff, Nat.reduceAdd, Nat.reduceMul, Nat.reduceSub, Nat.reduceBEq, Nat.reduceLeDiff, reduceCtorEq, Nat.reduceLT, ↓Br_true, ↓Br_false, bind, pure, sc72, sb72, hd2, e1, c1]
              repeat' (first | (with_reducible refine And.intro (by first | (unfold SOk; kernel_rfl) | (unfold SBOk; kernel_rfl) | (with_reducible assumption) | omega | assumption) ?_) | (with_reducible refine Br_intro (fun hc => ?_) (fun hc => ?_)) | ((with_reducible show WidN _ _ _ _ _ _ _ _); (first | refine widL (by decide) (by with_reducible assumption) ?_ | refine widL (by decide) (FWok_nn (by with_reducible assumption)) ?_ | refine widN (by decide) (fun c hc => ?_)); simp (config := { maxSteps := 1000000 }) (disch := omega) only [go_sem, Int.reduceToNat, ↓reduceIte, Nat.reduceLT, Nat.reduceEqDiff, Nat.reduceAdd, Nat.reduceMul, Nat.reduceSub, Nat.reduceBEq, Nat.reduceLeDiff, reduceCtorEq, Nat.reduceLT, ↓Br_true, ↓Br_false, bind, pure, sc72, sb72, hd2, e1, c1]))
              exact ⟨(k + 1, none), ⟨by omega, by show K (k + 1) = _; rw [en']; exact hI⟩, by omega, by (try refine Or.inl ?_); simp [Cov, covE, covH, cb_dead, cb_lit, cb_rows, cb_cells, cd_lit, cd_rows, cd_cells, cd_dead, covRow, look, SV.known, SV.bd, bdL, frW, frE, List.cons_append, List.nil_append, hm, hcS, hcB] <;> omega⟩
            · cases c2 : decide (bitI .and .u16 (shrI .u16 (B k) p) 1 = 1)
              · have en' : K (k + 1) = K k := by rw [en, if_neg (by rw [okS, c1, c2]; simp)]
                simp (config := { maxSteps := 1000000 }) (disch := omega) only [go_sem, Int.reduceToNat, ↓reduceIte, Nat.reduceLT, Nat.reduceEqDiff, Nat.reduceAdd, Nat.reduceMul, Nat.reduceSub, Nat.reduceBEq, Nat.reduceLeDiff, reduceCtorEq, Nat.reduceLT, ↓Br_true, ↓Br_false, bind, pure, sc72, sb72, hd2, e1, c1, c2]
                repeat' (first | (with_reducible refine And.intro (by first | (unfold SOk; kernel_rfl) | (unfold SBOk; kernel_rfl) | (with_reducible assumption) | omega | assumption) ?_) | (with_reducible refine Br_intro (fun hc => ?_) (fun hc => ?_)) | ((with_reducible show WidN _ _ _ _ _ _ _ _); (first | refine widL (by decide) (by with_reducible assumption) ?_ | refine widL (by decide) (FWok_nn (by with_reducible assumption)) ?_ | refine widN (by decide) (fun c hc => ?_)); simp (config := { maxSteps := 1000000 }) (disch := omega) only [go_sem, Int.reduceToNat, ↓reduceIte, Nat.reduceLT, Nat.reduceEqDiff, Nat.reduceAdd, Nat.reduceMul, Nat.reduceSub, Nat.reduceBEq, Nat.reduceLeDiff, reduceCtorEq, Nat.reduceLT, ↓Br_true, ↓Br_false, bind, pure, sc72, sb72, hd2, e1, c1, c2]))
                exact ⟨(k + 1, none), ⟨by omega, by show K (k + 1) = _; rw [en']; exact hI⟩, by omega, by (try refine Or.inl ?_); simp [Cov, covE, covH, cb_dead, cb_lit, cb_rows, cb_cells, cd_lit, cd_rows, cd_cells, cd_dead, covRow, look, SV.known, SV.bd, bdL, frW, frE, List.cons_append, List.nil_append, hm, hcS, hcB] <;> omega⟩
              · have hok : okS B T p k = true := by rw [okS, c1, c2]; rfl
                rw [hok] at en
                simp (config := { maxSteps := 1000000 }) (disch := omega) only [go_sem, Int.reduceToNat, ↓reduceIte, Nat.reduceLT, Nat.reduceEqDiff, Nat.reduceAdd, Nat.reduceMul, Nat.reduceSub, Nat.reduceBEq, Nat.reduceLeDiff, reduceCtorEq, Nat.reduceLT, ↓Br_true, ↓Br_false, bind, pure, sc72, sb72, hd2, e1, c1, c2, hst]
                repeat' (first | (with_reducible refine And.intro (by first | (unfold SOk; kernel_rfl) | (unfold SBOk; kernel_rfl) | (with_reducible assumption) | omega | assumption) ?_) | (with_reducible refine Br_intro (fun hc => ?_) (fun hc => ?_)) | ((with_reducible show WidN _ _ _ _ _ _ _ _); (first | refine widL (by decide) (by with_reducible assumption) ?_ | refine widL (by decide) (FWok_nn (by with_reducible assumption)) ?_ | refine widN (by decide) (fun c hc => ?_)); simp (config := { maxSteps := 1000000 }) (disch := omega) only [go_sem, Int.reduceToNat, ↓reduceIte, Nat.reduceLT, Nat.reduceEqDiff, Nat.reduceAdd, Nat.reduceMul, Nat.reduceSub, Nat.reduceBEq, Nat.reduceLeDiff, reduceCtorEq, Nat.reduceLT, ↓Br_true, ↓Br_false, bind, pure, sc72, sb72, hd2, e1, c1, c2, hst]))
                refine Or.inr (Or.inl ⟨⟨rfl, Nat.le_refl _⟩, fun c1' hc1' => ?_⟩)
                simp (config := { maxSteps := 1000000 }) (disch := omega) only [go_sem, Int.reduceToNat, ↓reduceIte, Nat.reduceLT, Nat.reduceEqDiff, Nat.reduceAdd, Nat.reduceMul, Nat.reduceSub, Nat.reduceBEq, Nat.reduceLeDiff, reduceCtorEq, Nat.reduceLT, ↓Br_true, ↓Br_false, bind, pure, sc72, sb72, hst]
                refine ⟨by omega, Or.inr (Or.inl ⟨⟨rfl, Nat.le_refl _⟩, fun c2' hc2' => ?_⟩)⟩
                simp only at hc1' hc2'
                simp (config := { maxSteps := 1000000 }) (disch := omega) only [go_sem, Int.reduceToNat, ↓reduceIte, Nat.reduceLT, Nat.reduceEqDiff, Nat.reduceAdd, Nat.reduceMul, Nat.reduceSub, Nat.reduceBEq, Nat.reduceLeDiff, reduceCtorEq, Nat.reduceLT, ↓Br_true, ↓Br_false, bind, pure, sc72, sb72, hst]
                have cc := ih (tkS T k) (c + 1) (sl ++ [(k : Int)]) c2' _ nb capB bg M (by omega) (hLen _) (HS k c2' (by omega)) (by omega) hcB (by omega) (by omega)
                repeat (with_reducible refine And.intro (by first | omega | assumption | (unfold SOk; kernel_rfl) | (unfold SBOk; kernel_rfl)) ?_)
                by_cases hch : M < c + 1 + sS B m l (p + 1) (tkS T k)
                · have en' : K (k + 1) = (sl ++ (k : Int) :: gr B m l (p + 1) (tkS T k), c + 1 + sS B m l (p + 1) (tkS T k)) := by rw [en, if_pos ⟨rfl, by rw [hI]; exact hch⟩]
                  simp only [if_pos hch] at cc
                  have cc := cc; (first | refine callR (by rfl) (by rfl) (by rfl) cc ?_ | refine callM (by rfl) (by rfl) (by rfl) cc ?_ | refine callMo (by rfl) (by rfl) (by rfl) cc ?_ | refine callG (by rfl) (by rfl) (by rfl) cc ?_ | refine callW (by rfl) (by first | rfl | (simp [ofL, kpB, kpR, ofB, isOwnB, isDead, inL, hget]; done)) (by rfl) (by rfl) cc ?_); clear cc; rintro _ _ ⟨rfl, c4, g4, hg4, hc4, rfl⟩
                  simp (config := { maxSteps := 1000000 }) (disch := omega) only [go_sem, Int.reduceToNat, ↓reduceIte, Nat.reduceLT, Nat.reduceEqDiff, Nat.reduceAdd, Nat.reduceMul, Nat.reduceSub, Nat.reduceBEq, Nat.reduceLeDiff, reduceCtorEq, Nat.reduceLT, ↓Br_true, ↓Br_false, bind, pure, sc72, sb72]
                  refine ⟨(k + 1, some (c4, g4)), ⟨by omega, ?_⟩, by omega, by refine Or.inr ⟨[0, 1, 2, 3, 8], by rfl, ?_⟩; simp [Cov, covE, covH, cb_dead, cb_lit, cb_rows, cb_cells, cd_lit, cd_rows, cd_cells, cd_dead, covRow, look, SV.known, SV.bd, bdL, locE, locV, locH, hget, SV.lin, inL, SV.ren, idx, bk_ren_lit, bk_ren_rows, bk_ren_cells, renL, frW, frE, List.cons_append, List.nil_append, hm, hcS, hcB, en', hc4] <;> omega⟩
                  show IntAt (K (k + 1)).1 g4 ∧ (K (k + 1)).1.length = q ∧ q ≤ c4 ∧ M < (K (k + 1)).2
                  rw [en']
                  refine ⟨by simpa using hg4, by simp [hL, hwid]; omega, hc4, by omega⟩
                · have en' : K (k + 1) = K k := by rw [en, if_neg (fun h => hch (by have := h.2; rw [hI] at this; exact this))]
                  simp only [if_neg hch] at cc
                  have cc := cc; (first | refine callR (by rfl) (by rfl) (by rfl) cc ?_ | refine callM (by rfl) (by rfl) (by rfl) cc ?_ | refine callMo (by rfl) (by rfl) (by rfl) cc ?_ | refine callG (by rfl) (by rfl) (by rfl) cc ?_ | refine callW (by rfl) (by first | rfl | (simp [ofL, kpB, kpR, ofB, isOwnB, isDead, inL, hget]; done)) (by rfl) (by rfl) cc ?_); clear cc; rintro _ _ ⟨rfl, rfl⟩
                  simp (config := { maxSteps := 1000000 }) (disch := omega) only [go_sem, Int.reduceToNat, ↓reduceIte, Nat.reduceLT, Nat.reduceEqDiff, Nat.reduceAdd, Nat.reduceMul, Nat.reduceSub, Nat.reduceBEq, Nat.reduceLeDiff, reduceCtorEq, Nat.reduceLT, ↓Br_true, ↓Br_false, bind, pure, sc72, sb72]
                  exact ⟨(k + 1, none), ⟨by omega, by show K (k + 1) = _; rw [en']; exact hI⟩, by omega, by (try refine Or.inl ?_); simp [Cov, covE, covH, cb_dead, cb_lit, cb_rows, cb_cells, cd_lit, cd_rows, cd_cells, cd_dead, covRow, look, SV.known, SV.bd, bdL, frW, frE, List.cons_append, List.nil_append, hm, hcS, hcB] <;> omega⟩
          · obtain ⟨hy, hlq, hqc, hMK⟩ : IntAt (K k).1 y2 ∧ (K k).1.length = q ∧ q ≤ cb2 ∧ M < (K k).2 := hI
            simp only [frW, frE, List.cons_append, List.nil_append]
            cases c1 : decide (bitI .and .u16 (shrI .u16 T k) 1 = 0)
            · have en' : K (k + 1) = K k := by rw [en, if_neg (by rw [okS, c1]; simp)]
              simp (config := { maxSteps := 1000000 }) (disch := omega) only [go_sem, Int.reduceToNat, ↓reduceIte, Nat.reduceLT, Nat.reduceEqDiff, Nat.reduceAdd, Nat.reduceMul, Nat.reduceSub, Nat.reduceBEq, Nat.reduceLeDiff, reduceCtorEq, Nat.reduceLT, ↓Br_true, ↓Br_false, bind, pure, sc72, sb72, hd2, e1, c1]
              repeat' (first | (with_reducible refine And.intro (by first | (unfold SOk; kernel_rfl) | (unfold SBOk; kernel_rfl) | (with_reducible assumption) | omega | assumption) ?_) | (with_reducible refine Br_intro (fun hc => ?_) (fun hc => ?_)) | ((with_reducible show WidN _ _ _ _ _ _ _ _); (first | refine widL (by decide) (by with_reducible assumption) ?_ | refine widL (by decide) (FWok_nn (by with_reducible assumption)) ?_ | refine widN (by decide) (fun c hc => ?_)); simp (config := { maxSteps := 1000000 }) (disch := omega) only [go_sem, Int.reduceToNat, ↓reduceIte, Nat.reduceLT, Nat.reduceEqDiff, Nat.reduceAdd, Nat.reduceMul, Nat.reduceSub, Nat.reduceBEq, Nat.reduceLeDiff, reduceCtorEq, Nat.reduceLT, ↓Br_true, ↓Br_false, bind, pure, sc72, sb72, hd2, e1, c1]))
              exact ⟨(k + 1, some (cb2, y2)), ⟨by omega, by show IntAt (K (k + 1)).1 y2 ∧ (K (k + 1)).1.length = q ∧ q ≤ cb2 ∧ M < (K (k + 1)).2; rw [en']; exact ⟨hy, hlq, hqc, hMK⟩⟩, by omega, by (try refine Or.inl ?_); simp [Cov, covE, covH, cb_dead, cb_lit, cb_rows, cb_cells, cd_lit, cd_rows, cd_cells, cd_dead, covRow, look, SV.known, SV.bd, bdL, frW, frE, List.cons_append, List.nil_append, hm, hcS, hcB, en', hqc] <;> omega⟩
            · cases c2 : decide (bitI .and .u16 (shrI .u16 (B k) p) 1 = 1)
              · have en' : K (k + 1) = K k := by rw [en, if_neg (by rw [okS, c1, c2]; simp)]
                simp (config := { maxSteps := 1000000 }) (disch := omega) only [go_sem, Int.reduceToNat, ↓reduceIte, Nat.reduceLT, Nat.reduceEqDiff, Nat.reduceAdd, Nat.reduceMul, Nat.reduceSub, Nat.reduceBEq, Nat.reduceLeDiff, reduceCtorEq, Nat.reduceLT, ↓Br_true, ↓Br_false, bind, pure, sc72, sb72, hd2, e1, c1, c2]
                repeat' (first | (with_reducible refine And.intro (by first | (unfold SOk; kernel_rfl) | (unfold SBOk; kernel_rfl) | (with_reducible assumption) | omega | assumption) ?_) | (with_reducible refine Br_intro (fun hc => ?_) (fun hc => ?_)) | ((with_reducible show WidN _ _ _ _ _ _ _ _); (first | refine widL (by decide) (by with_reducible assumption) ?_ | refine widL (by decide) (FWok_nn (by with_reducible assumption)) ?_ | refine widN (by decide) (fun c hc => ?_)); simp (config := { maxSteps := 1000000 }) (disch := omega) only [go_sem, Int.reduceToNat, ↓reduceIte, Nat.reduceLT, Nat.reduceEqDiff, Nat.reduceAdd, Nat.reduceMul, Nat.reduceSub, Nat.reduceBEq, Nat.reduceLeDiff, reduceCtorEq, Nat.reduceLT, ↓Br_true, ↓Br_false, bind, pure, sc72, sb72, hd2, e1, c1, c2]))
                exact ⟨(k + 1, some (cb2, y2)), ⟨by omega, by show IntAt (K (k + 1)).1 y2 ∧ (K (k + 1)).1.length = q ∧ q ≤ cb2 ∧ M < (K (k + 1)).2; rw [en']; exact ⟨hy, hlq, hqc, hMK⟩⟩, by omega, by (try refine Or.inl ?_); simp [Cov, covE, covH, cb_dead, cb_lit, cb_rows, cb_cells, cd_lit, cd_rows, cd_cells, cd_dead, covRow, look, SV.known, SV.bd, bdL, frW, frE, List.cons_append, List.nil_append, hm, hcS, hcB, en', hqc] <;> omega⟩
              · have hok : okS B T p k = true := by rw [okS, c1, c2]; rfl
                rw [hok] at en
                simp (config := { maxSteps := 1000000 }) (disch := omega) only [go_sem, Int.reduceToNat, ↓reduceIte, Nat.reduceLT, Nat.reduceEqDiff, Nat.reduceAdd, Nat.reduceMul, Nat.reduceSub, Nat.reduceBEq, Nat.reduceLeDiff, reduceCtorEq, Nat.reduceLT, ↓Br_true, ↓Br_false, bind, pure, sc72, sb72, hd2, e1, c1, c2, hst]
                repeat' (first | (with_reducible refine And.intro (by first | (unfold SOk; kernel_rfl) | (unfold SBOk; kernel_rfl) | (with_reducible assumption) | omega | assumption) ?_) | (with_reducible refine Br_intro (fun hc => ?_) (fun hc => ?_)) | ((with_reducible show WidN _ _ _ _ _ _ _ _); (first | refine widL (by decide) (by with_reducible assumption) ?_ | refine widL (by decide) (FWok_nn (by with_reducible assumption)) ?_ | refine widN (by decide) (fun c hc => ?_)); simp (config := { maxSteps := 1000000 }) (disch := omega) only [go_sem, Int.reduceToNat, ↓reduceIte, Nat.reduceLT, Nat.reduceEqDiff, Nat.reduceAdd, Nat.reduceMul, Nat.reduceSub, Nat.reduceBEq, Nat.reduceLeDiff, reduceCtorEq, Nat.reduceLT, ↓Br_true, ↓Br_false, bind, pure, sc72, sb72, hd2, e1, c1, c2, hst]))
                refine Or.inr (Or.inl ⟨⟨rfl, Nat.le_refl _⟩, fun c1' hc1' => ?_⟩)
                simp (config := { maxSteps := 1000000 }) (disch := omega) only [go_sem, Int.reduceToNat, ↓reduceIte, Nat.reduceLT, Nat.reduceEqDiff, Nat.reduceAdd, Nat.reduceMul, Nat.reduceSub, Nat.reduceBEq, Nat.reduceLeDiff, reduceCtorEq, Nat.reduceLT, ↓Br_true, ↓Br_false, bind, pure, sc72, sb72, hst]
                refine ⟨by omega, Or.inr (Or.inl ⟨⟨rfl, Nat.le_refl _⟩, fun c2' hc2' => ?_⟩)⟩
                simp only at hc1' hc2'
                simp (config := { maxSteps := 1000000 }) (disch := omega) only [go_sem, Int.reduceToNat, ↓reduceIte, Nat.reduceLT, Nat.reduceEqDiff, Nat.reduceAdd, Nat.reduceMul, Nat.reduceSub, Nat.reduceBEq, Nat.reduceLeDiff, reduceCtorEq, Nat.reduceLT, ↓Br_true, ↓Br_false, bind, pure, sc72, sb72, hst]
                have cc := ih (tkS T k) (c + 1) (sl ++ [(k : Int)]) c2' _ q cb2 y2 (K k).2 (by omega) (hLen _) (HS k c2' (by omega)) (by omega) hqc (by omega) (by omega)
                repeat (with_reducible refine And.intro (by first | omega | assumption | (unfold SOk; kernel_rfl) | (unfold SBOk; kernel_rfl)) ?_)
                by_cases hch : (K k).2 < c + 1 + sS B m l (p + 1) (tkS T k)
                · have en' : K (k + 1) = (sl ++ (k : Int) :: gr B m l (p + 1) (tkS T k), c + 1 + sS B m l (p + 1) (tkS T k)) := by rw [en, if_pos ⟨rfl, hch⟩]
                  simp only [if_pos hch] at cc
                  have cc := cc; (first | refine callR (by rfl) (by rfl) (by rfl) cc ?_ | refine callM (by rfl) (by rfl) (by rfl) cc ?_ | refine callMo (by rfl) (by rfl) (by rfl) cc ?_ | refine callG (by rfl) (by rfl) (by rfl) cc ?_ | refine callW (by rfl) (by first | rfl | (simp [ofL, kpB, kpR, ofB, isOwnB, isDead, inL, hget]; done)) (by rfl) (by rfl) cc ?_); clear cc; rintro _ _ ⟨rfl, c4, g4, hg4, hc4, rfl⟩
                  simp (config := { maxSteps := 1000000 }) (disch := omega) only [go_sem, Int.reduceToNat, ↓reduceIte, Nat.reduceLT, Nat.reduceEqDiff, Nat.reduceAdd, Nat.reduceMul, Nat.reduceSub, Nat.reduceBEq, Nat.reduceLeDiff, reduceCtorEq, Nat.reduceLT, ↓Br_true, ↓Br_false, bind, pure, sc72, sb72]
                  refine ⟨(k + 1, some (c4, g4)), ⟨by omega, ?_⟩, by omega, by refine Or.inr ⟨[0, 1, 2, 3, 9], by rfl, ?_⟩; simp [Cov, covE, covH, cb_dead, cb_lit, cb_rows, cb_cells, cd_lit, cd_rows, cd_cells, cd_dead, covRow, look, SV.known, SV.bd, bdL, locE, locV, locH, hget, SV.lin, inL, SV.ren, idx, bk_ren_lit, bk_ren_rows, bk_ren_cells, renL, frW, frE, List.cons_append, List.nil_append, hm, hcS, hcB, en', hc4] <;> omega⟩
                  show IntAt (K (k + 1)).1 g4 ∧ (K (k + 1)).1.length = q ∧ q ≤ c4 ∧ M < (K (k + 1)).2
                  rw [en']
                  refine ⟨by simpa using hg4, by simp [hL, hwid]; omega, hc4, by omega⟩
                · have en' : K (k + 1) = K k := by rw [en, if_neg (fun h => hch h.2)]
                  simp only [if_neg hch] at cc
                  have cc := cc; (first | refine callR (by rfl) (by rfl) (by rfl) cc ?_ | refine callM (by rfl) (by rfl) (by rfl) cc ?_ | refine callMo (by rfl) (by rfl) (by rfl) cc ?_ | refine callG (by rfl) (by rfl) (by rfl) cc ?_ | refine callW (by rfl) (by first | rfl | (simp [ofL, kpB, kpR, ofB, isOwnB, isDead, inL, hget]; done)) (by rfl) (by rfl) cc ?_); clear cc; rintro _ _ ⟨rfl, rfl⟩
                  simp (config := { maxSteps := 1000000 }) (disch := omega) only [go_sem, Int.reduceToNat, ↓reduceIte, Nat.reduceLT, Nat.reduceEqDiff, Nat.reduceAdd, Nat.reduceMul, Nat.reduceSub, Nat.reduceBEq, Nat.reduceLeDiff, reduceCtorEq, Nat.reduceLT, ↓Br_true, ↓Br_false, bind, pure, sc72, sb72]
                  exact ⟨(k + 1, some (cb2, y2)), ⟨by omega, by show IntAt (K (k + 1)).1 y2 ∧ (K (k + 1)).1.length = q ∧ q ≤ cb2 ∧ M < (K (k + 1)).2; rw [en']; exact ⟨hy, hlq, hqc, hMK⟩⟩, by omega, by (try refine Or.inl ?_); simp [Cov, covE, covH, cb_dead, cb_lit, cb_rows, cb_cells, cd_lit, cd_rows, cd_cells, cd_dead, covRow, look, SV.known, SV.bd, bdL, frW, frE, List.cons_append, List.nil_append, hm, hcS, hcB, en', hqc] <;> omega⟩
        · have hd2 : decide ((k : Int) < m) = false := decide_eq_false (by omega)
          obtain rfl : k = m := by omega
          have b0 := sS_le B k l (p + 1) T
          rcases ow with _ | ⟨cb2, y2⟩
          · have hI : K k = ([], M) := hI
            simp only [frW, frE, List.cons_append, List.nil_append]
            simp (config := { maxSteps := 1000000 }) (disch := omega) only [go_sem, Int.reduceToNat, ↓reduceIte, Nat.reduceLT, Nat.reduceEqDiff, Nat.reduceAdd, Nat.reduceMul, Nat.reduceSub, Nat.reduceBEq, Nat.reduceLeDiff, reduceCtorEq, Nat.reduceLT, ↓Br_true, ↓Br_false, bind, pure, sc72, sb72, hd2]
            repeat' (first | (with_reducible refine And.intro (by first | (unfold SOk; kernel_rfl) | (unfold SBOk; kernel_rfl) | (with_reducible assumption) | omega | assumption) ?_) | (with_reducible refine Br_intro (fun hc => ?_) (fun hc => ?_)) | ((with_reducible show WidN _ _ _ _ _ _ _ _); (first | refine widL (by decide) (by with_reducible assumption) ?_ | refine widL (by decide) (FWok_nn (by with_reducible assumption)) ?_ | refine widN (by decide) (fun c hc => ?_)); simp (config := { maxSteps := 1000000 }) (disch := omega) only [go_sem, Int.reduceToNat, ↓reduceIte, Nat.reduceLT, Nat.reduceEqDiff, Nat.reduceAdd, Nat.reduceMul, Nat.reduceSub, Nat.reduceBEq, Nat.reduceLeDiff, reduceCtorEq, Nat.reduceLT, ↓Br_true, ↓Br_false, bind, pure, sc72, sb72, hd2]))
            refine Or.inr (Or.inl ⟨⟨rfl, Nat.le_refl _⟩, fun c1' hc1' => ?_⟩)
            simp (config := { maxSteps := 1000000 }) (disch := omega) only [go_sem, Int.reduceToNat, ↓reduceIte, Nat.reduceLT, Nat.reduceEqDiff, Nat.reduceAdd, Nat.reduceMul, Nat.reduceSub, Nat.reduceBEq, Nat.reduceLeDiff, reduceCtorEq, Nat.reduceLT, ↓Br_true, ↓Br_false, bind, pure, sc72, sb72]
            refine ⟨by omega, Or.inr (Or.inl ⟨⟨rfl, Nat.le_refl _⟩, fun c2' hc2' => ?_⟩)⟩
            simp only at hc1' hc2'
            simp (config := { maxSteps := 1000000 }) (disch := omega) only [go_sem, Int.reduceToNat, ↓reduceIte, Nat.reduceLT, Nat.reduceEqDiff, Nat.reduceAdd, Nat.reduceMul, Nat.reduceSub, Nat.reduceBEq, Nat.reduceLeDiff, reduceCtorEq, Nat.reduceLT, ↓Br_true, ↓Br_false, bind, pure, sc72, sb72]
            have cc := ih T c (sl ++ [-1]) c2' _ nb capB bg M (by omega) (hLen _) (HS (-1) c2' (by omega)) (by omega) hcB (by omega) (by omega)
            by_cases hch : M < c + sS B k l (p + 1) T
            · have hx := hstep
              rw [if_pos (by rw [hI]; exact hch)] at hx
              obtain ⟨h1, h2, h3⟩ := fin_ch hx (by omega)
              simp only [if_pos hch] at cc
              have cc := cc; (first | refine callR (by rfl) (by rfl) (by rfl) cc ?_ | refine callM (by rfl) (by rfl) (by rfl) cc ?_ | refine callMo (by rfl) (by rfl) (by rfl) cc ?_ | refine callG (by rfl) (by rfl) (by rfl) cc ?_ | refine callW (by rfl) (by first | rfl | (simp [ofL, kpB, kpR, ofB, isOwnB, isDead, inL, hget]; done)) (by rfl) (by rfl) cc ?_); clear cc; rintro _ _ ⟨rfl, c4, g4, hg4, hc4, rfl⟩
              simp (config := { maxSteps := 1000000 }) (disch := omega) only [go_sem, Int.reduceToNat, ↓reduceIte, Nat.reduceLT, Nat.reduceEqDiff, Nat.reduceAdd, Nat.reduceMul, Nat.reduceSub, Nat.reduceBEq, Nat.reduceLeDiff, reduceCtorEq, Nat.reduceLT, ↓Br_true, ↓Br_false, bind, pure, sc72, sb72]
              rw [if_pos h1]
              refine ⟨c4, g4, ?_, hc4, by rw [h3]⟩
              rw [← h2]; simpa using hg4
            · have hx := hstep
              rw [if_neg (by rw [hI]; exact hch)] at hx
              simp only [if_neg hch] at cc
              have cc := cc; (first | refine callR (by rfl) (by rfl) (by rfl) cc ?_ | refine callM (by rfl) (by rfl) (by rfl) cc ?_ | refine callMo (by rfl) (by rfl) (by rfl) cc ?_ | refine callG (by rfl) (by rfl) (by rfl) cc ?_ | refine callW (by rfl) (by first | rfl | (simp [ofL, kpB, kpR, ofB, isOwnB, isDead, inL, hget]; done)) (by rfl) (by rfl) cc ?_); clear cc; rintro _ _ ⟨rfl, rfl⟩
              simp (config := { maxSteps := 1000000 }) (disch := omega) only [go_sem, Int.reduceToNat, ↓reduceIte, Nat.reduceLT, Nat.reduceEqDiff, Nat.reduceAdd, Nat.reduceMul, Nat.reduceSub, Nat.reduceBEq, Nat.reduceLeDiff, reduceCtorEq, Nat.reduceLT, ↓Br_true, ↓Br_false, bind, pure, sc72, sb72]
              rw [hI] at hx
              rw [if_neg (fin_un hx)]
              trivial
          · obtain ⟨hy, hlq, hqc, hMK⟩ : IntAt (K k).1 y2 ∧ (K k).1.length = q ∧ q ≤ cb2 ∧ M < (K k).2 := hI
            simp only [frW, frE, List.cons_append, List.nil_append]
            simp (config := { maxSteps := 1000000 }) (disch := omega) only [go_sem, Int.reduceToNat, ↓reduceIte, Nat.reduceLT, Nat.reduceEqDiff, Nat.reduceAdd, Nat.reduceMul, Nat.reduceSub, Nat.reduceBEq, Nat.reduceLeDiff, reduceCtorEq, Nat.reduceLT, ↓Br_true, ↓Br_false, bind, pure, sc72, sb72, hd2]
            repeat' (first | (with_reducible refine And.intro (by first | (unfold SOk; kernel_rfl) | (unfold SBOk; kernel_rfl) | (with_reducible assumption) | omega | assumption) ?_) | (with_reducible refine Br_intro (fun hc => ?_) (fun hc => ?_)) | ((with_reducible show WidN _ _ _ _ _ _ _ _); (first | refine widL (by decide) (by with_reducible assumption) ?_ | refine widL (by decide) (FWok_nn (by with_reducible assumption)) ?_ | refine widN (by decide) (fun c hc => ?_)); simp (config := { maxSteps := 1000000 }) (disch := omega) only [go_sem, Int.reduceToNat, ↓reduceIte, Nat.reduceLT, Nat.reduceEqDiff, Nat.reduceAdd, Nat.reduceMul, Nat.reduceSub, Nat.reduceBEq, Nat.reduceLeDiff, reduceCtorEq, Nat.reduceLT, ↓Br_true, ↓Br_false, bind, pure, sc72, sb72, hd2]))
            refine Or.inr (Or.inl ⟨⟨rfl, Nat.le_refl _⟩, fun c1' hc1' => ?_⟩)
            simp (config := { maxSteps := 1000000 }) (disch := omega) only [go_sem, Int.reduceToNat, ↓reduceIte, Nat.reduceLT, Nat.reduceEqDiff, Nat.reduceAdd, Nat.reduceMul, Nat.reduceSub, Nat.reduceBEq, Nat.reduceLeDiff, reduceCtorEq, Nat.reduceLT, ↓Br_true, ↓Br_false, bind, pure, sc72, sb72]
            refine ⟨by omega, Or.inr (Or.inl ⟨⟨rfl, Nat.le_refl _⟩, fun c2' hc2' => ?_⟩)⟩
            simp only at hc1' hc2'
            simp (config := { maxSteps := 1000000 }) (disch := omega) only [go_sem, Int.reduceToNat, ↓reduceIte, Nat.reduceLT, Nat.reduceEqDiff, Nat.reduceAdd, Nat.reduceMul, Nat.reduceSub, Nat.reduceBEq, Nat.reduceLeDiff, reduceCtorEq, Nat.reduceLT, ↓Br_true, ↓Br_false, bind, pure, sc72, sb72]
            have cc := ih T c (sl ++ [-1]) c2' _ q cb2 y2 (K k).2 (by omega) (hLen _) (HS (-1) c2' (by omega)) (by omega) hqc (by omega) (by omega)
            by_cases hch : (K k).2 < c + sS B k l (p + 1) T
            · have hx := hstep
              rw [if_pos (by exact hch)] at hx
              obtain ⟨h1, h2, h3⟩ := fin_ch hx (by omega)
              simp only [if_pos hch] at cc
              have cc := cc; (first | refine callR (by rfl) (by rfl) (by rfl) cc ?_ | refine callM (by rfl) (by rfl) (by rfl) cc ?_ | refine callMo (by rfl) (by rfl) (by rfl) cc ?_ | refine callG (by rfl) (by rfl) (by rfl) cc ?_ | refine callW (by rfl) (by first | rfl | (simp [ofL, kpB, kpR, ofB, isOwnB, isDead, inL, hget]; done)) (by rfl) (by rfl) cc ?_); clear cc; rintro _ _ ⟨rfl, c4, g4, hg4, hc4, rfl⟩
              simp (config := { maxSteps := 1000000 }) (disch := omega) only [go_sem, Int.reduceToNat, ↓reduceIte, Nat.reduceLT, Nat.reduceEqDiff, Nat.reduceAdd, Nat.reduceMul, Nat.reduceSub, Nat.reduceBEq, Nat.reduceLeDiff, reduceCtorEq, Nat.reduceLT, ↓Br_true, ↓Br_false, bind, pure, sc72, sb72]
              rw [if_pos h1]
              refine ⟨c4, g4, ?_, hc4, by rw [h3]⟩
              rw [← h2]; simpa using hg4
            · have hx := hstep
              rw [if_neg (by exact hch)] at hx
              simp only [if_neg hch] at cc
              have cc := cc; (first | refine callR (by rfl) (by rfl) (by rfl) cc ?_ | refine callM (by rfl) (by rfl) (by rfl) cc ?_ | refine callMo (by rfl) (by rfl) (by rfl) cc ?_ | refine callG (by rfl) (by rfl) (by rfl) cc ?_ | refine callW (by rfl) (by first | rfl | (simp [ofL, kpB, kpR, ofB, isOwnB, isDead, inL, hget]; done)) (by rfl) (by rfl) cc ?_); clear cc; rintro _ _ ⟨rfl, rfl⟩
              simp (config := { maxSteps := 1000000 }) (disch := omega) only [go_sem, Int.reduceToNat, ↓reduceIte, Nat.reduceLT, Nat.reduceEqDiff, Nat.reduceAdd, Nat.reduceMul, Nat.reduceSub, Nat.reduceBEq, Nat.reduceLeDiff, reduceCtorEq, Nat.reduceLT, ↓Br_true, ↓Br_false, bind, pure, sc72, sb72]
              obtain ⟨h1, h2, h3⟩ := fin_ch (L := (K k).1) (W := (K k).2) hx hMK
              rw [if_pos h1]
              exact ⟨cb2, y2, by rw [← h2]; exact hy, hqc, by rw [h3]⟩
theorem sSeatPeople_cv (r : Rom) (us : Nat → Win) (ds : Nat → Dsk) (ps : Nat → Psn) (n cap m capm q capq : Nat) (f g u : Nat → List FV) (H : RomH r us n cap f) (D : DskH ds m capm g) (P : PsnH ps q capq u) (ha : sbC r us n ds ps m q = 0) :
    CV Try.prog 9 [romV r n cap, .slc 1 0 m capm, .slc 2 0 q capq] [.rows n cap 3 f false, .rows m capm 3 g false, .rows q capq 3 u false] (fun v h => ∃ cap' z, IntAt (gr (fun j => sbI r us n ps (ds j) q) m q 0 0) z ∧ q ≤ cap' ∧ v = .tup [.slc 3 0 q cap', .f (.int .i64 (sS (fun j => sbI r us n ps (ds j) q) m q 0 0)), .f (.int .i64 0)] ∧ h = [.rows n cap 3 f false, .rows m capm 3 g false, .rows q capq 3 u false, .rows q cap' 1 z true]) := by
  have hcap := H.hcap
  obtain ⟨hP, hA, h8, hq8⟩ := pplC_zero ha
  have cb := l03Bits_cv r us ds ps n cap m capm q capq f g u H D P ha
  obtain ⟨hg, hcm, hm, hs⟩ := D
  obtain ⟨hu, hcq, hq⟩ := P
  generalize (fun j => sbI r us n ps (ds j) q) = W at *
  refine cv_of_run 1000 sc9 sb9 39 [.tmp 6, .tmp 7, .tmp 8] tabOk (by kernel_rfl) Try.func9 rfl (by kernel_rfl) Try.ntmps9 rfl (by simp) rfl (by simp [bdL, SV.bd]) ?_
  simp (config := { maxSteps := 1000000 }) (disch := omega) only [go_sem, Int.reduceToNat, ↓reduceIte, Nat.reduceLT, Nat.reduceEqDiff, Nat.reduceAdd, Nat.reduceMul, Nat.reduceSub, Nat.reduceBEq, Nat.reduceLeDiff, reduceCtorEq, Nat.reduceLT, ↓Br_true, ↓Br_false, bind, pure, sc9, sb9]
  have cc := cb; (first | refine callR (by rfl) (by rfl) (by rfl) cc ?_ | refine callM (by rfl) (by rfl) (by rfl) cc ?_ | refine callMo (by rfl) (by rfl) (by rfl) cc ?_ | refine callG (by rfl) (by rfl) (by rfl) cc ?_ | refine callW (by rfl) (by first | rfl | (simp [ofL, kpB, kpR, ofB, isOwnB, isDead, inL, hget]; done)) (by rfl) (by rfl) cc ?_); clear cc; rintro _ _ ⟨capb, z, hz, hcb, rfl, rfl⟩
  simp (config := { maxSteps := 1000000 }) (disch := omega) only [go_sem, Int.reduceToNat, ↓reduceIte, Nat.reduceLT, Nat.reduceEqDiff, Nat.reduceAdd, Nat.reduceMul, Nat.reduceSub, Nat.reduceBEq, Nat.reduceLeDiff, reduceCtorEq, Nat.reduceLT, ↓Br_true, ↓Br_false, bind, pure, sc9, sb9]
  have cc := seatsFrom_cv W m capb z hz hcb h8 q hq8 q 0 0 0 [] 0 noRow 0 0 noRow (-1) (by omega) rfl (fun i hi => by simp at hi) (by omega) (by omega) (by omega) (by omega)
  have bS := sS_le W m q 0 0
  simp only [Int.zero_add, List.nil_append] at cc
  simp only [if_pos (show (-1 : Int) < sS W m q 0 0 by omega)] at cc
  have cc := cc; (first | refine callR (by rfl) (by rfl) (by rfl) cc ?_ | refine callM (by rfl) (by rfl) (by rfl) cc ?_ | refine callMo (by rfl) (by rfl) (by rfl) cc ?_ | refine callG (by rfl) (by rfl) (by rfl) cc ?_ | refine callW (by rfl) (by first | rfl | (simp [ofL, kpB, kpR, ofB, isOwnB, isDead, inL, hget]; done)) (by rfl) (by rfl) cc ?_); clear cc; rintro _ _ ⟨rfl, c4, g4, hg4, hc4, rfl⟩
  simp (config := { maxSteps := 1000000 }) (disch := omega) only [go_sem, Int.reduceToNat, ↓reduceIte, Nat.reduceLT, Nat.reduceEqDiff, Nat.reduceAdd, Nat.reduceMul, Nat.reduceSub, Nat.reduceBEq, Nat.reduceLeDiff, reduceCtorEq, Nat.reduceLT, ↓Br_true, ↓Br_false, bind, pure, sc9, sb9]
  repeat' (first | (with_reducible refine And.intro (by first | (unfold SOk; kernel_rfl) | (unfold SBOk; kernel_rfl) | (with_reducible assumption) | omega | assumption) ?_) | (with_reducible refine Br_intro (fun hc => ?_) (fun hc => ?_)) | ((with_reducible show WidN _ _ _ _ _ _ _ _); (first | refine widL (by decide) (by with_reducible assumption) ?_ | refine widL (by decide) (FWok_nn (by with_reducible assumption)) ?_ | refine widN (by decide) (fun c hc => ?_)); simp (config := { maxSteps := 1000000 }) (disch := omega) only [go_sem, Int.reduceToNat, ↓reduceIte, Nat.reduceLT, Nat.reduceEqDiff, Nat.reduceAdd, Nat.reduceMul, Nat.reduceSub, Nat.reduceBEq, Nat.reduceLeDiff, reduceCtorEq, Nat.reduceLT, ↓Br_true, ↓Br_false, bind, pure, sc9, sb9]))
  exact ⟨c4, g4, hg4, hc4, rfl, rfl⟩
theorem SeatPeopleBad_cv (r : Rom) (us : Nat → Win) (ds : Nat → Dsk) (ps : Nat → Psn) (n cap m capm q capq : Nat) (f g u : Nat → List FV) (H : RomH r us n cap f) (D : DskH ds m capm g) (P : PsnH ps q capq u) (ha : sbC r us n ds ps m q ≠ 0) :
    CV Try.prog 13 [romV r n cap, .slc 1 0 m capm, .slc 2 0 q capq] [.rows n cap 3 f false, .rows m capm 3 g false, .rows q capq 3 u false] (fun v h => v = .tup [.f .nils, .f (.int .i64 0), .f (.int .i64 (sbC r us n ds ps m q))] ∧ h = [.rows n cap 3 f false, .rows m capm 3 g false, .rows q capq 3 u false]) := by
  have cb := SuitBitsBad_cv r us ds ps n cap m capm q capq f g u H D P ha
  have hd : decide (sbC r us n ds ps m q = 0) = false := decide_eq_false ha
  generalize sbC r us n ds ps m q = d at *
  refine cv_of_run 1000 sc13 sb13 89 [.tmp 6, .tmp 7, .tmp 8] tabOk (by kernel_rfl) Try.func13 rfl (by kernel_rfl) Try.ntmps13 rfl (by simp) rfl (by simp [bdL, SV.bd]) ?_
  simp (config := { maxSteps := 1000000 }) (disch := omega) only [go_sem, Int.reduceToNat, ↓reduceIte, Nat.reduceLT, Nat.reduceEqDiff, Nat.reduceAdd, Nat.reduceMul, Nat.reduceSub, Nat.reduceBEq, Nat.reduceLeDiff, reduceCtorEq, Nat.reduceLT, ↓Br_true, ↓Br_false, bind, pure, sc13, sb13]
  (have cc := cb; (first | ((first | refine callR (by rfl) (by rfl) (by rfl) cc ?_ | refine callM (by rfl) (by rfl) (by rfl) cc ?_ | refine callMo (by rfl) (by rfl) (by rfl) cc ?_); clear cc; rintro _ _ ⟨rfl, rfl⟩) | (refine callE (by rfl) cc (by rfl) ?_; clear cc)))
  simp (config := { maxSteps := 1000000 }) (disch := omega) only [go_sem, Int.reduceToNat, ↓reduceIte, Nat.reduceLT, Nat.reduceEqDiff, Nat.reduceAdd, Nat.reduceMul, Nat.reduceSub, Nat.reduceBEq, Nat.reduceLeDiff, reduceCtorEq, Nat.reduceLT, ↓Br_true, ↓Br_false, bind, pure, sc13, sb13, hd]
theorem sSeatPeopleBad_cv (r : Rom) (us : Nat → Win) (ds : Nat → Dsk) (ps : Nat → Psn) (n cap m capm q capq : Nat) (f g u : Nat → List FV) (H : RomH r us n cap f) (D : DskH ds m capm g) (P : PsnH ps q capq u) (ha : sbC r us n ds ps m q ≠ 0) :
    CV Try.prog 9 [romV r n cap, .slc 1 0 m capm, .slc 2 0 q capq] [.rows n cap 3 f false, .rows m capm 3 g false, .rows q capq 3 u false] (fun v h => v = .tup [.slc 3 0 0 0, .f (.int .i64 0), .f (.int .i64 (sbC r us n ds ps m q))] ∧ h = [.rows n cap 3 f false, .rows m capm 3 g false, .rows q capq 3 u false, .rows 0 0 1 noRow true]) := by
  have cb := l03BitsBad_cv r us ds ps n cap m capm q capq f g u H D P ha
  have hd : decide (sbC r us n ds ps m q = 0) = false := decide_eq_false ha
  generalize sbC r us n ds ps m q = d at *
  refine cv_of_run 1000 sc9 sb9 39 [.tmp 6, .tmp 7, .tmp 8] tabOk (by kernel_rfl) Try.func9 rfl (by kernel_rfl) Try.ntmps9 rfl (by simp) rfl (by simp [bdL, SV.bd]) ?_
  simp (config := { maxSteps := 1000000 }) (disch := omega) only [go_sem, Int.reduceToNat, ↓reduceIte, Nat.reduceLT, Nat.reduceEqDiff, Nat.reduceAdd, Nat.reduceMul, Nat.reduceSub, Nat.reduceBEq, Nat.reduceLeDiff, reduceCtorEq, Nat.reduceLT, ↓Br_true, ↓Br_false, bind, pure, sc9, sb9]
  (have cc := cb; (first | ((first | refine callR (by rfl) (by rfl) (by rfl) cc ?_ | refine callM (by rfl) (by rfl) (by rfl) cc ?_ | refine callMo (by rfl) (by rfl) (by rfl) cc ?_); clear cc; rintro _ _ ⟨rfl, rfl⟩) | (refine callE (by rfl) cc (by rfl) ?_; clear cc)))
  simp (config := { maxSteps := 1000000 }) (disch := omega) only [go_sem, Int.reduceToNat, ↓reduceIte, Nat.reduceLT, Nat.reduceEqDiff, Nat.reduceAdd, Nat.reduceMul, Nat.reduceSub, Nat.reduceBEq, Nat.reduceLeDiff, reduceCtorEq, Nat.reduceLT, ↓Br_true, ↓Br_false, bind, pure, sc9, sb9, hd]

end Go.Proofs.Ytdncopphjamilaa.Vx
