/- Trees, in the abstract: what hides a sun; the laws on single hours and on all of them. -/
import Derived.Test.YtdncopphjamilaaVs
import Derived.Test.YtdncopphjamilaaSun
import Derived.Test.YtdncopphjamilaaVt
import Derived.Test.YtdncopphjamilaaVa
namespace Go.Proofs.Ytdncopphjamilaa.Vx.Hd
set_option linter.unusedSimpArgs false
set_option linter.unusedVariables false
open Go Go.RowKit Fl
set_option maxRecDepth 100000
set_option maxHeartbeats 1000000
set_option linter.unusedSimpArgs false
set_option linter.unusedVariables false

abbrev sunB (x : Nat → Int) : Blk := .cells 48 (fun j => .int .i16 (x j)) false
abbrev sunV (x : Nat → Int) : SV := .arr 48 fun j => .int .i16 (x j)
theorem sunCode_cv (x : Nat → Int) (r : Bool) (hs : Small x) : CV Try.prog 132 [sunV x, .f (.bool r)] [] (fun v hh => v = .f (.int .i64 (sunC x r)) ∧ hh = []) :=
  CV.old trivial (enters_of Try.func132 (by kernel_rfl) (by kernel_rfl)) fun w β _ => by
    have := sunCode_c x r w hs
    exact this
theorem range_of {w : World} {β : Nat → Loc} {h : List Blk} {x : Nat → Int} {l : Nat} (H : Holds w β h) (hl : hget h l = sunB x) : w.rangeAt (β l).b (β l).lo (ints 48 x) := fun j v hv => by
  have hj : j < 48 := by
    have := (List.getElem?_eq_some_iff.1 hv).1
    simpa [ints_length] using this
  rw [ints_get x hj] at hv
  cases hv
  have := (H.ok l).cell 0 j (.f (.int .i16 (x j))) (by rw [hl]; simp [Blk.cell, hj]) rfl
  simpa [den, FV.val] using this.2
theorem l01Ok_cv (x : Nat → Int) (hs : Small x) : CV Try.prog 164 [.ptr 0 0 0] [sunB x] (fun v hh => v = .f (.bool (vSun x)) ∧ hh = [sunB x]) :=
  CV.old0 trivial (enters_of Try.func164 (by kernel_rfl) (by kernel_rfl)) fun w β H => by
    have := l01Ok_c x (β 0).b (β 0).lo w hs (range_of H rfl)
    simpa [denL, den, FV.val] using this
theorem hwithin_cv (n l u : Int) : CV Try.prog 102 [.f (.int .i64 n), .f (.int .i64 l), .f (.int .i64 u)] [] (fun v hh => v = .f (.bool (inn n l u)) ∧ hh = []) :=
  CV.old0 trivial (enters_of Try.func102 (by kernel_rfl) (by kernel_rfl)) fun w β _ => within_c n l u w
theorem hl00In_cv (n l u : Int) : CV Try.prog 106 [.f (.int .i64 n), .f (.int .i64 l), .f (.int .i64 u)] [] (fun v hh => v = .f (.bool (inn n l u)) ∧ hh = []) :=
  CV.old0 trivial (enters_of Try.func106 (by kernel_rfl) (by kernel_rfl)) fun w β _ => l00In_c n l u w
theorem hl01Faced_cv (n : Int) : CV Try.prog 125 [.f (.int .i64 n)] [] (fun v hh => v = .f (.bool (inn n 0 255)) ∧ hh = []) :=
  CV.old0 trivial (enters_of Try.func125 (by kernel_rfl) (by kernel_rfl)) fun w β _ => l01Faced_c n w
theorem rest_cv (a : Int) (h1 : -1000000 ≤ a) (h2 : a ≤ 1000000) : CV Try.prog 168 [.f (.int .i64 a), .f (.int .i64 256)] [] (fun v hh => v = .f (.int .i64 (ang a)) ∧ hh = []) :=
  CV.old0 trivial (enters_of Try.func168 (by kernel_rfl) (by kernel_rfl)) fun w β _ => rest_c a w h1 h2
theorem l01Angle_cv (a : Int) (h1 : -1000000 ≤ a) (h2 : a ≤ 1000000) : CV Try.prog 170 [.f (.int .i64 a)] [] (fun v hh => v = .f (.int .i64 (ang a)) ∧ hh = []) :=
  CV.old0 trivial (enters_of Try.func170 (by kernel_rfl) (by kernel_rfl)) fun w β _ => l01Angle_c a w h1 h2
theorem hl00Min_cv (a b : Int) : CV Try.prog 159 [.f (.int .i64 a), .f (.int .i64 b)] [] (fun v hh => v = .f (.int .i64 (mnI a b)) ∧ hh = []) := by
  refine cv_of_run 1000 sc159 sb159 10 [.tmp 4] tabOk (by kernel_rfl) Try.func159 rfl (by kernel_rfl) Try.ntmps159 rfl (by simp) rfl (by simp [bdL, SV.bd]) ?_
  simp (config := { maxSteps := 1000000 }) (disch := omega) only [go_sem, Int.reduceToNat, ↓reduceIte, Nat.reduceLT, Nat.reduceEqDiff, Nat.reduceAdd, Nat.reduceMul, Nat.reduceSub, Nat.reduceBEq, Nat.reduceLeDiff, reduceCtorEq, Nat.reduceLT, ↓Br_true, ↓Br_false, bind, pure, sc159, sb159]
  repeat' (first | (with_reducible refine And.intro (by first | (unfold SOk; kernel_rfl) | (unfold SBOk; kernel_rfl) | (with_reducible assumption) | omega | assumption) ?_) | (with_reducible refine Br_intro (fun hc => ?_) (fun hc => ?_)) | ((with_reducible show WidN _ _ _ _ _ _ _ _); (first | refine widL (by decide) (by with_reducible assumption) ?_ | refine widL (by decide) (FWok_nn (by with_reducible assumption)) ?_ | refine widN (by decide) (fun c hc => ?_)); simp (config := { maxSteps := 1000000 }) (disch := omega) only [go_sem, Int.reduceToNat, ↓reduceIte, Nat.reduceLT, Nat.reduceEqDiff, Nat.reduceAdd, Nat.reduceMul, Nat.reduceSub, Nat.reduceBEq, Nat.reduceLeDiff, reduceCtorEq, Nat.reduceLT, ↓Br_true, ↓Br_false, bind, pure, sc159, sb159]))
  · simp only [decide_eq_true_eq] at hc
    unfold mnI; rw [if_neg (by omega)]
  · simp only [decide_eq_false_iff_not] at hc
    unfold mnI; split
    · rfl
    · rw [show b = a by omega]
theorem isUp_cv (x : Nat → Int) (t : Nat) (h1 : t < 24) : CV Try.prog 133 [.ptr 0 0 0, .f (.int .i64 t)] [sunB x] (fun v h => v = .f (.bool (decide (0 < x t))) ∧ h = [sunB x]) := by
  refine cv_of_run 1000 sc133 sb133 12 [.tmp 4] tabOk (by kernel_rfl) Try.func133 rfl (by kernel_rfl) Try.ntmps133 rfl (by simp) rfl (by simp [bdL, SV.bd]) ?_
  simp (config := { maxSteps := 1000000 }) (disch := omega) only [go_sem, Int.reduceToNat, ↓reduceIte, Nat.reduceLT, Nat.reduceEqDiff, Nat.reduceAdd, Nat.reduceMul, Nat.reduceSub, Nat.reduceBEq, Nat.reduceLeDiff, reduceCtorEq, Nat.reduceLT, ↓Br_true, ↓Br_false, bind, pure, sc133, sb133]
  omega
structure Tr where
  a : Int
  b : Int
  c : Int
def Tr.row (t : Tr) : List FV := [.int .i16 t.a, .int .i16 t.b, .int .i16 t.c]
def Tr.sm (t : Tr) : Prop := (-32768 ≤ t.a ∧ t.a ≤ 32767) ∧ (-32768 ≤ t.b ∧ t.b ≤ 32767) ∧ (-32768 ≤ t.c ∧ t.c ≤ 32767)
def Tr.ok (t : Tr) : Bool := inn t.a 0 255 && inn t.b 0 128 && inn t.c 0 64
def Tr.hides (t : Tr) (x : Nat → Int) (h : Nat) : Bool := decide (0 < x h) && decide (x h ≤ t.c) && decide (mnI (ang (x (24 + h) - t.a)) (256 - ang (x (24 + h) - t.a)) ≤ t.b)
def anyT (ts : Nat → Tr) (x : Nat → Int) (h : Nat) (n : Nat) : Bool := (List.range n).any fun i => (ts i).hides x h
theorem anyT_succ (ts : Nat → Tr) (x : Nat → Int) (h n : Nat) : anyT ts x h (n + 1) = (anyT ts x h n || (ts n).hides x h) := by simp [anyT, List.range_succ, List.any_append]
theorem anyT_yes {ts : Nat → Tr} {x : Nat → Int} {h n k : Nat} (hk : k < n) (hh : (ts k).hides x h = true) : anyT ts x h n = true := List.any_eq_true.2 ⟨k, by simpa using hk, hh⟩
def allTr (ts : Nat → Tr) (n : Nat) : Bool := (List.range n).all fun i => (ts i).ok
theorem allTr_succ (ts : Nat → Tr) (n : Nat) : allTr ts (n + 1) = (allTr ts n && (ts n).ok) := by simp [allTr, List.range_succ, List.all_append]
theorem allTr_no {ts : Nat → Tr} {n k : Nat} (hk : k < n) (h : (ts k).ok = false) : allTr ts n = false := List.all_eq_false.2 ⟨k, by simpa using hk, by simp [h]⟩
def vTr (ts : Nat → Tr) (n : Nat) : Bool := allTr ts n && decide (n ≤ 8)
theorem ValidTrees_cv (ts : Nat → Tr) (n cap : Nat) (f : Nat → List FV) (hf : ∀ i, i < n → f i = (ts i).row) (hs : ∀ i, i < n → (ts i).sm) (hcap : n ≤ cap) (hn : n ≤ 1048576) :
    CV Try.prog 62 [.slc 0 0 n cap] [.rows n cap 3 f false] (fun v h => v = .f (.bool (vTr ts n)) ∧ h = [.rows n cap 3 f false]) := by
  refine cv_of_run 1000 sc62 sb62 34 [.tmp 2] tabOk (by kernel_rfl) Try.func62 rfl (by kernel_rfl) Try.ntmps62 rfl (by simp) rfl (by simp [bdL, SV.bd]) ?_
  simp (config := { maxSteps := 1000000 }) (disch := omega) only [go_sem, Int.reduceToNat, ↓reduceIte, Nat.reduceLT, Nat.reduceEqDiff, Nat.reduceAdd, Nat.reduceMul, Nat.reduceSub, Nat.reduceBEq, Nat.reduceLeDiff, reduceCtorEq, Nat.reduceLT, ↓Br_true, ↓Br_false, bind, pure, sc62, sb62]
  refine ⟨Nat, fun k => k ≤ n ∧ allTr ts k = true, fun k => n - k, fun k => [(0, .slc 0 0 n cap), (5, .slc 0 0 n cap), (6, .f (.int .i64 n)), (7, .f (.int .i64 k))], fun _ => [.rows n cap 3 f false], 0, (by intro _; simp), ?_, (by (try refine Or.inl ?_); simp [Cov, covE, covH, cb_dead, cb_lit, cb_rows, cb_cells, cd_lit, cd_rows, cd_cells, cd_dead, covRow, look, SV.known, SV.bd, bdL, hcap] <;> omega), ?_⟩
  · exact ⟨by omega, rfl⟩
  · rintro k ⟨hk, hall⟩
    by_cases hlt : k < n
    · have hd : decide ((k : Int) < n) = true := decide_eq_true (by omega)
      have e1 := hf k hlt
      obtain ⟨⟨_, _⟩, ⟨_, _⟩, ⟨_, _⟩⟩ := hs k hlt
      simp only [Tr.row] at e1
      simp (config := { maxSteps := 1000000 }) (disch := omega) only [go_sem, Int.reduceToNat, ↓reduceIte, Nat.reduceLT, Nat.reduceEqDiff, Nat.reduceAdd, Nat.reduceMul, Nat.reduceSub, Nat.reduceBEq, Nat.reduceLeDiff, reduceCtorEq, Nat.reduceLT, ↓Br_true, ↓Br_false, bind, pure, sc62, sb62, hd, e1]
      repeat' (first | (with_reducible refine And.intro (by first | (unfold SOk; kernel_rfl) | (unfold SBOk; kernel_rfl) | (with_reducible assumption) | omega | assumption) ?_) | (with_reducible refine Br_intro (fun hc => ?_) (fun hc => ?_)) | ((first | (refine callR (by rfl) (by rfl) (by rfl) (hwithin_cv _ _ _) ?_; rintro _ _ ⟨rfl, rfl⟩) | (refine callM (by rfl) (by rfl) (by rfl) (hwithin_cv _ _ _) ?_; rintro _ _ ⟨rfl, rfl⟩) | (refine callE (by rfl) (hwithin_cv _ _ _) (by rfl) ?_)); simp (config := { maxSteps := 1000000 }) (disch := omega) only [go_sem, Int.reduceToNat, ↓reduceIte, Nat.reduceLT, Nat.reduceEqDiff, Nat.reduceAdd, Nat.reduceMul, Nat.reduceSub, Nat.reduceBEq, Nat.reduceLeDiff, reduceCtorEq, Nat.reduceLT, ↓Br_true, ↓Br_false, bind, pure, sc62, sb62, hd, e1]) | ((with_reducible show WidN _ _ _ _ _ _ _ _); (first | refine widL (by decide) (by with_reducible assumption) ?_ | refine widL (by decide) (FWok_nn (by with_reducible assumption)) ?_ | refine widN (by decide) (fun c hc => ?_)); simp (config := { maxSteps := 1000000 }) (disch := omega) only [go_sem, Int.reduceToNat, ↓reduceIte, Nat.reduceLT, Nat.reduceEqDiff, Nat.reduceAdd, Nat.reduceMul, Nat.reduceSub, Nat.reduceBEq, Nat.reduceLeDiff, reduceCtorEq, Nat.reduceLT, ↓Br_true, ↓Br_false, bind, pure, sc62, sb62, hd, e1]))
      all_goals simp only [Bool.not_eq_true', Bool.not_eq_false'] at *
      all_goals first
        | (have h9 : (ts k).ok = false := by simp [Tr.ok, *]
           simp [vTr, allTr_no hlt h9]; done)
        | skip
      have h9 : (ts k).ok = true := by simp [Tr.ok, *]
      exact ⟨k + 1, ⟨by omega, by rw [allTr_succ, hall, h9]; rfl⟩, by omega, by (try refine Or.inl ?_); simp [Cov, covE, covH, cb_dead, cb_lit, cb_rows, cb_cells, cd_lit, cd_rows, cd_cells, cd_dead, covRow, look, SV.known, SV.bd, bdL, hcap] <;> omega⟩
    · have hd : decide ((k : Int) < n) = false := decide_eq_false (by omega)
      simp (config := { maxSteps := 1000000 }) (disch := omega) only [go_sem, Int.reduceToNat, ↓reduceIte, Nat.reduceLT, Nat.reduceEqDiff, Nat.reduceAdd, Nat.reduceMul, Nat.reduceSub, Nat.reduceBEq, Nat.reduceLeDiff, reduceCtorEq, Nat.reduceLT, ↓Br_true, ↓Br_false, bind, pure, sc62, sb62, hd]
      obtain rfl : k = n := by omega
      have : decide ((k : Int) ≤ 8) = decide (k ≤ 8) := by
        by_cases c : k ≤ 8
        · rw [decide_eq_true c, decide_eq_true (by omega)]
        · rw [decide_eq_false c, decide_eq_false (by omega)]
      simp [vTr, hall, this]
theorem l04Trees_cv (ts : Nat → Tr) (n cap : Nat) (f : Nat → List FV) (hf : ∀ i, i < n → f i = (ts i).row) (hs : ∀ i, i < n → (ts i).sm) (hcap : n ≤ cap) (hn : n ≤ 1048576) :
    CV Try.prog 169 [.slc 0 0 n cap] [.rows n cap 3 f false] (fun v h => v = .f (.bool (vTr ts n)) ∧ h = [.rows n cap 3 f false]) := by
  refine cv_of_run 1000 sc169 sb169 37 [.tmp 2] tabOk (by kernel_rfl) Try.func169 rfl (by kernel_rfl) Try.ntmps169 rfl (by simp) rfl (by simp [bdL, SV.bd]) ?_
  simp (config := { maxSteps := 1000000 }) (disch := omega) only [go_sem, Int.reduceToNat, ↓reduceIte, Nat.reduceLT, Nat.reduceEqDiff, Nat.reduceAdd, Nat.reduceMul, Nat.reduceSub, Nat.reduceBEq, Nat.reduceLeDiff, reduceCtorEq, Nat.reduceLT, ↓Br_true, ↓Br_false, bind, pure, sc169, sb169]
  refine ⟨Nat, fun k => k ≤ n ∧ allTr ts k = true, fun k => n - k, fun k => [(0, .slc 0 0 n cap), (3, .f (.int .i64 k))], fun _ => [.rows n cap 3 f false], 0, (by intro _; simp), ?_, (by (try refine Or.inl ?_); simp [Cov, covE, covH, cb_dead, cb_lit, cb_rows, cb_cells, cd_lit, cd_rows, cd_cells, cd_dead, covRow, look, SV.known, SV.bd, bdL, hcap] <;> omega), ?_⟩
  · exact ⟨by omega, rfl⟩
  · rintro k ⟨hk, hall⟩
    by_cases hlt : k < n
    · have hd : decide ((k : Int) < n) = true := decide_eq_true (by omega)
      have e1 := hf k hlt
      obtain ⟨⟨_, _⟩, ⟨_, _⟩, ⟨_, _⟩⟩ := hs k hlt
      simp only [Tr.row] at e1
      simp (config := { maxSteps := 1000000 }) (disch := omega) only [go_sem, Int.reduceToNat, ↓reduceIte, Nat.reduceLT, Nat.reduceEqDiff, Nat.reduceAdd, Nat.reduceMul, Nat.reduceSub, Nat.reduceBEq, Nat.reduceLeDiff, reduceCtorEq, Nat.reduceLT, ↓Br_true, ↓Br_false, bind, pure, sc169, sb169, hd, e1]
      repeat' (first | (with_reducible refine And.intro (by first | (unfold SOk; kernel_rfl) | (unfold SBOk; kernel_rfl) | (with_reducible assumption) | omega | assumption) ?_) | (with_reducible refine Br_intro (fun hc => ?_) (fun hc => ?_)) | ((first | (refine callR (by rfl) (by rfl) (by rfl) (hl01Faced_cv _) ?_; rintro _ _ ⟨rfl, rfl⟩) | (refine callM (by rfl) (by rfl) (by rfl) (hl01Faced_cv _) ?_; rintro _ _ ⟨rfl, rfl⟩) | (refine callE (by rfl) (hl01Faced_cv _) (by rfl) ?_)); simp (config := { maxSteps := 1000000 }) (disch := omega) only [go_sem, Int.reduceToNat, ↓reduceIte, Nat.reduceLT, Nat.reduceEqDiff, Nat.reduceAdd, Nat.reduceMul, Nat.reduceSub, Nat.reduceBEq, Nat.reduceLeDiff, reduceCtorEq, Nat.reduceLT, ↓Br_true, ↓Br_false, bind, pure, sc169, sb169, hd, e1]) | ((first | (refine callR (by rfl) (by rfl) (by rfl) (hl00In_cv _ _ _) ?_; rintro _ _ ⟨rfl, rfl⟩) | (refine callM (by rfl) (by rfl) (by rfl) (hl00In_cv _ _ _) ?_; rintro _ _ ⟨rfl, rfl⟩) | (refine callE (by rfl) (hl00In_cv _ _ _) (by rfl) ?_)); simp (config := { maxSteps := 1000000 }) (disch := omega) only [go_sem, Int.reduceToNat, ↓reduceIte, Nat.reduceLT, Nat.reduceEqDiff, Nat.reduceAdd, Nat.reduceMul, Nat.reduceSub, Nat.reduceBEq, Nat.reduceLeDiff, reduceCtorEq, Nat.reduceLT, ↓Br_true, ↓Br_false, bind, pure, sc169, sb169, hd, e1]) | ((with_reducible show WidN _ _ _ _ _ _ _ _); (first | refine widL (by decide) (by with_reducible assumption) ?_ | refine widL (by decide) (FWok_nn (by with_reducible assumption)) ?_ | refine widN (by decide) (fun c hc => ?_)); simp (config := { maxSteps := 1000000 }) (disch := omega) only [go_sem, Int.reduceToNat, ↓reduceIte, Nat.reduceLT, Nat.reduceEqDiff, Nat.reduceAdd, Nat.reduceMul, Nat.reduceSub, Nat.reduceBEq, Nat.reduceLeDiff, reduceCtorEq, Nat.reduceLT, ↓Br_true, ↓Br_false, bind, pure, sc169, sb169, hd, e1]))
      all_goals simp only [Bool.not_eq_true', Bool.not_eq_false'] at *
      all_goals first
        | (have h9 : (ts k).ok = false := by simp [Tr.ok, *]
           simp [vTr, allTr_no hlt h9]; done)
        | skip
      have h9 : (ts k).ok = true := by simp [Tr.ok, *]
      exact ⟨k + 1, ⟨by omega, by rw [allTr_succ, hall, h9]; rfl⟩, by omega, by (try refine Or.inl ?_); simp [Cov, covE, covH, cb_dead, cb_lit, cb_rows, cb_cells, cd_lit, cd_rows, cd_cells, cd_dead, covRow, look, SV.known, SV.bd, bdL, hcap] <;> omega⟩
    · have hd : decide ((k : Int) < n) = false := decide_eq_false (by omega)
      simp (config := { maxSteps := 1000000 }) (disch := omega) only [go_sem, Int.reduceToNat, ↓reduceIte, Nat.reduceLT, Nat.reduceEqDiff, Nat.reduceAdd, Nat.reduceMul, Nat.reduceSub, Nat.reduceBEq, Nat.reduceLeDiff, reduceCtorEq, Nat.reduceLT, ↓Br_true, ↓Br_false, bind, pure, sc169, sb169, hd]
      obtain rfl : k = n := by omega
      have : decide ((k : Int) ≤ 8) = decide (k ≤ 8) := by
        by_cases c : k ≤ 8
        · rw [decide_eq_true c, decide_eq_true (by omega)]
        · rw [decide_eq_false c, decide_eq_false (by omega)]
      simp [vTr, hall, this]
theorem isHidden_cv (ts : Nat → Tr) (n cap : Nat) (f : Nat → List FV) (x : Nat → Int) (t : Nat) (hx : Small x) (ht : t < 24) (hf : ∀ i, i < n → f i = (ts i).row) (hs : ∀ i, i < n → (ts i).sm) (hcap : n ≤ cap) (hn : n ≤ 1048576) :
    CV Try.prog 128 [.slc 0 0 n cap, .ptr 1 0 0, .f (.int .i64 t)] [.rows n cap 3 f false, sunB x] (fun v h => v = .f (.bool (anyT ts x t n)) ∧ h = [.rows n cap 3 f false, sunB x]) := by
  have hx1 := hx t
  have hx2 := hx (24 + t)
  refine cv_of_run 1000 sc128 sb128 53 [.tmp 6] tabOk (by kernel_rfl) Try.func128 rfl (by kernel_rfl) Try.ntmps128 rfl (by simp) rfl (by simp [bdL, SV.bd]) ?_
  simp (config := { maxSteps := 1000000 }) (disch := omega) only [go_sem, Int.reduceToNat, ↓reduceIte, Nat.reduceLT, Nat.reduceEqDiff, Nat.reduceAdd, Nat.reduceMul, Nat.reduceSub, Nat.reduceBEq, Nat.reduceLeDiff, reduceCtorEq, Nat.reduceLT, ↓Br_true, ↓Br_false, bind, pure, sc128, sb128]
  refine ⟨Nat, fun k => k ≤ n ∧ anyT ts x t k = false, fun k => n - k, fun k => [(1, .ptr 1 0 0), (2, .f (.int .i64 t)), (10, .slc 0 0 n cap), (11, .f (.int .i64 n)), (12, .f (.int .i64 k))], fun _ => [.rows n cap 3 f false, sunB x], 0, (by intro _; simp), ?_, (by (try refine Or.inl ?_); simp [Cov, covE, covH, cb_dead, cb_lit, cb_rows, cb_cells, cd_lit, cd_rows, cd_cells, cd_dead, covRow, look, SV.known, SV.bd, bdL, hcap] <;> omega), ?_⟩
  · exact ⟨by omega, rfl⟩
  · rintro k ⟨hk, hall⟩
    by_cases hlt : k < n
    · have hd : decide ((k : Int) < n) = true := decide_eq_true (by omega)
      have e1 := hf k hlt
      obtain ⟨⟨_, _⟩, ⟨_, _⟩, ⟨_, _⟩⟩ := hs k hlt
      have hal := ang_lt (x (24 + t) - (ts k).a)
      simp only [Tr.row] at e1
      simp (config := { maxSteps := 1000000 }) (disch := omega) only [go_sem, Int.reduceToNat, ↓reduceIte, Nat.reduceLT, Nat.reduceEqDiff, Nat.reduceAdd, Nat.reduceMul, Nat.reduceSub, Nat.reduceBEq, Nat.reduceLeDiff, reduceCtorEq, Nat.reduceLT, ↓Br_true, ↓Br_false, bind, pure, sc128, sb128, hd, e1]
      repeat' (first | (with_reducible refine And.intro (by first | (unfold SOk; kernel_rfl) | (unfold SBOk; kernel_rfl) | (with_reducible assumption) | omega | assumption) ?_) | (with_reducible refine Br_intro (fun hc => ?_) (fun hc => ?_)) | ((have cc := rest_cv (x (24 + t) - (ts k).a) (by omega) (by omega); (first | ((first | refine callR (by rfl) (by rfl) (by rfl) cc ?_ | refine callM (by rfl) (by rfl) (by rfl) cc ?_); clear cc; rintro _ _ ⟨rfl, rfl⟩) | (refine callE (by rfl) cc (by rfl) ?_; clear cc))); simp (config := { maxSteps := 1000000 }) (disch := omega) only [go_sem, Int.reduceToNat, ↓reduceIte, Nat.reduceLT, Nat.reduceEqDiff, Nat.reduceAdd, Nat.reduceMul, Nat.reduceSub, Nat.reduceBEq, Nat.reduceLeDiff, reduceCtorEq, Nat.reduceLT, ↓Br_true, ↓Br_false, bind, pure, sc128, sb128, hd, e1]) | ((have cc := isUp_cv x t ht; (first | ((first | refine callR (by rfl) (by rfl) (by rfl) cc ?_ | refine callM (by rfl) (by rfl) (by rfl) cc ?_); clear cc; rintro _ _ ⟨rfl, rfl⟩) | (refine callE (by rfl) cc (by rfl) ?_; clear cc))); simp (config := { maxSteps := 1000000 }) (disch := omega) only [go_sem, Int.reduceToNat, ↓reduceIte, Nat.reduceLT, Nat.reduceEqDiff, Nat.reduceAdd, Nat.reduceMul, Nat.reduceSub, Nat.reduceBEq, Nat.reduceLeDiff, reduceCtorEq, Nat.reduceLT, ↓Br_true, ↓Br_false, bind, pure, sc128, sb128, hd, e1]) | ((with_reducible show WidN _ _ _ _ _ _ _ _); (first | refine widL (by decide) (by with_reducible assumption) ?_ | refine widL (by decide) (FWok_nn (by with_reducible assumption)) ?_ | refine widN (by decide) (fun c hc => ?_)); simp (config := { maxSteps := 1000000 }) (disch := omega) only [go_sem, Int.reduceToNat, ↓reduceIte, Nat.reduceLT, Nat.reduceEqDiff, Nat.reduceAdd, Nat.reduceMul, Nat.reduceSub, Nat.reduceBEq, Nat.reduceLeDiff, reduceCtorEq, Nat.reduceLT, ↓Br_true, ↓Br_false, bind, pure, sc128, sb128, hd, e1]))
      all_goals simp only [decide_eq_true_eq, decide_eq_false_iff_not] at *
      all_goals first
        | (have h9 : (ts k).hides x t = true := by simp [Tr.hides, *]
           simp [anyT_yes hlt h9]; done)
        | (have h9 : (ts k).hides x t = false := by simp [Tr.hides, *]
           exact ⟨k + 1, ⟨by omega, by rw [anyT_succ, hall, h9]; rfl⟩, by omega, by (try refine Or.inl ?_); simp [Cov, covE, covH, cb_dead, cb_lit, cb_rows, cb_cells, cd_lit, cd_rows, cd_cells, cd_dead, covRow, look, SV.known, SV.bd, bdL, hcap] <;> omega⟩)
    · have hd : decide ((k : Int) < n) = false := decide_eq_false (by omega)
      simp (config := { maxSteps := 1000000 }) (disch := omega) only [go_sem, Int.reduceToNat, ↓reduceIte, Nat.reduceLT, Nat.reduceEqDiff, Nat.reduceAdd, Nat.reduceMul, Nat.reduceSub, Nat.reduceBEq, Nat.reduceLeDiff, reduceCtorEq, Nat.reduceLT, ↓Br_true, ↓Br_false, bind, pure, sc128, sb128, hd]
      obtain rfl : k = n := by omega
      simp [hall]
theorem l04Hidden_cv (ts : Nat → Tr) (n cap : Nat) (f : Nat → List FV) (x : Nat → Int) (t : Nat) (hx : Small x) (ht : t < 24) (hf : ∀ i, i < n → f i = (ts i).row) (hs : ∀ i, i < n → (ts i).sm) (hcap : n ≤ cap) (hn : n ≤ 1048576) :
    CV Try.prog 130 [.slc 0 0 n cap, .ptr 1 0 0, .f (.int .i64 t)] [.rows n cap 3 f false, sunB x] (fun v h => v = .f (.bool (anyT ts x t n)) ∧ h = [.rows n cap 3 f false, sunB x]) := by
  have hx1 := hx t
  have hx2 := hx (24 + t)
  refine cv_of_run 1000 sc130 sb130 63 [.tmp 6] tabOk (by kernel_rfl) Try.func130 rfl (by kernel_rfl) Try.ntmps130 rfl (by simp) rfl (by simp [bdL, SV.bd]) ?_
  simp (config := { maxSteps := 1000000 }) (disch := omega) only [go_sem, Int.reduceToNat, ↓reduceIte, Nat.reduceLT, Nat.reduceEqDiff, Nat.reduceAdd, Nat.reduceMul, Nat.reduceSub, Nat.reduceBEq, Nat.reduceLeDiff, reduceCtorEq, Nat.reduceLT, ↓Br_true, ↓Br_false, bind, pure, sc130, sb130]
  repeat (with_reducible refine And.intro (by first | omega | assumption | (unfold SOk; kernel_rfl) | (unfold SBOk; kernel_rfl)) ?_)
  refine ⟨Nat, fun k => k ≤ n ∧ anyT ts x t k = false, fun k => n - k, fun k => [(0, .slc 0 0 n cap), (1, .ptr 1 0 0), (2, .f (.int .i64 t)), (7, .f (.int .i64 (x t))), (8, .f (.int .i64 k))], fun _ => [.rows n cap 3 f false, sunB x], 0, (by intro _; simp), ?_, (by (try refine Or.inl ?_); simp [Cov, covE, covH, cb_dead, cb_lit, cb_rows, cb_cells, cd_lit, cd_rows, cd_cells, cd_dead, covRow, look, SV.known, SV.bd, bdL, hcap] <;> omega), ?_⟩
  · exact ⟨by omega, rfl⟩
  · rintro k ⟨hk, hall⟩
    by_cases hlt : k < n
    · have hd : decide ((k : Int) < n) = true := decide_eq_true (by omega)
      have e1 := hf k hlt
      obtain ⟨⟨_, _⟩, ⟨_, _⟩, ⟨_, _⟩⟩ := hs k hlt
      have hal := ang_lt (x (24 + t) - (ts k).a)
      simp only [Tr.row] at e1
      simp (config := { maxSteps := 1000000 }) (disch := omega) only [go_sem, Int.reduceToNat, ↓reduceIte, Nat.reduceLT, Nat.reduceEqDiff, Nat.reduceAdd, Nat.reduceMul, Nat.reduceSub, Nat.reduceBEq, Nat.reduceLeDiff, reduceCtorEq, Nat.reduceLT, ↓Br_true, ↓Br_false, bind, pure, sc130, sb130, hd, e1]
      repeat' (first | (with_reducible refine And.intro (by first | (unfold SOk; kernel_rfl) | (unfold SBOk; kernel_rfl) | (with_reducible assumption) | omega | assumption) ?_) | (with_reducible refine Br_intro (fun hc => ?_) (fun hc => ?_)) | ((have cc := l01Angle_cv (x (24 + t) - (ts k).a) (by omega) (by omega); (first | ((first | refine callR (by rfl) (by rfl) (by rfl) cc ?_ | refine callM (by rfl) (by rfl) (by rfl) cc ?_); clear cc; rintro _ _ ⟨rfl, rfl⟩) | (refine callE (by rfl) cc (by rfl) ?_; clear cc))); simp (config := { maxSteps := 1000000 }) (disch := omega) only [go_sem, Int.reduceToNat, ↓reduceIte, Nat.reduceLT, Nat.reduceEqDiff, Nat.reduceAdd, Nat.reduceMul, Nat.reduceSub, Nat.reduceBEq, Nat.reduceLeDiff, reduceCtorEq, Nat.reduceLT, ↓Br_true, ↓Br_false, bind, pure, sc130, sb130, hd, e1]) | ((first | (refine callR (by rfl) (by rfl) (by rfl) (hl00Min_cv _ _) ?_; rintro _ _ ⟨rfl, rfl⟩) | (refine callM (by rfl) (by rfl) (by rfl) (hl00Min_cv _ _) ?_; rintro _ _ ⟨rfl, rfl⟩) | (refine callE (by rfl) (hl00Min_cv _ _) (by rfl) ?_)); simp (config := { maxSteps := 1000000 }) (disch := omega) only [go_sem, Int.reduceToNat, ↓reduceIte, Nat.reduceLT, Nat.reduceEqDiff, Nat.reduceAdd, Nat.reduceMul, Nat.reduceSub, Nat.reduceBEq, Nat.reduceLeDiff, reduceCtorEq, Nat.reduceLT, ↓Br_true, ↓Br_false, bind, pure, sc130, sb130, hd, e1]) | ((with_reducible show WidN _ _ _ _ _ _ _ _); (first | refine widL (by decide) (by with_reducible assumption) ?_ | refine widL (by decide) (FWok_nn (by with_reducible assumption)) ?_ | refine widN (by decide) (fun c hc => ?_)); simp (config := { maxSteps := 1000000 }) (disch := omega) only [go_sem, Int.reduceToNat, ↓reduceIte, Nat.reduceLT, Nat.reduceEqDiff, Nat.reduceAdd, Nat.reduceMul, Nat.reduceSub, Nat.reduceBEq, Nat.reduceLeDiff, reduceCtorEq, Nat.reduceLT, ↓Br_true, ↓Br_false, bind, pure, sc130, sb130, hd, e1]))
      all_goals simp only [decide_eq_true_eq, decide_eq_false_iff_not] at *
      all_goals first
        | (have h9 : (ts k).hides x t = true := by simp [Tr.hides, *]
           simp [anyT_yes hlt h9]; done)
        | (have h9 : (ts k).hides x t = false := by simp [Tr.hides, *]
           exact ⟨k + 1, ⟨by omega, by rw [anyT_succ, hall, h9]; rfl⟩, by omega, by (try refine Or.inl ?_); simp [Cov, covE, covH, cb_dead, cb_lit, cb_rows, cb_cells, cd_lit, cd_rows, cd_cells, cd_dead, covRow, look, SV.known, SV.bd, bdL, hcap] <;> omega⟩)
    · have hd : decide ((k : Int) < n) = false := decide_eq_false (by omega)
      simp (config := { maxSteps := 1000000 }) (disch := omega) only [go_sem, Int.reduceToNat, ↓reduceIte, Nat.reduceLT, Nat.reduceEqDiff, Nat.reduceAdd, Nat.reduceMul, Nat.reduceSub, Nat.reduceBEq, Nat.reduceLeDiff, reduceCtorEq, Nat.reduceLT, ↓Br_true, ↓Br_false, bind, pure, sc130, sb130, hd]
      obtain rfl : k = n := by omega
      simp [hall]
def trC (ts : Nat → Tr) (n : Nat) (x : Nat → Int) (r : Bool) : Int := if vTr ts n then sunC x r else 1
theorem treesCode_cv (ts : Nat → Tr) (n cap : Nat) (f : Nat → List FV) (x : Nat → Int) (r : Bool) (hx : Small x) (hf : ∀ i, i < n → f i = (ts i).row) (hs : ∀ i, i < n → (ts i).sm) (hcap : n ≤ cap) (hn : n ≤ 1048576) :
    CV Try.prog 127 [.slc 0 0 n cap, sunV x, .f (.bool r)] [.rows n cap 3 f false] (fun v h => v = .f (.int .i64 (trC ts n x r)) ∧ h = [.rows n cap 3 f false]) := by
  refine cv_of_run 1000 sc127 sb127 13 [.tmp 6] tabOk (by kernel_rfl) Try.func127 rfl (by kernel_rfl) Try.ntmps127 rfl (by simp) rfl (by simp [bdL, SV.bd]) ?_
  simp (config := { maxSteps := 1000000 }) (disch := omega) only [go_sem, Int.reduceToNat, ↓reduceIte, Nat.reduceLT, Nat.reduceEqDiff, Nat.reduceAdd, Nat.reduceMul, Nat.reduceSub, Nat.reduceBEq, Nat.reduceLeDiff, reduceCtorEq, Nat.reduceLT, ↓Br_true, ↓Br_false, bind, pure, sc127, sb127]
  repeat' (first | (with_reducible refine And.intro (by first | (unfold SOk; kernel_rfl) | (unfold SBOk; kernel_rfl) | (with_reducible assumption) | omega | assumption) ?_) | (with_reducible refine Br_intro (fun hc => ?_) (fun hc => ?_)) | ((have cc := ValidTrees_cv ts n cap f hf hs hcap hn; (first | ((first | refine callR (by rfl) (by rfl) (by rfl) cc ?_ | refine callM (by rfl) (by rfl) (by rfl) cc ?_); clear cc; rintro _ _ ⟨rfl, rfl⟩) | (refine callE (by rfl) cc (by rfl) ?_; clear cc))); simp (config := { maxSteps := 1000000 }) (disch := omega) only [go_sem, Int.reduceToNat, ↓reduceIte, Nat.reduceLT, Nat.reduceEqDiff, Nat.reduceAdd, Nat.reduceMul, Nat.reduceSub, Nat.reduceBEq, Nat.reduceLeDiff, reduceCtorEq, Nat.reduceLT, ↓Br_true, ↓Br_false, bind, pure, sc127, sb127]) | ((have cc := sunCode_cv x r hx; (first | ((first | refine callR (by rfl) (by rfl) (by rfl) cc ?_ | refine callM (by rfl) (by rfl) (by rfl) cc ?_); clear cc; rintro _ _ ⟨rfl, rfl⟩) | (refine callE (by rfl) cc (by rfl) ?_; clear cc))); simp (config := { maxSteps := 1000000 }) (disch := omega) only [go_sem, Int.reduceToNat, ↓reduceIte, Nat.reduceLT, Nat.reduceEqDiff, Nat.reduceAdd, Nat.reduceMul, Nat.reduceSub, Nat.reduceBEq, Nat.reduceLeDiff, reduceCtorEq, Nat.reduceLT, ↓Br_true, ↓Br_false, bind, pure, sc127, sb127]) | ((with_reducible show WidN _ _ _ _ _ _ _ _); (first | refine widL (by decide) (by with_reducible assumption) ?_ | refine widL (by decide) (FWok_nn (by with_reducible assumption)) ?_ | refine widN (by decide) (fun c hc => ?_)); simp (config := { maxSteps := 1000000 }) (disch := omega) only [go_sem, Int.reduceToNat, ↓reduceIte, Nat.reduceLT, Nat.reduceEqDiff, Nat.reduceAdd, Nat.reduceMul, Nat.reduceSub, Nat.reduceBEq, Nat.reduceLeDiff, reduceCtorEq, Nat.reduceLT, ↓Br_true, ↓Br_false, bind, pure, sc127, sb127]))
  all_goals simp only [Bool.not_eq_true', Bool.not_eq_false'] at hc
  all_goals simp [trC, hc]
theorem l04Shadow_cv (ts : Nat → Tr) (n cap : Nat) (f : Nat → List FV) (x : Nat → Int) (r : Bool) (hx : Small x) (hf : ∀ i, i < n → f i = (ts i).row) (hs : ∀ i, i < n → (ts i).sm) (hcap : n ≤ cap) (hn : n ≤ 1048576) :
    CV Try.prog 129 [.slc 0 0 n cap, .ptr 1 0 0, .f (.bool r)] [.rows n cap 3 f false, sunB x] (fun v h => v = .f (.int .i64 (trC ts n x r)) ∧ h = [.rows n cap 3 f false, sunB x]) := by
  refine cv_of_run 1000 sc129 sb129 17 [.tmp 6] tabOk (by kernel_rfl) Try.func129 rfl (by kernel_rfl) Try.ntmps129 rfl (by simp) rfl (by simp [bdL, SV.bd]) ?_
  simp (config := { maxSteps := 1000000 }) (disch := omega) only [go_sem, Int.reduceToNat, ↓reduceIte, Nat.reduceLT, Nat.reduceEqDiff, Nat.reduceAdd, Nat.reduceMul, Nat.reduceSub, Nat.reduceBEq, Nat.reduceLeDiff, reduceCtorEq, Nat.reduceLT, ↓Br_true, ↓Br_false, bind, pure, sc129, sb129]
  repeat' (first | (with_reducible refine And.intro (by first | (unfold SOk; kernel_rfl) | (unfold SBOk; kernel_rfl) | (with_reducible assumption) | omega | assumption) ?_) | (with_reducible refine Br_intro (fun hc => ?_) (fun hc => ?_)) | ((have cc := l04Trees_cv ts n cap f hf hs hcap hn; (first | ((first | refine callR (by rfl) (by rfl) (by rfl) cc ?_ | refine callM (by rfl) (by rfl) (by rfl) cc ?_); clear cc; rintro _ _ ⟨rfl, rfl⟩) | (refine callE (by rfl) cc (by rfl) ?_; clear cc))); simp (config := { maxSteps := 1000000 }) (disch := omega) only [go_sem, Int.reduceToNat, ↓reduceIte, Nat.reduceLT, Nat.reduceEqDiff, Nat.reduceAdd, Nat.reduceMul, Nat.reduceSub, Nat.reduceBEq, Nat.reduceLeDiff, reduceCtorEq, Nat.reduceLT, ↓Br_true, ↓Br_false, bind, pure, sc129, sb129]) | ((have cc := l01Ok_cv x hx; (first | ((first | refine callR (by rfl) (by rfl) (by rfl) cc ?_ | refine callM (by rfl) (by rfl) (by rfl) cc ?_); clear cc; rintro _ _ ⟨rfl, rfl⟩) | (refine callE (by rfl) cc (by rfl) ?_; clear cc))); simp (config := { maxSteps := 1000000 }) (disch := omega) only [go_sem, Int.reduceToNat, ↓reduceIte, Nat.reduceLT, Nat.reduceEqDiff, Nat.reduceAdd, Nat.reduceMul, Nat.reduceSub, Nat.reduceBEq, Nat.reduceLeDiff, reduceCtorEq, Nat.reduceLT, ↓Br_true, ↓Br_false, bind, pure, sc129, sb129]) | ((with_reducible show WidN _ _ _ _ _ _ _ _); (first | refine widL (by decide) (by with_reducible assumption) ?_ | refine widL (by decide) (FWok_nn (by with_reducible assumption)) ?_ | refine widN (by decide) (fun c hc => ?_)); simp (config := { maxSteps := 1000000 }) (disch := omega) only [go_sem, Int.reduceToNat, ↓reduceIte, Nat.reduceLT, Nat.reduceEqDiff, Nat.reduceAdd, Nat.reduceMul, Nat.reduceSub, Nat.reduceBEq, Nat.reduceLeDiff, reduceCtorEq, Nat.reduceLT, ↓Br_true, ↓Br_false, bind, pure, sc129, sb129]))
  all_goals simp only [Bool.not_eq_true', Bool.not_eq_false'] at *
  all_goals simp [trC, sunC, *]
theorem trC_zero {ts : Nat → Tr} {n : Nat} {x : Nat → Int} {r : Bool} (h : trC ts n x r = 0) : r = true := by
  unfold trC at h
  split at h
  · unfold sunC at h
    split at h
    · split at h
      · assumption
      · simp at h
    · simp at h
  · simp at h
/-- The bits of the hours. -/
def hBits (g : Nat → Bool) : Nat → Int
  | 0 => 0
  | k + 1 => if g k then bitI .or .u32 (hBits g k) (shlI .u32 1 k) else hBits g k
theorem HiddenHours_cv (ts : Nat → Tr) (n cap : Nat) (f : Nat → List FV) (x : Nat → Int) (hx : Small x) (hf : ∀ i, i < n → f i = (ts i).row) (hs : ∀ i, i < n → (ts i).sm) (hcap : n ≤ cap) (hn : n ≤ 1048576) :
    CV Try.prog 58 [.slc 0 0 n cap, sunV x] [.rows n cap 3 f false] (fun v h => v = .tup [.f (.int .u32 (if trC ts n x true = 0 then hBits (fun t => anyT ts x t n) 24 else 0)), .f (.int .i64 (trC ts n x true))] ∧ h = [.rows n cap 3 f false]) := by
  refine cv_of_run 1000 sc58 sb58 27 [.tmp 4, .tmp 5] tabOk (by kernel_rfl) Try.func58 rfl (by kernel_rfl) Try.ntmps58 rfl (by simp) rfl (by simp [bdL, SV.bd]) ?_
  simp (config := { maxSteps := 1000000 }) (disch := omega) only [go_sem, Int.reduceToNat, ↓reduceIte, Nat.reduceLT, Nat.reduceEqDiff, Nat.reduceAdd, Nat.reduceMul, Nat.reduceSub, Nat.reduceBEq, Nat.reduceLeDiff, reduceCtorEq, Nat.reduceLT, ↓Br_true, ↓Br_false, bind, pure, sc58, sb58]
  (have cc := treesCode_cv ts n cap f x true hx hf hs hcap hn; (first | ((first | refine callR (by rfl) (by rfl) (by rfl) cc ?_ | refine callM (by rfl) (by rfl) (by rfl) cc ?_); clear cc; rintro _ _ ⟨rfl, rfl⟩) | (refine callE (by rfl) cc (by rfl) ?_; clear cc)))
  simp (config := { maxSteps := 1000000 }) (disch := omega) only [go_sem, Int.reduceToNat, ↓reduceIte, Nat.reduceLT, Nat.reduceEqDiff, Nat.reduceAdd, Nat.reduceMul, Nat.reduceSub, Nat.reduceBEq, Nat.reduceLeDiff, reduceCtorEq, Nat.reduceLT, ↓Br_true, ↓Br_false, bind, pure, sc58, sb58]
  refine ⟨fun hc => ?_, fun hc => ?_⟩
  · simp only [Bool.not_eq_true', decide_eq_false_iff_not] at hc
    simp [hc]
  · simp only [Bool.not_eq_false', decide_eq_true_eq] at hc
    have hc0 := hc
    refine ⟨Nat, fun k => k ≤ 24, fun k => 24 - k, fun k => [(0, .slc 0 0 n cap), (3, .ptr 1 0 0), (7, .f (.int .u32 (hBits (fun t => anyT ts x t n) k))), (15, .f (.int .i64 k))], fun _ => [.rows n cap 3 f false, .cells 48 (fun j => .int .i16 (x j)) true], 0, (by intro _; simp), ?_, (by (try refine Or.inl ?_); simp [Cov, covE, covH, cb_dead, cb_lit, cb_rows, cb_cells, cd_lit, cd_rows, cd_cells, cd_dead, covRow, look, SV.known, SV.bd, bdL, hBits, hcap] <;> omega), ?_⟩
    · omega
    · intro k hk
      by_cases hlt : k < 24
      · have hd : decide ((k : Int) < 24) = true := decide_eq_true (by omega)
        simp (config := { maxSteps := 1000000 }) (disch := omega) only [go_sem, Int.reduceToNat, ↓reduceIte, Nat.reduceLT, Nat.reduceEqDiff, Nat.reduceAdd, Nat.reduceMul, Nat.reduceSub, Nat.reduceBEq, Nat.reduceLeDiff, reduceCtorEq, Nat.reduceLT, ↓Br_true, ↓Br_false, bind, pure, sc58, sb58, hd]
        (have cc := isHidden_cv ts n cap f x k hx hlt hf hs hcap hn; (first | ((first | refine callR (by rfl) (by rfl) (by rfl) cc ?_ | refine callM (by rfl) (by rfl) (by rfl) cc ?_); clear cc; rintro _ _ ⟨rfl, rfl⟩) | (refine callE (by rfl) cc (by rfl) ?_; clear cc)))
        simp (config := { maxSteps := 1000000 }) (disch := omega) only [go_sem, Int.reduceToNat, ↓reduceIte, Nat.reduceLT, Nat.reduceEqDiff, Nat.reduceAdd, Nat.reduceMul, Nat.reduceSub, Nat.reduceBEq, Nat.reduceLeDiff, reduceCtorEq, Nat.reduceLT, ↓Br_true, ↓Br_false, bind, pure, sc58, sb58, hd]
        repeat' (first | (with_reducible refine And.intro (by first | (unfold SOk; kernel_rfl) | (unfold SBOk; kernel_rfl) | (with_reducible assumption) | omega | assumption) ?_) | (with_reducible refine Br_intro (fun hc => ?_) (fun hc => ?_)) | ((with_reducible show WidN _ _ _ _ _ _ _ _); (first | refine widL (by decide) (by with_reducible assumption) ?_ | refine widL (by decide) (FWok_nn (by with_reducible assumption)) ?_ | refine widN (by decide) (fun c hc => ?_)); simp (config := { maxSteps := 1000000 }) (disch := omega) only [go_sem, Int.reduceToNat, ↓reduceIte, Nat.reduceLT, Nat.reduceEqDiff, Nat.reduceAdd, Nat.reduceMul, Nat.reduceSub, Nat.reduceBEq, Nat.reduceLeDiff, reduceCtorEq, Nat.reduceLT, ↓Br_true, ↓Br_false, bind, pure, sc58, sb58, hd]))
        all_goals exact ⟨k + 1, by omega, by omega, by (try refine Or.inl ?_); simp [Cov, covE, covH, cb_dead, cb_lit, cb_rows, cb_cells, cd_lit, cd_rows, cd_cells, cd_dead, covRow, look, SV.known, SV.bd, bdL, hBits, hcap, hc] <;> omega⟩
      · have hd : decide ((k : Int) < 24) = false := decide_eq_false (by omega)
        simp (config := { maxSteps := 1000000 }) (disch := omega) only [go_sem, Int.reduceToNat, ↓reduceIte, Nat.reduceLT, Nat.reduceEqDiff, Nat.reduceAdd, Nat.reduceMul, Nat.reduceSub, Nat.reduceBEq, Nat.reduceLeDiff, reduceCtorEq, Nat.reduceLT, ↓Br_true, ↓Br_false, bind, pure, sc58, sb58, hd]
        obtain rfl : k = 24 := by omega
        simp [hc0]
theorem sHiddenHours_cv (ts : Nat → Tr) (n cap : Nat) (f : Nat → List FV) (x : Nat → Int) (hx : Small x) (hf : ∀ i, i < n → f i = (ts i).row) (hs : ∀ i, i < n → (ts i).sm) (hcap : n ≤ cap) (hn : n ≤ 1048576) :
    CV Try.prog 59 [.slc 0 0 n cap, sunV x] [.rows n cap 3 f false] (fun v h => v = .tup [.f (.int .u32 (if trC ts n x true = 0 then hBits (fun t => anyT ts x t n) 24 else 0)), .f (.int .i64 (trC ts n x true))] ∧ h = [.rows n cap 3 f false]) := by
  refine cv_of_run 1000 sc59 sb59 27 [.tmp 4, .tmp 5] tabOk (by kernel_rfl) Try.func59 rfl (by kernel_rfl) Try.ntmps59 rfl (by simp) rfl (by simp [bdL, SV.bd]) ?_
  simp (config := { maxSteps := 1000000 }) (disch := omega) only [go_sem, Int.reduceToNat, ↓reduceIte, Nat.reduceLT, Nat.reduceEqDiff, Nat.reduceAdd, Nat.reduceMul, Nat.reduceSub, Nat.reduceBEq, Nat.reduceLeDiff, reduceCtorEq, Nat.reduceLT, ↓Br_true, ↓Br_false, bind, pure, sc59, sb59]
  (have cc := l04Shadow_cv ts n cap f x true hx hf hs hcap hn; (first | ((first | refine callR (by rfl) (by rfl) (by rfl) cc ?_ | refine callM (by rfl) (by rfl) (by rfl) cc ?_); clear cc; rintro _ _ ⟨rfl, rfl⟩) | (refine callE (by rfl) cc (by rfl) ?_; clear cc)))
  simp (config := { maxSteps := 1000000 }) (disch := omega) only [go_sem, Int.reduceToNat, ↓reduceIte, Nat.reduceLT, Nat.reduceEqDiff, Nat.reduceAdd, Nat.reduceMul, Nat.reduceSub, Nat.reduceBEq, Nat.reduceLeDiff, reduceCtorEq, Nat.reduceLT, ↓Br_true, ↓Br_false, bind, pure, sc59, sb59]
  refine ⟨fun hc => ?_, fun hc => ?_⟩
  · simp only [Bool.not_eq_true', decide_eq_false_iff_not] at hc
    simp [hc]
  · simp only [Bool.not_eq_false', decide_eq_true_eq] at hc
    have hc0 := hc
    refine ⟨Nat, fun k => k ≤ 24, fun k => 24 - k, fun k => [(0, .slc 0 0 n cap), (3, .ptr 1 0 0), (7, .f (.int .u32 (hBits (fun t => anyT ts x t n) k))), (8, .f (.int .i64 k))], fun _ => [.rows n cap 3 f false, .cells 48 (fun j => .int .i16 (x j)) true], 0, (by intro _; simp), ?_, (by (try refine Or.inl ?_); simp [Cov, covE, covH, cb_dead, cb_lit, cb_rows, cb_cells, cd_lit, cd_rows, cd_cells, cd_dead, covRow, look, SV.known, SV.bd, bdL, hBits, hcap] <;> omega), ?_⟩
    · omega
    · intro k hk
      by_cases hlt : k < 24
      · have hd : decide ((k : Int) < 24) = true := decide_eq_true (by omega)
        simp (config := { maxSteps := 1000000 }) (disch := omega) only [go_sem, Int.reduceToNat, ↓reduceIte, Nat.reduceLT, Nat.reduceEqDiff, Nat.reduceAdd, Nat.reduceMul, Nat.reduceSub, Nat.reduceBEq, Nat.reduceLeDiff, reduceCtorEq, Nat.reduceLT, ↓Br_true, ↓Br_false, bind, pure, sc59, sb59, hd]
        (have cc := l04Hidden_cv ts n cap f x k hx hlt hf hs hcap hn; (first | ((first | refine callR (by rfl) (by rfl) (by rfl) cc ?_ | refine callM (by rfl) (by rfl) (by rfl) cc ?_); clear cc; rintro _ _ ⟨rfl, rfl⟩) | (refine callE (by rfl) cc (by rfl) ?_; clear cc)))
        simp (config := { maxSteps := 1000000 }) (disch := omega) only [go_sem, Int.reduceToNat, ↓reduceIte, Nat.reduceLT, Nat.reduceEqDiff, Nat.reduceAdd, Nat.reduceMul, Nat.reduceSub, Nat.reduceBEq, Nat.reduceLeDiff, reduceCtorEq, Nat.reduceLT, ↓Br_true, ↓Br_false, bind, pure, sc59, sb59, hd]
        repeat' (first | (with_reducible refine And.intro (by first | (unfold SOk; kernel_rfl) | (unfold SBOk; kernel_rfl) | (with_reducible assumption) | omega | assumption) ?_) | (with_reducible refine Br_intro (fun hc => ?_) (fun hc => ?_)) | ((with_reducible show WidN _ _ _ _ _ _ _ _); (first | refine widL (by decide) (by with_reducible assumption) ?_ | refine widL (by decide) (FWok_nn (by with_reducible assumption)) ?_ | refine widN (by decide) (fun c hc => ?_)); simp (config := { maxSteps := 1000000 }) (disch := omega) only [go_sem, Int.reduceToNat, ↓reduceIte, Nat.reduceLT, Nat.reduceEqDiff, Nat.reduceAdd, Nat.reduceMul, Nat.reduceSub, Nat.reduceBEq, Nat.reduceLeDiff, reduceCtorEq, Nat.reduceLT, ↓Br_true, ↓Br_false, bind, pure, sc59, sb59, hd]))
        all_goals exact ⟨k + 1, by omega, by omega, by (try refine Or.inl ?_); simp [Cov, covE, covH, cb_dead, cb_lit, cb_rows, cb_cells, cd_lit, cd_rows, cd_cells, cd_dead, covRow, look, SV.known, SV.bd, bdL, hBits, hcap, hc] <;> omega⟩
      · have hd : decide ((k : Int) < 24) = false := decide_eq_false (by omega)
        simp (config := { maxSteps := 1000000 }) (disch := omega) only [go_sem, Int.reduceToNat, ↓reduceIte, Nat.reduceLT, Nat.reduceEqDiff, Nat.reduceAdd, Nat.reduceMul, Nat.reduceSub, Nat.reduceBEq, Nat.reduceLeDiff, reduceCtorEq, Nat.reduceLT, ↓Br_true, ↓Br_false, bind, pure, sc59, sb59, hd]
        obtain rfl : k = 24 := by omega
        simp [hc0]
theorem isHour_cv (n : Int) : CV Try.prog 131 [.f (.int .i64 n)] [] (fun v hh => v = .f (.bool (inn n 0 23)) ∧ hh = []) :=
  CV.old0 trivial (enters_of Try.func131 (by kernel_rfl) (by kernel_rfl)) fun w β _ => isHour_c n w
theorem l01Hour_cv (n : Int) : CV Try.prog 134 [.f (.int .i64 n)] [] (fun v hh => v = .f (.bool (inn n 0 23)) ∧ hh = []) :=
  CV.old0 trivial (enters_of Try.func134 (by kernel_rfl) (by kernel_rfl)) fun w β _ => l01Hour_c n w
theorem HiddenAt_cv (ts : Nat → Tr) (n cap : Nat) (f : Nat → List FV) (x : Nat → Int) (t : Int) (hx : Small x) (hf : ∀ i, i < n → f i = (ts i).row) (hs : ∀ i, i < n → (ts i).sm) (hcap : n ≤ cap) (hn : n ≤ 1048576) :
    CV Try.prog 64 [.slc 0 0 n cap, sunV x, .f (.int .i64 t)] [.rows n cap 3 f false] (fun v h => v = .tup [.f (.bool (if trC ts n x (inn t 0 23) = 0 then anyT ts x t.toNat n else false)), .f (.int .i64 (trC ts n x (inn t 0 23)))] ∧ h = [.rows n cap 3 f false]) := by
  refine cv_of_run 1000 sc64 sb64 20 [.tmp 6, .tmp 7] tabOk (by kernel_rfl) Try.func64 rfl (by kernel_rfl) Try.ntmps64 rfl (by simp) rfl (by simp [bdL, SV.bd]) ?_
  simp (config := { maxSteps := 1000000 }) (disch := omega) only [go_sem, Int.reduceToNat, ↓reduceIte, Nat.reduceLT, Nat.reduceEqDiff, Nat.reduceAdd, Nat.reduceMul, Nat.reduceSub, Nat.reduceBEq, Nat.reduceLeDiff, reduceCtorEq, Nat.reduceLT, ↓Br_true, ↓Br_false, bind, pure, sc64, sb64]
  refine ⟨by first | (unfold SOk; kernel_rfl) | (unfold SBOk; kernel_rfl), ?_⟩
  repeat' (first | (with_reducible refine And.intro (by first | (unfold SOk; kernel_rfl) | (unfold SBOk; kernel_rfl) | (with_reducible assumption) | omega | assumption) ?_) | (with_reducible refine Br_intro (fun hc => ?_) (fun hc => ?_)) | ((first | (refine callR (by rfl) (by rfl) (by rfl) (isHour_cv _) ?_; rintro _ _ ⟨rfl, rfl⟩) | (refine callM (by rfl) (by rfl) (by rfl) (isHour_cv _) ?_; rintro _ _ ⟨rfl, rfl⟩) | (refine callE (by rfl) (isHour_cv _) (by rfl) ?_)); simp (config := { maxSteps := 1000000 }) (disch := omega) only [go_sem, Int.reduceToNat, ↓reduceIte, Nat.reduceLT, Nat.reduceEqDiff, Nat.reduceAdd, Nat.reduceMul, Nat.reduceSub, Nat.reduceBEq, Nat.reduceLeDiff, reduceCtorEq, Nat.reduceLT, ↓Br_true, ↓Br_false, bind, pure, sc64, sb64]) | ((first | (refine callR (by rfl) (by rfl) (by rfl) (treesCode_cv ts n cap f x _ hx hf hs hcap hn) ?_; rintro _ _ ⟨rfl, rfl⟩) | (refine callM (by rfl) (by rfl) (by rfl) (treesCode_cv ts n cap f x _ hx hf hs hcap hn) ?_; rintro _ _ ⟨rfl, rfl⟩) | (refine callE (by rfl) (treesCode_cv ts n cap f x _ hx hf hs hcap hn) (by rfl) ?_)); simp (config := { maxSteps := 1000000 }) (disch := omega) only [go_sem, Int.reduceToNat, ↓reduceIte, Nat.reduceLT, Nat.reduceEqDiff, Nat.reduceAdd, Nat.reduceMul, Nat.reduceSub, Nat.reduceBEq, Nat.reduceLeDiff, reduceCtorEq, Nat.reduceLT, ↓Br_true, ↓Br_false, bind, pure, sc64, sb64]) | ((with_reducible show WidN _ _ _ _ _ _ _ _); (first | refine widL (by decide) (by with_reducible assumption) ?_ | refine widL (by decide) (FWok_nn (by with_reducible assumption)) ?_ | refine widN (by decide) (fun c hc => ?_)); simp (config := { maxSteps := 1000000 }) (disch := omega) only [go_sem, Int.reduceToNat, ↓reduceIte, Nat.reduceLT, Nat.reduceEqDiff, Nat.reduceAdd, Nat.reduceMul, Nat.reduceSub, Nat.reduceBEq, Nat.reduceLeDiff, reduceCtorEq, Nat.reduceLT, ↓Br_true, ↓Br_false, bind, pure, sc64, sb64]))
  · simp only [Bool.not_eq_true', decide_eq_false_iff_not] at hc
    simp [hc]
  · simp only [Bool.not_eq_false', decide_eq_true_eq] at hc
    have h1 := trC_zero hc
    rw [inn_true] at h1
    obtain ⟨k, rfl⟩ : ∃ k : Nat, t = k := ⟨t.toNat, by omega⟩
    (have cc := isHidden_cv ts n cap f x k hx (by omega) hf hs hcap hn; (first | ((first | refine callR (by rfl) (by rfl) (by rfl) cc ?_ | refine callM (by rfl) (by rfl) (by rfl) cc ?_); clear cc; rintro _ _ ⟨rfl, rfl⟩) | (refine callE (by rfl) cc (by rfl) ?_; clear cc)))
    simp (config := { maxSteps := 1000000 }) (disch := omega) only [go_sem, Int.reduceToNat, ↓reduceIte, Nat.reduceLT, Nat.reduceEqDiff, Nat.reduceAdd, Nat.reduceMul, Nat.reduceSub, Nat.reduceBEq, Nat.reduceLeDiff, reduceCtorEq, Nat.reduceLT, ↓Br_true, ↓Br_false, bind, pure, sc64, sb64]
    simp [hc]
end Go.Proofs.Ytdncopphjamilaa.Vx.Hd

namespace Go.Proofs.Ytdncopphjamilaa.Vx
open Go Go.RowKit Fl
set_option linter.unusedVariables false

/-- The number with these bits. -/
def nBits (g : Nat → Bool) : Nat → Nat
  | 0 => 0
  | k + 1 => nBits g k + (if g k then 2 ^ k else 0)
theorem nBits_lt (g : Nat → Bool) : ∀ k, nBits g k < 2 ^ k
  | 0 => show 0 < 2 ^ 0 by decide
  | k + 1 => by
    have := nBits_lt g k
    have e : 2 ^ (k + 1) = 2 ^ k + 2 ^ k := by rw [Nat.pow_succ]; omega
    unfold nBits
    split <;> omega
theorem nBits_at (g : Nat → Bool) {h : Nat} : ∀ k, h < k → nBits g k / 2 ^ h % 2 = if g h then 1 else 0
  | 0, hk => by omega
  | k + 1, hk => by
    have hp : 0 < 2 ^ h := Nat.two_pow_pos h
    by_cases c : h = k
    · subst c
      have := nBits_lt g h
      unfold nBits
      split
      · rw [Nat.add_div_right _ hp, Nat.div_eq_of_lt this]
      · rw [Nat.add_zero, Nat.div_eq_of_lt this]
    · have ih := nBits_at g (h := h) k (by omega)
      unfold nBits
      split
      · obtain ⟨j, hj⟩ : ∃ j, k = h + (j + 1) := ⟨k - h - 1, by omega⟩
        have e : 2 ^ k = 2 ^ h * (2 * 2 ^ j) := by rw [hj, Nat.pow_add, Nat.pow_succ]; congr 1; omega
        rw [e, Nat.add_mul_div_left _ _ hp]
        omega
      · rw [Nat.add_zero]; exact ih
theorem wrap_u32 {n : Nat} (h : n < 4294967296) : IntKind.u32.wrap (n : Int) = n := by
  have : IntKind.u32.wrap (n : Int) = (n : Int) % 4294967296 := by
    simp [IntKind.wrap, IntKind.bits, IntKind.signed]
  rw [this]; omega
theorem ofI (n : Nat) : BitVec.ofInt 32 (n : Int) = BitVec.ofNat 32 n := by
  apply BitVec.eq_of_toNat_eq
  simp
theorem shl_one {k : Nat} (hk : k < 32) : shlI .u32 1 k = ((2 ^ k : Nat) : Int) := by
  have : 2 ^ k < 2 ^ 32 := Nat.pow_lt_pow_right (by decide) hk
  unfold shlI
  have e : min (k : Int).toNat IntKind.u32.bits = k := by
    have : IntKind.u32.bits = 32 := rfl
    rw [this, Int.toNat_natCast]; omega
  rw [e, Int.one_mul]
  have e2 : ((2 : Int) ^ k) = ((2 ^ k : Nat) : Int) := by simp
  rw [e2]
  exact wrap_u32 (by omega)
theorem or_bit {n k : Nat} (hn : n < 2 ^ k) (hk : k < 32) : bitI .or .u32 (n : Int) (shlI .u32 1 k) = ((n + 2 ^ k : Nat) : Int) := by
  have h1 : 2 ^ (k + 1) ≤ 2 ^ 32 := Nat.pow_le_pow_right (by decide) (by omega)
  have e : 2 ^ (k + 1) = 2 ^ k + 2 ^ k := by rw [Nat.pow_succ]; omega
  rw [shl_one hk]
  show IntKind.u32.wrap ((BitVec.ofInt 32 (n : Int) ||| BitVec.ofInt 32 ((2 ^ k : Nat) : Int)).toNat : Int) = _
  rw [ofI, ofI, BitVec.toNat_or, BitVec.toNat_ofNat, BitVec.toNat_ofNat, Nat.mod_eq_of_lt (by omega), Nat.mod_eq_of_lt (by omega)]
  have e2 : n ||| 2 ^ k = n + 2 ^ k := by have := Nat.two_pow_add_eq_or_of_lt hn 1; rw [Nat.mul_one] at this; rw [Nat.or_comm, ← this, Nat.add_comm]
  rw [e2]
  exact wrap_u32 (by omega)
theorem and_bit {n h : Nat} (hn : n < 4294967296) (hh : h < 32) : bitI .and .u32 (shrI .u32 (n : Int) h) 1 = ((n / 2 ^ h % 2 : Nat) : Int) := by
  have e : min (h : Int).toNat IntKind.u32.bits = h := by
    have : IntKind.u32.bits = 32 := rfl
    rw [this, Int.toNat_natCast]; omega
  have e2 : ((2 : Int) ^ h) = ((2 ^ h : Nat) : Int) := by simp
  have e3 : shrI .u32 (n : Int) h = ((n / 2 ^ h : Nat) : Int) := by
    unfold shrI
    rw [e, e2]
    rw [Int.fdiv_eq_ediv_of_nonneg _ (Int.natCast_nonneg _)]; rfl
  have hl : n / 2 ^ h < 4294967296 := Nat.lt_of_le_of_lt (Nat.div_le_self _ _) hn
  rw [e3]
  show IntKind.u32.wrap ((BitVec.ofInt 32 ((n / 2 ^ h : Nat) : Int) &&& BitVec.ofInt 32 ((1 : Nat) : Int)).toNat : Int) = _
  rw [ofI, ofI, BitVec.toNat_and, BitVec.toNat_ofNat, BitVec.toNat_ofNat, Nat.mod_eq_of_lt (by omega), Nat.mod_eq_of_lt (by omega), Nat.and_one_is_mod]
  exact wrap_u32 (by omega)
end Go.Proofs.Ytdncopphjamilaa.Vx

namespace Go.Proofs.Ytdncopphjamilaa.Vx.Hd
open Go Go.RowKit Fl
set_option maxRecDepth 100000
set_option maxHeartbeats 2000000
set_option linter.unusedSimpArgs false
set_option linter.unusedVariables false

theorem hBits_n (g : Nat → Bool) : ∀ k, k ≤ 24 → hBits g k = (nBits g k : Nat)
  | 0, _ => rfl
  | k + 1, hk => by
    have ih := hBits_n g k (by omega)
    cases h : g k
    · have e1 : hBits g (k + 1) = hBits g k := by rw [hBits, if_neg (by simp [h])]
      have e2 : nBits g (k + 1) = nBits g k := by rw [nBits, if_neg (by simp [h]), Nat.add_zero]
      rw [e1, e2, ih]
    · have e1 : hBits g (k + 1) = bitI .or .u32 (hBits g k) (shlI .u32 1 k) := by rw [hBits, if_pos h]
      have e2 : nBits g (k + 1) = nBits g k + 2 ^ k := by rw [nBits, if_pos h]
      rw [e1, e2, ih]
      exact or_bit (nBits_lt g k) (by omega)
theorem hBit_at (g : Nat → Bool) {h : Nat} (hh : h < 24) : decide (bitI .and .u32 (shrI .u32 (hBits g 24) h) 1 = 1) = g h := by
  have hl := nBits_lt g 24
  have : 2 ^ 24 = 16777216 := by decide
  rw [hBits_n g 24 (by omega), and_bit (by omega) (by omega), nBits_at g 24 hh]
  cases g h <;> simp
/-- A sun of which so many hidden hours are dark. -/
def bareX (g : Nat → Bool) (x : Nat → Int) (k : Nat) : Nat → Int := fun j => if j < k ∧ g j = true then 0 else x j
theorem bareX_zero (g : Nat → Bool) (x : Nat → Int) : bareX g x 0 = x := by funext j; simp [bareX]
theorem bareX_yes {g : Nat → Bool} {x : Nat → Int} {k : Nat} (h : g k = true) : updC (fun j => .int .i16 (bareX g x k j)) k (.int .i16 0) = fun j => .int .i16 (bareX g x (k + 1) j) := by
  funext j
  unfold updC bareX
  by_cases c : j = k
  · subst c; simp [h]
  · have : (j < k + 1) = (j < k) := by apply propext; omega
    simp [c, this]
theorem bareX_no {g : Nat → Bool} {x : Nat → Int} {k : Nat} (h : g k = false) : bareX g x (k + 1) = bareX g x k := by
  funext j
  unfold bareX
  by_cases c : j = k
  · subst c; simp [h]
  · have : (j < k + 1) = (j < k) := by apply propext; omega
    simp [this]
def barV (ts : Nat → Tr) (n : Nat) (x : Nat → Int) : SV := .tup [sunV (if trC ts n x true = 0 then bareX (fun t => anyT ts x t n) x 24 else fun _ => 0), .f (.int .i64 (trC ts n x true))]
theorem BareSun_cv (ts : Nat → Tr) (n cap : Nat) (f : Nat → List FV) (x : Nat → Int) (hx : Small x) (hf : ∀ i, i < n → f i = (ts i).row) (hs : ∀ i, i < n → (ts i).sm) (hcap : n ≤ cap) (hn : n ≤ 1048576) :
    CV Try.prog 60 [.slc 0 0 n cap, sunV x] [.rows n cap 3 f false] (fun v h => v = barV ts n x ∧ h = [.rows n cap 3 f false]) := by
  refine cv_of_run 1000 sc60 sb60 32 [.cell 4 99, .tmp 5] tabOk (by kernel_rfl) Try.func60 rfl (by kernel_rfl) Try.ntmps60 rfl (by simp) rfl (by simp [bdL, SV.bd]) ?_
  simp (config := { maxSteps := 1000000 }) (disch := omega) only [go_sem, Int.reduceToNat, ↓reduceIte, Nat.reduceLT, Nat.reduceEqDiff, Nat.reduceAdd, Nat.reduceMul, Nat.reduceSub, Nat.reduceBEq, Nat.reduceLeDiff, reduceCtorEq, Nat.reduceLT, ↓Br_true, ↓Br_false, bind, pure, sc60, sb60]
  (have cc := HiddenHours_cv ts n cap f x hx hf hs hcap hn; (first | ((first | refine callR (by rfl) (by rfl) (by rfl) cc ?_ | refine callM (by rfl) (by rfl) (by rfl) cc ?_); clear cc; rintro _ _ ⟨rfl, rfl⟩) | (refine callE (by rfl) cc (by rfl) ?_; clear cc)))
  simp (config := { maxSteps := 1000000 }) (disch := omega) only [go_sem, Int.reduceToNat, ↓reduceIte, Nat.reduceLT, Nat.reduceEqDiff, Nat.reduceAdd, Nat.reduceMul, Nat.reduceSub, Nat.reduceBEq, Nat.reduceLeDiff, reduceCtorEq, Nat.reduceLT, ↓Br_true, ↓Br_false, bind, pure, sc60, sb60]
  refine ⟨fun hc => ?_, fun hc => ?_⟩
  · simp only [Bool.not_eq_true', decide_eq_false_iff_not] at hc
    repeat' (first | (with_reducible refine And.intro (by first | (unfold SOk; kernel_rfl) | (unfold SBOk; kernel_rfl) | (with_reducible assumption) | omega | assumption) ?_) | (with_reducible refine Br_intro (fun hc => ?_) (fun hc => ?_)) | ((with_reducible show WidN _ _ _ _ _ _ _ _); (first | refine widL (by decide) (by with_reducible assumption) ?_ | refine widL (by decide) (FWok_nn (by with_reducible assumption)) ?_ | refine widN (by decide) (fun c hc => ?_)); simp (config := { maxSteps := 1000000 }) (disch := omega) only [go_sem, Int.reduceToNat, ↓reduceIte, Nat.reduceLT, Nat.reduceEqDiff, Nat.reduceAdd, Nat.reduceMul, Nat.reduceSub, Nat.reduceBEq, Nat.reduceLeDiff, reduceCtorEq, Nat.reduceLT, ↓Br_true, ↓Br_false, bind, pure, sc60, sb60]))
    have e0 : constF (FV.int .i16 0) = fun _ => FV.int .i16 0 := rfl
    simp [barV, hc, e0]
  · simp only [Bool.not_eq_false', decide_eq_true_eq] at hc
    have hc0 := hc
    simp only [hc, if_true]
    repeat' (first | (with_reducible refine And.intro (by first | (unfold SOk; kernel_rfl) | (unfold SBOk; kernel_rfl) | (with_reducible assumption) | omega | assumption) ?_) | (with_reducible refine Br_intro (fun hc => ?_) (fun hc => ?_)) | ((with_reducible show WidN _ _ _ _ _ _ _ _); (first | refine widL (by decide) (by with_reducible assumption) ?_ | refine widL (by decide) (FWok_nn (by with_reducible assumption)) ?_ | refine widN (by decide) (fun c hc => ?_)); simp (config := { maxSteps := 1000000 }) (disch := omega) only [go_sem, Int.reduceToNat, ↓reduceIte, Nat.reduceLT, Nat.reduceEqDiff, Nat.reduceAdd, Nat.reduceMul, Nat.reduceSub, Nat.reduceBEq, Nat.reduceLeDiff, reduceCtorEq, Nat.reduceLT, ↓Br_true, ↓Br_false, bind, pure, sc60, sb60]))
    generalize hg : (fun t => anyT ts x t n) = g
    have eV : barV ts n x = .tup [sunV (bareX g x 24), .f (.int .i64 0)] := by simp [barV, hc, hg]
    rw [eV]
    have b0 := bareX_zero g x
    refine ⟨Nat, fun k => k ≤ 24, fun k => 24 - k, fun k => [(3, .ptr 1 0 0), (4, .ptr 2 0 0), (5, .f (.int .i64 0)), (6, .f (.int .u32 (hBits g 24))), (19, .f (.int .i64 k))], fun k => [.rows n cap 3 f false, .cells 48 (fun j => .int .i16 (bareX g x k j)) true, .cells 48 (fun _ => .int .i16 0) true], 0, (by intro _; simp), ?_, (by (try refine Or.inl ?_); simp [Cov, covE, covH, cb_dead, cb_lit, cb_rows, cb_cells, cd_lit, cd_rows, cd_cells, cd_dead, covRow, look, SV.known, SV.bd, bdL, b0, hg, hcap] <;> omega), ?_⟩
    · omega
    · intro k hk
      by_cases hlt : k < 24
      · have hd : decide ((k : Int) < 24) = true := decide_eq_true (by omega)
        have hb := hBit_at g hlt
        simp (config := { maxSteps := 1000000 }) (disch := omega) only [go_sem, Int.reduceToNat, ↓reduceIte, Nat.reduceLT, Nat.reduceEqDiff, Nat.reduceAdd, Nat.reduceMul, Nat.reduceSub, Nat.reduceBEq, Nat.reduceLeDiff, reduceCtorEq, Nat.reduceLT, ↓Br_true, ↓Br_false, bind, pure, sc60, sb60, hd, hb]
        repeat' (first | (with_reducible refine And.intro (by first | (unfold SOk; kernel_rfl) | (unfold SBOk; kernel_rfl) | (with_reducible assumption) | omega | assumption) ?_) | (with_reducible refine Br_intro (fun hc => ?_) (fun hc => ?_)) | ((with_reducible show WidN _ _ _ _ _ _ _ _); (first | refine widL (by decide) (by with_reducible assumption) ?_ | refine widL (by decide) (FWok_nn (by with_reducible assumption)) ?_ | refine widN (by decide) (fun c hc => ?_)); simp (config := { maxSteps := 1000000 }) (disch := omega) only [go_sem, Int.reduceToNat, ↓reduceIte, Nat.reduceLT, Nat.reduceEqDiff, Nat.reduceAdd, Nat.reduceMul, Nat.reduceSub, Nat.reduceBEq, Nat.reduceLeDiff, reduceCtorEq, Nat.reduceLT, ↓Br_true, ↓Br_false, bind, pure, sc60, sb60, hd, hb]))
        · have e := bareX_yes (x := x) hc
          exact ⟨k + 1, by omega, by omega, by (try refine Or.inl ?_); simp [Cov, covE, covH, cb_dead, cb_lit, cb_rows, cb_cells, cd_lit, cd_rows, cd_cells, cd_dead, covRow, look, SV.known, SV.bd, bdL, e, hcap] <;> omega⟩
        · have e := bareX_no (x := x) hc
          exact ⟨k + 1, by omega, by omega, by (try refine Or.inl ?_); simp [Cov, covE, covH, cb_dead, cb_lit, cb_rows, cb_cells, cd_lit, cd_rows, cd_cells, cd_dead, covRow, look, SV.known, SV.bd, bdL, e, hcap] <;> omega⟩
      · have hd : decide ((k : Int) < 24) = false := decide_eq_false (by omega)
        simp (config := { maxSteps := 1000000 }) (disch := omega) only [go_sem, Int.reduceToNat, ↓reduceIte, Nat.reduceLT, Nat.reduceEqDiff, Nat.reduceAdd, Nat.reduceMul, Nat.reduceSub, Nat.reduceBEq, Nat.reduceLeDiff, reduceCtorEq, Nat.reduceLT, ↓Br_true, ↓Br_false, bind, pure, sc60, sb60, hd]
        obtain rfl : k = 24 := by omega
        repeat' (first | (with_reducible refine And.intro (by first | (unfold SOk; kernel_rfl) | (unfold SBOk; kernel_rfl) | (with_reducible assumption) | omega | assumption) ?_) | (with_reducible refine Br_intro (fun hc => ?_) (fun hc => ?_)) | ((with_reducible show WidN _ _ _ _ _ _ _ _); (first | refine widL (by decide) (by with_reducible assumption) ?_ | refine widL (by decide) (FWok_nn (by with_reducible assumption)) ?_ | refine widN (by decide) (fun c hc => ?_)); simp (config := { maxSteps := 1000000 }) (disch := omega) only [go_sem, Int.reduceToNat, ↓reduceIte, Nat.reduceLT, Nat.reduceEqDiff, Nat.reduceAdd, Nat.reduceMul, Nat.reduceSub, Nat.reduceBEq, Nat.reduceLeDiff, reduceCtorEq, Nat.reduceLT, ↓Br_true, ↓Br_false, bind, pure, sc60, sb60]))
        try rfl
theorem sBareSun_cv (ts : Nat → Tr) (n cap : Nat) (f : Nat → List FV) (x : Nat → Int) (hx : Small x) (hf : ∀ i, i < n → f i = (ts i).row) (hs : ∀ i, i < n → (ts i).sm) (hcap : n ≤ cap) (hn : n ≤ 1048576) :
    CV Try.prog 61 [.slc 0 0 n cap, sunV x] [.rows n cap 3 f false] (fun v h => v = barV ts n x ∧ h = [.rows n cap 3 f false]) := by
  refine cv_of_run 1000 sc61 sb61 27 [.cell 4 99, .tmp 5] tabOk (by kernel_rfl) Try.func61 rfl (by kernel_rfl) Try.ntmps61 rfl (by simp) rfl (by simp [bdL, SV.bd]) ?_
  simp (config := { maxSteps := 1000000 }) (disch := omega) only [go_sem, Int.reduceToNat, ↓reduceIte, Nat.reduceLT, Nat.reduceEqDiff, Nat.reduceAdd, Nat.reduceMul, Nat.reduceSub, Nat.reduceBEq, Nat.reduceLeDiff, reduceCtorEq, Nat.reduceLT, ↓Br_true, ↓Br_false, bind, pure, sc61, sb61]
  (have cc := l04Shadow_cv ts n cap f x true hx hf hs hcap hn; (first | ((first | refine callR (by rfl) (by rfl) (by rfl) cc ?_ | refine callM (by rfl) (by rfl) (by rfl) cc ?_); clear cc; rintro _ _ ⟨rfl, rfl⟩) | (refine callE (by rfl) cc (by rfl) ?_; clear cc)))
  simp (config := { maxSteps := 1000000 }) (disch := omega) only [go_sem, Int.reduceToNat, ↓reduceIte, Nat.reduceLT, Nat.reduceEqDiff, Nat.reduceAdd, Nat.reduceMul, Nat.reduceSub, Nat.reduceBEq, Nat.reduceLeDiff, reduceCtorEq, Nat.reduceLT, ↓Br_true, ↓Br_false, bind, pure, sc61, sb61]
  refine ⟨fun hc => ?_, fun hc => ?_⟩
  · simp only [Bool.not_eq_true', decide_eq_false_iff_not] at hc
    repeat' (first | (with_reducible refine And.intro (by first | (unfold SOk; kernel_rfl) | (unfold SBOk; kernel_rfl) | (with_reducible assumption) | omega | assumption) ?_) | (with_reducible refine Br_intro (fun hc => ?_) (fun hc => ?_)) | ((with_reducible show WidN _ _ _ _ _ _ _ _); (first | refine widL (by decide) (by with_reducible assumption) ?_ | refine widL (by decide) (FWok_nn (by with_reducible assumption)) ?_ | refine widN (by decide) (fun c hc => ?_)); simp (config := { maxSteps := 1000000 }) (disch := omega) only [go_sem, Int.reduceToNat, ↓reduceIte, Nat.reduceLT, Nat.reduceEqDiff, Nat.reduceAdd, Nat.reduceMul, Nat.reduceSub, Nat.reduceBEq, Nat.reduceLeDiff, reduceCtorEq, Nat.reduceLT, ↓Br_true, ↓Br_false, bind, pure, sc61, sb61]))
    have e0 : constF (FV.int .i16 0) = fun _ => FV.int .i16 0 := rfl
    simp [barV, hc, e0]
  · simp only [Bool.not_eq_false', decide_eq_true_eq] at hc
    have hc0 := hc
    have eV : barV ts n x = .tup [sunV (bareX (fun t => anyT ts x t n) x 24), .f (.int .i64 0)] := by simp [barV, hc]
    rw [eV]
    have b0 := bareX_zero (fun t => anyT ts x t n) x
    refine ⟨Nat, fun k => k ≤ 24, fun k => 24 - k, fun k => [(0, .slc 0 0 n cap), (3, .ptr 1 0 0), (4, .ptr 2 0 0), (5, .f (.int .i64 0)), (7, .ptr 3 0 0), (8, .f (.int .i64 k))], fun k => [.rows n cap 3 f false, .cells 48 (fun j => .int .i16 (x j)) true, .cells 48 (fun _ => .int .i16 0) true, .cells 48 (fun j => .int .i16 (bareX (fun t => anyT ts x t n) x k j)) true], 0, (by intro _; simp), ?_, (by (try refine Or.inl ?_); simp [Cov, covE, covH, cb_dead, cb_lit, cb_rows, cb_cells, cd_lit, cd_rows, cd_cells, cd_dead, covRow, look, SV.known, SV.bd, bdL, b0, hcap] <;> omega), ?_⟩
    · omega
    · intro k hk
      by_cases hlt : k < 24
      · have hd : decide ((k : Int) < 24) = true := decide_eq_true (by omega)
        simp (config := { maxSteps := 1000000 }) (disch := omega) only [go_sem, Int.reduceToNat, ↓reduceIte, Nat.reduceLT, Nat.reduceEqDiff, Nat.reduceAdd, Nat.reduceMul, Nat.reduceSub, Nat.reduceBEq, Nat.reduceLeDiff, reduceCtorEq, Nat.reduceLT, ↓Br_true, ↓Br_false, bind, pure, sc61, sb61, hd]
        (have cc := l04Hidden_cv ts n cap f x k hx hlt hf hs hcap hn; (first | ((first | refine callR (by rfl) (by rfl) (by rfl) cc ?_ | refine callM (by rfl) (by rfl) (by rfl) cc ?_); clear cc; rintro _ _ ⟨rfl, rfl⟩) | (refine callE (by rfl) cc (by rfl) ?_; clear cc)))
        simp (config := { maxSteps := 1000000 }) (disch := omega) only [go_sem, Int.reduceToNat, ↓reduceIte, Nat.reduceLT, Nat.reduceEqDiff, Nat.reduceAdd, Nat.reduceMul, Nat.reduceSub, Nat.reduceBEq, Nat.reduceLeDiff, reduceCtorEq, Nat.reduceLT, ↓Br_true, ↓Br_false, bind, pure, sc61, sb61, hd]
        repeat' (first | (with_reducible refine And.intro (by first | (unfold SOk; kernel_rfl) | (unfold SBOk; kernel_rfl) | (with_reducible assumption) | omega | assumption) ?_) | (with_reducible refine Br_intro (fun hc => ?_) (fun hc => ?_)) | ((with_reducible show WidN _ _ _ _ _ _ _ _); (first | refine widL (by decide) (by with_reducible assumption) ?_ | refine widL (by decide) (FWok_nn (by with_reducible assumption)) ?_ | refine widN (by decide) (fun c hc => ?_)); simp (config := { maxSteps := 1000000 }) (disch := omega) only [go_sem, Int.reduceToNat, ↓reduceIte, Nat.reduceLT, Nat.reduceEqDiff, Nat.reduceAdd, Nat.reduceMul, Nat.reduceSub, Nat.reduceBEq, Nat.reduceLeDiff, reduceCtorEq, Nat.reduceLT, ↓Br_true, ↓Br_false, bind, pure, sc61, sb61, hd]))
        · have e := bareX_yes (g := fun t => anyT ts x t n) (x := x) hc
          exact ⟨k + 1, by omega, by omega, by (try refine Or.inl ?_); simp [Cov, covE, covH, cb_dead, cb_lit, cb_rows, cb_cells, cd_lit, cd_rows, cd_cells, cd_dead, covRow, look, SV.known, SV.bd, bdL, e, hcap] <;> omega⟩
        · have e := bareX_no (g := fun t => anyT ts x t n) (x := x) hc
          exact ⟨k + 1, by omega, by omega, by (try refine Or.inl ?_); simp [Cov, covE, covH, cb_dead, cb_lit, cb_rows, cb_cells, cd_lit, cd_rows, cd_cells, cd_dead, covRow, look, SV.known, SV.bd, bdL, e, hcap] <;> omega⟩
      · have hd : decide ((k : Int) < 24) = false := decide_eq_false (by omega)
        simp (config := { maxSteps := 1000000 }) (disch := omega) only [go_sem, Int.reduceToNat, ↓reduceIte, Nat.reduceLT, Nat.reduceEqDiff, Nat.reduceAdd, Nat.reduceMul, Nat.reduceSub, Nat.reduceBEq, Nat.reduceLeDiff, reduceCtorEq, Nat.reduceLT, ↓Br_true, ↓Br_false, bind, pure, sc61, sb61, hd]
        obtain rfl : k = 24 := by omega
        repeat' (first | (with_reducible refine And.intro (by first | (unfold SOk; kernel_rfl) | (unfold SBOk; kernel_rfl) | (with_reducible assumption) | omega | assumption) ?_) | (with_reducible refine Br_intro (fun hc => ?_) (fun hc => ?_)) | ((with_reducible show WidN _ _ _ _ _ _ _ _); (first | refine widL (by decide) (by with_reducible assumption) ?_ | refine widL (by decide) (FWok_nn (by with_reducible assumption)) ?_ | refine widN (by decide) (fun c hc => ?_)); simp (config := { maxSteps := 1000000 }) (disch := omega) only [go_sem, Int.reduceToNat, ↓reduceIte, Nat.reduceLT, Nat.reduceEqDiff, Nat.reduceAdd, Nat.reduceMul, Nat.reduceSub, Nat.reduceBEq, Nat.reduceLeDiff, reduceCtorEq, Nat.reduceLT, ↓Br_true, ↓Br_false, bind, pure, sc61, sb61]))
        try rfl
end Go.Proofs.Ytdncopphjamilaa.Vx.Hd
