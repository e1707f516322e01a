/- Tiles: contracts. -/
import Derived.Test.YtjhddlkfkicpaaaGreatDoorTzc
import Derived.Test.YtjhddlkfkicpaaaGreatDoorRm
import Derived.Test.YtjhddlkfkicpaaaGreatDoorRu
import Derived.Test.YtjhddlkfkicpaaaGreatDoorRbr
import Derived.Test.YtjhddlkfkicpaaaGreatDoorRlt
import Derived.Test.YtjhddlkfkicpaaaGreatDoorRd
import Derived.Test.YtjhddlkfkicpaaaGreatDoorDr
import Derived.Test.YtjhddlkfkicpaaaGreatDoorW1
namespace Go.Proofs.YtjhddlkfkicpaaaGreatDoor.Vx
set_option linter.unusedSimpArgs false
set_option linter.unusedVariables false
open Go Go.RowKit Fl
set_option maxRecDepth 100000
set_option maxHeartbeats 4000000
set_option linter.unusedSimpArgs false
set_option linter.unusedVariables false
/-- An answer of a room and a code: no windows are an empty slice. -/
theorem CV.roomT {f : FuncId} {args : List SV} {h : List Blk} {r : Rom} {q : Int} {n : Nat} {R : Nat → (Nat → List FV) → Prop} (hR : n = 0 → R 0 (fun _ => []))
    (c : CV Tryz.prog f args h fun v hh => ∃ cap g, R cap g ∧ v = .tup [.agg [.f (.int .i8 r.wi), .f (.int .i8 r.hi), chW h.length n cap], .f (.int .i64 q)] ∧ hh = h ++ chB n cap g) :
    CV Tryz.prog f args h fun v hh => ∃ cap g, R cap g ∧ v = .tup [.agg [.f (.int .i8 r.wi), .f (.int .i8 r.hi), .slc h.length 0 n cap], .f (.int .i64 q)] ∧ hh = h ++ [.rows n cap 3 g false] := by
  refine ⟨c.enters, fun w β H => Calls.mono (c.calls w β H) fun e w' ⟨v, hh, β', he, ⟨cap, g, r, hv, hh'⟩, H', s, hb⟩ => ?_⟩
  rcases n with _ | n
  · simp only [chW_z, chB_z, List.append_nil] at hv hh'
    subst hv; subst hh'
    refine ⟨_, _, bput β' hh.length ⟨0, 0, 3, true⟩, ?_, ⟨0, fun _ => [], hR rfl, rfl, rfl⟩, H'.nilB, s.nilB, ?_⟩
    · rw [he]
      simp [den, denL, bput_self, FV.val]
    · exact ⟨⟨trivial, trivial, by show hh.length < _; simp, trivial⟩, trivial, trivial⟩
  · simp only [chW_s, chB_s] at hv hh'
    subst hv; subst hh'
    exact ⟨_, _, β', he, ⟨cap, g, r, rfl, rfl⟩, H'.last, s.last (Nat.le_refl _), ⟨⟨trivial, trivial, by show h.length < _; simp, trivial⟩, trivial, trivial⟩⟩
/-- The answer to a room's text is that room. -/
theorem Fine.back {t : List UInt8} {r : Rom} {us : Nat → Win} {n : Nat} (q : Fine t r us n) (ht : t.length ≤ 1048576) :
    CV Tryz.prog 7 [.f (.str (bs t))] [] (fun v h => ∃ cap g, (n ≤ cap ∧ ∀ i, i < n → g i = (us i).fv) ∧ v = .tup [.agg [.f (.int .i8 r.wi), .f (.int .i8 r.hi), .slc 0 0 n cap], .f (.int .i64 0)] ∧ h = [.rows n cap 3 g false]) := by
  refine CV.roomT (h := []) (R := fun cap g => n ≤ cap ∧ ∀ i, i < n → g i = (us i).fv) (fun e => ⟨by omega, fun i hi => by omega⟩) ((ReadRoom_cv t ht).mono fun v h H => ?_)
  rcases H with ⟨r', us', n', q', H⟩ | ⟨hno, _⟩
  · obtain ⟨rfl, rfl, hu⟩ := q.uniq q'
    rcases H with ⟨h0, hv, hh⟩ | ⟨cap, g, h1, h2, h3, hv, hh⟩
    · subst h0
      exact ⟨0, fun _ => [], ⟨Nat.le_refl _, fun i hi => by omega⟩, hv, hh⟩
    · refine ⟨cap, g, ⟨h2, fun i hi => by rw [h3 i hi, hu i hi]⟩, ?_, ?_⟩
      · rw [chW_pos h1]; exact hv
      · rw [chB_pos h1]; exact hh
  · exact absurd q (hno r us n)
/-- The mirrored room. -/
theorem mirR_cv (r : Rom) (us : Nat → Win) (n cap : Nat) (f : Nat → List FV) (H : RomH r us n cap f) (ha : askC (vRoom r us n) true = 0) :
    CV Tryz.prog 24 [romV r n cap] [.rows n cap 3 f false] (fun v h => ∃ cap' g, (n ≤ cap' ∧ ∀ i, i < n → g i = (mirW r (us i)).fv) ∧ v = .tup [.agg [.f (.int .i8 r.wi), .f (.int .i8 r.hi), .slc 1 0 n cap'], .f (.int .i64 0)] ∧ h = [.rows n cap 3 f false, .rows n cap' 3 g false]) :=
  CV.roomT (h := [.rows n cap 3 f false]) (R := fun cap' g => n ≤ cap' ∧ ∀ i, i < n → g i = (mirW r (us i)).fv) (fun e => ⟨by omega, fun i hi => by omega⟩) ((MirrorRoom_cv r us n cap f H ha).mono fun v h ⟨cap', g, h1, h2, h3, h4⟩ => ⟨cap', g, ⟨h2, h1⟩, h3, h4⟩)
theorem sameF_nn {a : Nat} (h : nn a) : sameF a a = true := by
  have : feq a a = true := by rw [feq_self]; exact decide_eq_true h
  simp [sameF, this]
theorem ul01Same_cv (a b : Nat) : CV Tryz.prog 52 [.f (.flt .f32 a), .f (.flt .f32 b)] [] (fun v hh => v = .f (.bool (sameF a b)) ∧ hh = []) :=
  CV.old0 trivial (enters_of Tryz.func52 (by kernel_rfl) (by kernel_rfl)) fun w β _ => l01Same_c a b w
theorem uSame_cv (a b : Nat) : CV Tryz.prog 53 [.f (.flt .f32 a), .f (.flt .f32 b)] [] (fun v hh => v = .f (.bool (sameF a b)) ∧ hh = []) :=
  CV.old0 trivial (enters_of Tryz.func53 (by kernel_rfl) (by kernel_rfl)) fun w β _ => SameNumber_c a b w
theorem usSame_cv (a b : Nat) : CV Tryz.prog 21 [.f (.flt .f32 a), .f (.flt .f32 b)] [] (fun v hh => v = .f (.bool (sameF a b)) ∧ hh = []) := by
  refine cv_of_run 1000 sc21 sb21 8 [.tmp 4] tabOk (by kernel_rfl) Tryz.func21 rfl (by kernel_rfl) Tryz.ntmps21 rfl (by simp) rfl (by simp [bdL, SV.bd]) ?_
  simp (config := { maxSteps := 1000000 }) (disch := omega) only [go_sem, Int.reduceToNat, ↓reduceIte, Nat.reduceLT, Nat.reduceEqDiff, Nat.reduceAdd, Nat.reduceMul, Nat.reduceSub, Nat.reduceBEq, Nat.reduceLeDiff, reduceCtorEq, Nat.reduceLT, ↓Br_true, ↓Br_false, bind, pure, sc21, sb21]
  repeat' (first | (with_reducible refine And.intro (by first | (unfold SOk; kernel_rfl) | (unfold SBOk; kernel_rfl) | (with_reducible assumption) | omega | assumption) ?_) | (with_reducible refine Br_intro (fun hc => ?_) (fun hc => ?_)) | ((have cc := ul01Same_cv a b; (first | ((first | refine callR (by rfl) (by rfl) (by rfl) cc ?_ | refine callM (by rfl) (by rfl) (by rfl) cc ?_ | refine callMo (by rfl) (by rfl) (by rfl) cc ?_); clear cc; rintro _ _ ⟨rfl, rfl⟩) | (refine callE (by rfl) cc (by rfl) ?_; clear cc))); simp (config := { maxSteps := 1000000 }) (disch := omega) only [go_sem, Int.reduceToNat, ↓reduceIte, Nat.reduceLT, Nat.reduceEqDiff, Nat.reduceAdd, Nat.reduceMul, Nat.reduceSub, Nat.reduceBEq, Nat.reduceLeDiff, reduceCtorEq, Nat.reduceLT, ↓Br_true, ↓Br_false, bind, pure, sc21, sb21]) | ((with_reducible show WidN _ _ _ _ _ _ _ _); (first | refine widL (by decide) (by with_reducible assumption) ?_ | refine widL (by decide) (FWok_nn (by with_reducible assumption)) ?_ | refine widN (by decide) (fun c hc => ?_)); simp (config := { maxSteps := 1000000 }) (disch := omega) only [go_sem, Int.reduceToNat, ↓reduceIte, Nat.reduceLT, Nat.reduceEqDiff, Nat.reduceAdd, Nat.reduceMul, Nat.reduceSub, Nat.reduceBEq, Nat.reduceLeDiff, reduceCtorEq, Nat.reduceLT, ↓Br_true, ↓Br_false, bind, pure, sc21, sb21]))
theorem sSameRoom_cv (r : Rom) (us : Nat → Win) (n c1 c2 : Nat) (f g : Nat → List FV) (hf : ∀ i, i < n → f i = (us i).fv) (hg : ∀ i, i < n → g i = (us i).fv) (h1 : n ≤ c1) (h2 : n ≤ c2) (hn : n ≤ 1048576) (hl : ∀ i, i < n → nn (us i).l) :
    CV Tryz.prog 17 [romV r n c1, .agg [.f (.int .i8 r.wi), .f (.int .i8 r.hi), .slc 1 0 n c2]] [.rows n c1 3 f false, .rows n c2 3 g false] (fun v h => v = .f (.bool true) ∧ h = [.rows n c1 3 f false, .rows n c2 3 g false]) := by
  refine cv_of_run 1000 sc17 sb17 66 [.tmp 4] tabOk (by kernel_rfl) Tryz.func17 rfl (by kernel_rfl) Tryz.ntmps17 rfl (by simp) rfl (by simp [bdL, SV.bd]) ?_
  simp (config := { maxSteps := 1000000 }) (disch := omega) only [go_sem, Int.reduceToNat, ↓reduceIte, Nat.reduceLT, Nat.reduceEqDiff, Nat.reduceAdd, Nat.reduceMul, Nat.reduceSub, Nat.reduceBEq, Nat.reduceLeDiff, reduceCtorEq, Nat.reduceLT, ↓Br_true, ↓Br_false, bind, pure, sc17, sb17]
  repeat' (first | (with_reducible refine And.intro (by first | (unfold SOk; kernel_rfl) | (unfold SBOk; kernel_rfl) | (with_reducible assumption) | omega | assumption) ?_) | (with_reducible refine Br_intro (fun hc => ?_) (fun hc => ?_)) | ((with_reducible show WidN _ _ _ _ _ _ _ _); (first | refine widL (by decide) (by with_reducible assumption) ?_ | refine widL (by decide) (FWok_nn (by with_reducible assumption)) ?_ | refine widN (by decide) (fun c hc => ?_)); simp (config := { maxSteps := 1000000 }) (disch := omega) only [go_sem, Int.reduceToNat, ↓reduceIte, Nat.reduceLT, Nat.reduceEqDiff, Nat.reduceAdd, Nat.reduceMul, Nat.reduceSub, Nat.reduceBEq, Nat.reduceLeDiff, reduceCtorEq, Nat.reduceLT, ↓Br_true, ↓Br_false, bind, pure, sc17, sb17]))
  refine ⟨Nat, fun k => k ≤ n, fun k => n - k, fun k => [(2, .ptr 2 0 0), (3, .ptr 3 0 0), (4, .f (.bool false)), (5, .f (.int .i64 k))], fun _ => [.rows n c1 3 f false, .rows n c2 3 g false, .lit [.f (.int .i8 r.wi), .f (.int .i8 r.hi), .slc 0 0 n c1] true, .lit [.f (.int .i8 r.wi), .f (.int .i8 r.hi), .slc 1 0 n c2] true], 0, (by intro _; simp), ?_, (by (try refine Or.inl ?_); simp [Cov, covE, covH, cb_dead, cb_lit, cb_rows, cb_cells, cd_lit, cd_rows, cd_cells, cd_dead, covRow, look, SV.known, SV.bd, bdL, h1, h2] <;> omega), ?_⟩
  · omega
  · intro k hk
    by_cases hlt : k < n
    · have hd : decide ((k : Int) < n) = true := decide_eq_true (by omega)
      have e1 := hf k hlt
      have e2 := hg k hlt
      have e3 : (us k).fv = [.int .i8 (us k).w, .int .i8 (us k).a, .flt .f32 (us k).l] := rfl
      rw [e3] at e1 e2
      have cs := ul01Same_cv (us k).l (us k).l
      rw [sameF_nn (hl k hlt)] at cs
      simp (config := { maxSteps := 1000000 }) (disch := omega) only [go_sem, Int.reduceToNat, ↓reduceIte, Nat.reduceLT, Nat.reduceEqDiff, Nat.reduceAdd, Nat.reduceMul, Nat.reduceSub, Nat.reduceBEq, Nat.reduceLeDiff, reduceCtorEq, Nat.reduceLT, ↓Br_true, ↓Br_false, bind, pure, sc17, sb17, hd, e1, e2]
      repeat' (first | (with_reducible refine And.intro (by first | (unfold SOk; kernel_rfl) | (unfold SBOk; kernel_rfl) | (with_reducible assumption) | omega | assumption) ?_) | (with_reducible refine Br_intro (fun hc => ?_) (fun hc => ?_)) | ((have cc := cs; (first | ((first | refine callR (by rfl) (by rfl) (by rfl) cc ?_ | refine callM (by rfl) (by rfl) (by rfl) cc ?_ | refine callMo (by rfl) (by rfl) (by rfl) cc ?_); clear cc; rintro _ _ ⟨rfl, rfl⟩) | (refine callE (by rfl) cc (by rfl) ?_; clear cc))); simp (config := { maxSteps := 1000000 }) (disch := omega) only [go_sem, Int.reduceToNat, ↓reduceIte, Nat.reduceLT, Nat.reduceEqDiff, Nat.reduceAdd, Nat.reduceMul, Nat.reduceSub, Nat.reduceBEq, Nat.reduceLeDiff, reduceCtorEq, Nat.reduceLT, ↓Br_true, ↓Br_false, bind, pure, sc17, sb17, hd, e1, e2]) | ((with_reducible show WidN _ _ _ _ _ _ _ _); (first | refine widL (by decide) (by with_reducible assumption) ?_ | refine widL (by decide) (FWok_nn (by with_reducible assumption)) ?_ | refine widN (by decide) (fun c hc => ?_)); simp (config := { maxSteps := 1000000 }) (disch := omega) only [go_sem, Int.reduceToNat, ↓reduceIte, Nat.reduceLT, Nat.reduceEqDiff, Nat.reduceAdd, Nat.reduceMul, Nat.reduceSub, Nat.reduceBEq, Nat.reduceLeDiff, reduceCtorEq, Nat.reduceLT, ↓Br_true, ↓Br_false, bind, pure, sc17, sb17, hd, e1, e2]))
      all_goals exact ⟨k + 1, by omega, by omega, by (try refine Or.inl ?_); simp [Cov, covE, covH, cb_dead, cb_lit, cb_rows, cb_cells, cd_lit, cd_rows, cd_cells, cd_dead, covRow, look, SV.known, SV.bd, bdL, h1, h2] <;> omega⟩
    · have hd : decide ((k : Int) < n) = false := decide_eq_false (by omega)
      simp (config := { maxSteps := 1000000 }) (disch := omega) only [go_sem, Int.reduceToNat, ↓reduceIte, Nat.reduceLT, Nat.reduceEqDiff, Nat.reduceAdd, Nat.reduceMul, Nat.reduceSub, Nat.reduceBEq, Nat.reduceLeDiff, reduceCtorEq, Nat.reduceLT, ↓Br_true, ↓Br_false, bind, pure, sc17, sb17, hd]
theorem SameRoom_cv (r : Rom) (us : Nat → Win) (n c1 c2 : Nat) (f g : Nat → List FV) (hf : ∀ i, i < n → f i = (us i).fv) (hg : ∀ i, i < n → g i = (us i).fv) (h1 : n ≤ c1) (h2 : n ≤ c2) (hn : n ≤ 1048576) (hl : ∀ i, i < n → nn (us i).l) :
    CV Tryz.prog 18 [romV r n c1, .agg [.f (.int .i8 r.wi), .f (.int .i8 r.hi), .slc 1 0 n c2]] [.rows n c1 3 f false, .rows n c2 3 g false] (fun v h => v = .f (.bool true) ∧ h = [.rows n c1 3 f false, .rows n c2 3 g false]) := by
  refine cv_of_run 1000 sc18 sb18 63 [.tmp 4] tabOk (by kernel_rfl) Tryz.func18 rfl (by kernel_rfl) Tryz.ntmps18 rfl (by simp) rfl (by simp [bdL, SV.bd]) ?_
  simp (config := { maxSteps := 1000000 }) (disch := omega) only [go_sem, Int.reduceToNat, ↓reduceIte, Nat.reduceLT, Nat.reduceEqDiff, Nat.reduceAdd, Nat.reduceMul, Nat.reduceSub, Nat.reduceBEq, Nat.reduceLeDiff, reduceCtorEq, Nat.reduceLT, ↓Br_true, ↓Br_false, bind, pure, sc18, sb18]
  repeat' (first | (with_reducible refine And.intro (by first | (unfold SOk; kernel_rfl) | (unfold SBOk; kernel_rfl) | (with_reducible assumption) | omega | assumption) ?_) | (with_reducible refine Br_intro (fun hc => ?_) (fun hc => ?_)) | ((with_reducible show WidN _ _ _ _ _ _ _ _); (first | refine widL (by decide) (by with_reducible assumption) ?_ | refine widL (by decide) (FWok_nn (by with_reducible assumption)) ?_ | refine widN (by decide) (fun c hc => ?_)); simp (config := { maxSteps := 1000000 }) (disch := omega) only [go_sem, Int.reduceToNat, ↓reduceIte, Nat.reduceLT, Nat.reduceEqDiff, Nat.reduceAdd, Nat.reduceMul, Nat.reduceSub, Nat.reduceBEq, Nat.reduceLeDiff, reduceCtorEq, Nat.reduceLT, ↓Br_true, ↓Br_false, bind, pure, sc18, sb18]))
  refine ⟨Nat, fun k => k ≤ n, fun k => n - k, fun k => [(3, .ptr 3 0 0), (4, .f (.bool false)), (30, .slc 0 0 n c1), (31, .f (.int .i64 n)), (32, .f (.int .i64 k))], fun _ => [.rows n c1 3 f false, .rows n c2 3 g false, .lit [.f (.int .i8 r.wi), .f (.int .i8 r.hi), .slc 0 0 n c1] true, .lit [.f (.int .i8 r.wi), .f (.int .i8 r.hi), .slc 1 0 n c2] true], 0, (by intro _; simp), ?_, (by (try refine Or.inl ?_); simp [Cov, covE, covH, cb_dead, cb_lit, cb_rows, cb_cells, cd_lit, cd_rows, cd_cells, cd_dead, covRow, look, SV.known, SV.bd, bdL, h1, h2] <;> omega), ?_⟩
  · omega
  · intro k hk
    by_cases hlt : k < n
    · have hd : decide ((k : Int) < n) = true := decide_eq_true (by omega)
      have e1 := hf k hlt
      have e2 := hg k hlt
      have e3 : (us k).fv = [.int .i8 (us k).w, .int .i8 (us k).a, .flt .f32 (us k).l] := rfl
      rw [e3] at e1 e2
      have cs := uSame_cv (us k).l (us k).l
      rw [sameF_nn (hl k hlt)] at cs
      simp (config := { maxSteps := 1000000 }) (disch := omega) only [go_sem, Int.reduceToNat, ↓reduceIte, Nat.reduceLT, Nat.reduceEqDiff, Nat.reduceAdd, Nat.reduceMul, Nat.reduceSub, Nat.reduceBEq, Nat.reduceLeDiff, reduceCtorEq, Nat.reduceLT, ↓Br_true, ↓Br_false, bind, pure, sc18, sb18, hd, e1, e2]
      repeat' (first | (with_reducible refine And.intro (by first | (unfold SOk; kernel_rfl) | (unfold SBOk; kernel_rfl) | (with_reducible assumption) | omega | assumption) ?_) | (with_reducible refine Br_intro (fun hc => ?_) (fun hc => ?_)) | ((have cc := cs; (first | ((first | refine callR (by rfl) (by rfl) (by rfl) cc ?_ | refine callM (by rfl) (by rfl) (by rfl) cc ?_ | refine callMo (by rfl) (by rfl) (by rfl) cc ?_); clear cc; rintro _ _ ⟨rfl, rfl⟩) | (refine callE (by rfl) cc (by rfl) ?_; clear cc))); simp (config := { maxSteps := 1000000 }) (disch := omega) only [go_sem, Int.reduceToNat, ↓reduceIte, Nat.reduceLT, Nat.reduceEqDiff, Nat.reduceAdd, Nat.reduceMul, Nat.reduceSub, Nat.reduceBEq, Nat.reduceLeDiff, reduceCtorEq, Nat.reduceLT, ↓Br_true, ↓Br_false, bind, pure, sc18, sb18, hd, e1, e2]) | ((with_reducible show WidN _ _ _ _ _ _ _ _); (first | refine widL (by decide) (by with_reducible assumption) ?_ | refine widL (by decide) (FWok_nn (by with_reducible assumption)) ?_ | refine widN (by decide) (fun c hc => ?_)); simp (config := { maxSteps := 1000000 }) (disch := omega) only [go_sem, Int.reduceToNat, ↓reduceIte, Nat.reduceLT, Nat.reduceEqDiff, Nat.reduceAdd, Nat.reduceMul, Nat.reduceSub, Nat.reduceBEq, Nat.reduceLeDiff, reduceCtorEq, Nat.reduceLT, ↓Br_true, ↓Br_false, bind, pure, sc18, sb18, hd, e1, e2]))
      all_goals exact ⟨k + 1, by omega, by omega, by (try refine Or.inl ?_); simp [Cov, covE, covH, cb_dead, cb_lit, cb_rows, cb_cells, cd_lit, cd_rows, cd_cells, cd_dead, covRow, look, SV.known, SV.bd, bdL, h1, h2] <;> omega⟩
    · have hd : decide ((k : Int) < n) = false := decide_eq_false (by omega)
      simp (config := { maxSteps := 1000000 }) (disch := omega) only [go_sem, Int.reduceToNat, ↓reduceIte, Nat.reduceLT, Nat.reduceEqDiff, Nat.reduceAdd, Nat.reduceMul, Nat.reduceSub, Nat.reduceBEq, Nat.reduceLeDiff, reduceCtorEq, Nat.reduceLT, ↓Br_true, ↓Br_false, bind, pure, sc18, sb18, hd]
theorem SameMap_cv (g : Nat → FV) (x : Nat → Nat) (hx : ∀ j, j < 100 → nn (x j)) (hg : ∀ j, j < 100 → g j = .flt .f32 (x j)) :
    CV Tryz.prog 20 [.arr 100 g, .arr 100 g] [] (fun v h => v = .f (.bool true) ∧ h = []) := by
  refine cv_of_run 1000 sc20 sb20 27 [.tmp 4] tabOk (by kernel_rfl) Tryz.func20 rfl (by kernel_rfl) Tryz.ntmps20 rfl (by simp) rfl (by simp [bdL, SV.bd]) ?_
  simp (config := { maxSteps := 1000000 }) (disch := omega) only [go_sem, Int.reduceToNat, ↓reduceIte, Nat.reduceLT, Nat.reduceEqDiff, Nat.reduceAdd, Nat.reduceMul, Nat.reduceSub, Nat.reduceBEq, Nat.reduceLeDiff, reduceCtorEq, Nat.reduceLT, ↓Br_true, ↓Br_false, bind, pure, sc20, sb20]
  refine ⟨Nat, fun k => k ≤ 10, fun k => 10 - k, fun k => [(2, .ptr 0 0 0), (3, .ptr 1 0 0), (4, .f (.bool false)), (5, .f (.int .i64 k))], fun _ => [.cells 100 g true, .cells 100 g true], 0, (by intro _; simp), ?_, (by (try refine Or.inl ?_); simp [Cov, covE, covH, cb_dead, cb_lit, cb_rows, cb_cells, cd_lit, cd_rows, cd_cells, cd_dead, covRow, look, SV.known, SV.bd, bdL] <;> omega), ?_⟩
  · omega
  · intro k hk
    by_cases hlt : k < 10
    · have hd : decide ((k : Int) < 10) = true := decide_eq_true (by omega)
      simp (config := { maxSteps := 1000000 }) (disch := omega) only [go_sem, Int.reduceToNat, ↓reduceIte, Nat.reduceLT, Nat.reduceEqDiff, Nat.reduceAdd, Nat.reduceMul, Nat.reduceSub, Nat.reduceBEq, Nat.reduceLeDiff, reduceCtorEq, Nat.reduceLT, ↓Br_true, ↓Br_false, bind, pure, sc20, sb20, hd]
      refine ⟨Nat, fun j => j ≤ 10, fun j => 10 - j, fun j => [(2, .ptr 0 0 0), (3, .ptr 1 0 0), (4, .f (.bool false)), (5, .f (.int .i64 k)), (6, .f (.int .i64 j))], fun _ => [.cells 100 g true, .cells 100 g true], 0, (by intro _; simp), ?_, (by (try refine Or.inl ?_); simp [Cov, covE, covH, cb_dead, cb_lit, cb_rows, cb_cells, cd_lit, cd_rows, cd_cells, cd_dead, covRow, look, SV.known, SV.bd, bdL] <;> omega), ?_⟩
      · omega
      · intro j hj
        by_cases hlt2 : j < 10
        · have hd2 : decide ((j : Int) < 10) = true := decide_eq_true (by omega)
          have e1 := hg (k * 10 + j) (by omega)
          have e3 := hx (k * 10 + j) (by omega)
          have cs := ul01Same_cv (x (k * 10 + j)) (x (k * 10 + j))
          rw [sameF_nn e3] at cs
          simp (config := { maxSteps := 1000000 }) (disch := omega) only [go_sem, Int.reduceToNat, ↓reduceIte, Nat.reduceLT, Nat.reduceEqDiff, Nat.reduceAdd, Nat.reduceMul, Nat.reduceSub, Nat.reduceBEq, Nat.reduceLeDiff, reduceCtorEq, Nat.reduceLT, ↓Br_true, ↓Br_false, bind, pure, sc20, sb20, hd2, e1]
          repeat' (first | (with_reducible refine And.intro (by first | (unfold SOk; kernel_rfl) | (unfold SBOk; kernel_rfl) | (with_reducible assumption) | omega | assumption) ?_) | (with_reducible refine Br_intro (fun hc => ?_) (fun hc => ?_)) | ((have cc := cs; (first | ((first | refine callR (by rfl) (by rfl) (by rfl) cc ?_ | refine callM (by rfl) (by rfl) (by rfl) cc ?_ | refine callMo (by rfl) (by rfl) (by rfl) cc ?_); clear cc; rintro _ _ ⟨rfl, rfl⟩) | (refine callE (by rfl) cc (by rfl) ?_; clear cc))); simp (config := { maxSteps := 1000000 }) (disch := omega) only [go_sem, Int.reduceToNat, ↓reduceIte, Nat.reduceLT, Nat.reduceEqDiff, Nat.reduceAdd, Nat.reduceMul, Nat.reduceSub, Nat.reduceBEq, Nat.reduceLeDiff, reduceCtorEq, Nat.reduceLT, ↓Br_true, ↓Br_false, bind, pure, sc20, sb20, hd2, e1]) | ((with_reducible show WidN _ _ _ _ _ _ _ _); (first | refine widL (by decide) (by with_reducible assumption) ?_ | refine widL (by decide) (FWok_nn (by with_reducible assumption)) ?_ | refine widN (by decide) (fun c hc => ?_)); simp (config := { maxSteps := 1000000 }) (disch := omega) only [go_sem, Int.reduceToNat, ↓reduceIte, Nat.reduceLT, Nat.reduceEqDiff, Nat.reduceAdd, Nat.reduceMul, Nat.reduceSub, Nat.reduceBEq, Nat.reduceLeDiff, reduceCtorEq, Nat.reduceLT, ↓Br_true, ↓Br_false, bind, pure, sc20, sb20, hd2, e1]))
          all_goals exact ⟨j + 1, by omega, by omega, by (try refine Or.inl ?_); simp [Cov, covE, covH, cb_dead, cb_lit, cb_rows, cb_cells, cd_lit, cd_rows, cd_cells, cd_dead, covRow, look, SV.known, SV.bd, bdL] <;> omega⟩
        · have hd2 : decide ((j : Int) < 10) = false := decide_eq_false (by omega)
          obtain rfl : j = 10 := by omega
          simp (config := { maxSteps := 1000000 }) (disch := omega) only [go_sem, Int.reduceToNat, ↓reduceIte, Nat.reduceLT, Nat.reduceEqDiff, Nat.reduceAdd, Nat.reduceMul, Nat.reduceSub, Nat.reduceBEq, Nat.reduceLeDiff, reduceCtorEq, Nat.reduceLT, ↓Br_true, ↓Br_false, bind, pure, sc20, sb20, hd2]
          exact ⟨k + 1, by omega, by omega, by (try refine Or.inl ?_); simp [Cov, covE, covH, cb_dead, cb_lit, cb_rows, cb_cells, cd_lit, cd_rows, cd_cells, cd_dead, covRow, look, SV.known, SV.bd, bdL] <;> omega⟩
    · have hd : decide ((k : Int) < 10) = false := decide_eq_false (by omega)
      simp (config := { maxSteps := 1000000 }) (disch := omega) only [go_sem, Int.reduceToNat, ↓reduceIte, Nat.reduceLT, Nat.reduceEqDiff, Nat.reduceAdd, Nat.reduceMul, Nat.reduceSub, Nat.reduceBEq, Nat.reduceLeDiff, reduceCtorEq, Nat.reduceLT, ↓Br_true, ↓Br_false, bind, pure, sc20, sb20, hd]
theorem P6Tiles_cv (r : Rom) (n cap : Nat) (f : Nat → List FV) (hr : r.sz) (hcap : n ≤ cap) :
    CV Tryz.prog 22 [romV r n cap] [.rows n cap 3 f false] (fun v h => ∃ cap' g, (TilAt (tilesL r) g ∧ (tilesL r).length ≤ cap') ∧ v = .slc 1 0 (tilesL r).length cap' ∧ h = [.rows n cap 3 f false, .rows (tilesL r).length cap' 2 g true]) := by
  refine cv_of_run 1000 sc22 sb22 4 [.tmp 2] tabOk (by kernel_rfl) Tryz.func22 rfl (by kernel_rfl) Tryz.ntmps22 rfl (by simp) rfl (by simp [bdL, SV.bd]) ?_
  simp (config := { maxSteps := 1000000 }) (disch := omega) only [go_sem, Int.reduceToNat, ↓reduceIte, Nat.reduceLT, Nat.reduceEqDiff, Nat.reduceAdd, Nat.reduceMul, Nat.reduceSub, Nat.reduceBEq, Nat.reduceLeDiff, reduceCtorEq, Nat.reduceLT, ↓Br_true, ↓Br_false, bind, pure, sc22, sb22]
  have cc := l03Tiles_cv r n cap f hr hcap; (first | refine callR (by rfl) (by rfl) (by rfl) cc ?_ | refine callM (by rfl) (by rfl) (by rfl) cc ?_ | refine callMo (by rfl) (by rfl) (by rfl) cc ?_ | refine callG (by rfl) (by rfl) (by rfl) cc ?_ | refine callW (by rfl) (by first | rfl | (simp [ofL, kpB, kpR, ofB, isOwnB, isDead, inL, hget]; done)) (by rfl) (by rfl) cc ?_); clear cc; rintro _ _ ⟨cap', g, h1, h2, rfl, rfl⟩
  simp (config := { maxSteps := 1000000 }) (disch := omega) only [go_sem, Int.reduceToNat, ↓reduceIte, Nat.reduceLT, Nat.reduceEqDiff, Nat.reduceAdd, Nat.reduceMul, Nat.reduceSub, Nat.reduceBEq, Nat.reduceLeDiff, reduceCtorEq, Nat.reduceLT, ↓Br_true, ↓Br_false, bind, pure, sc22, sb22]
  exact ⟨cap', g, ⟨h1, h2⟩, rfl, rfl⟩
theorem TileOf_cv (r : Rom) (us : Nat → Win) (u : Win) (n cap : Nat) (f : Nat → List FV) (H : RomH r us n cap f) (hv : vRoom r us n = true) (hu : u.sm) (ho : u.ok r = true) :
    CV Tryz.prog 29 [romV r n cap, winV u] [.rows n cap 3 f false] (fun v h => v = .tup [tilV (tileP r u), .f (.int .i64 0)] ∧ h = [.rows n cap 3 f false]) := by
  have hz := (vRoom_at hv).1
  have hcap := H.hcap
  have cf := fits_cv r u n cap f hz hu
  rw [ho] at cf
  have cr := roomCode_cv r us n cap f true H
  rw [hv] at cr
  have ct := tileOf_cv r u n cap f hz
  refine cv_of_run 1000 sc29 sb29 17 [.cell 4 41, .tmp 5] tabOk (by kernel_rfl) Tryz.func29 rfl (by kernel_rfl) Tryz.ntmps29 rfl (by simp) rfl (by simp [bdL, SV.bd]) ?_
  simp (config := { maxSteps := 1000000 }) (disch := omega) only [go_sem, Int.reduceToNat, ↓reduceIte, Nat.reduceLT, Nat.reduceEqDiff, Nat.reduceAdd, Nat.reduceMul, Nat.reduceSub, Nat.reduceBEq, Nat.reduceLeDiff, reduceCtorEq, Nat.reduceLT, ↓Br_true, ↓Br_false, bind, pure, sc29, sb29]
  repeat' (first | (with_reducible refine And.intro (by first | (unfold SOk; kernel_rfl) | (unfold SBOk; kernel_rfl) | (with_reducible assumption) | omega | assumption) ?_) | (with_reducible refine Br_intro (fun hc => ?_) (fun hc => ?_)) | ((have cc := cf; (first | ((first | refine callR (by rfl) (by rfl) (by rfl) cc ?_ | refine callM (by rfl) (by rfl) (by rfl) cc ?_ | refine callMo (by rfl) (by rfl) (by rfl) cc ?_); clear cc; rintro _ _ ⟨rfl, rfl⟩) | (refine callE (by rfl) cc (by rfl) ?_; clear cc))); simp (config := { maxSteps := 1000000 }) (disch := omega) only [go_sem, Int.reduceToNat, ↓reduceIte, Nat.reduceLT, Nat.reduceEqDiff, Nat.reduceAdd, Nat.reduceMul, Nat.reduceSub, Nat.reduceBEq, Nat.reduceLeDiff, reduceCtorEq, Nat.reduceLT, ↓Br_true, ↓Br_false, bind, pure, sc29, sb29]) | ((have cc := cr; (first | ((first | refine callR (by rfl) (by rfl) (by rfl) cc ?_ | refine callM (by rfl) (by rfl) (by rfl) cc ?_ | refine callMo (by rfl) (by rfl) (by rfl) cc ?_); clear cc; rintro _ _ ⟨rfl, rfl⟩) | (refine callE (by rfl) cc (by rfl) ?_; clear cc))); simp (config := { maxSteps := 1000000 }) (disch := omega) only [go_sem, Int.reduceToNat, ↓reduceIte, Nat.reduceLT, Nat.reduceEqDiff, Nat.reduceAdd, Nat.reduceMul, Nat.reduceSub, Nat.reduceBEq, Nat.reduceLeDiff, reduceCtorEq, Nat.reduceLT, ↓Br_true, ↓Br_false, bind, pure, sc29, sb29]) | ((have cc := ct; (first | ((first | refine callR (by rfl) (by rfl) (by rfl) cc ?_ | refine callM (by rfl) (by rfl) (by rfl) cc ?_ | refine callMo (by rfl) (by rfl) (by rfl) cc ?_); clear cc; rintro _ _ ⟨rfl, rfl⟩) | (refine callE (by rfl) cc (by rfl) ?_; clear cc))); simp (config := { maxSteps := 1000000 }) (disch := omega) only [go_sem, Int.reduceToNat, ↓reduceIte, Nat.reduceLT, Nat.reduceEqDiff, Nat.reduceAdd, Nat.reduceMul, Nat.reduceSub, Nat.reduceBEq, Nat.reduceLeDiff, reduceCtorEq, Nat.reduceLT, ↓Br_true, ↓Br_false, bind, pure, sc29, sb29]) | ((with_reducible show WidN _ _ _ _ _ _ _ _); (first | refine widL (by decide) (by with_reducible assumption) ?_ | refine widL (by decide) (FWok_nn (by with_reducible assumption)) ?_ | refine widN (by decide) (fun c hc => ?_)); simp (config := { maxSteps := 1000000 }) (disch := omega) only [go_sem, Int.reduceToNat, ↓reduceIte, Nat.reduceLT, Nat.reduceEqDiff, Nat.reduceAdd, Nat.reduceMul, Nat.reduceSub, Nat.reduceBEq, Nat.reduceLeDiff, reduceCtorEq, Nat.reduceLT, ↓Br_true, ↓Br_false, bind, pure, sc29, sb29]))
  all_goals simp [askC] at hc
theorem sTileOf_cv (r : Rom) (us : Nat → Win) (u : Win) (n cap : Nat) (f : Nat → List FV) (H : RomH r us n cap f) (hv : vRoom r us n = true) (hu : u.sm) (ho : u.ok r = true) :
    CV Tryz.prog 30 [romV r n cap, winV u] [.rows n cap 3 f false] (fun v h => v = .tup [tilV (tileP r u), .f (.int .i64 0)] ∧ h = [.rows n cap 3 f false]) := by
  have hz := (vRoom_at hv).1
  have hcap := H.hcap
  have cf := l03Window_cv r u n cap f hz hu
  rw [ho] at cf
  have cr := l03Asked_cv r us n cap f true H
  rw [hv] at cr
  have ct := l03Tile_cv r u n cap f hz
  refine cv_of_run 1000 sc30 sb30 16 [.cell 4 41, .tmp 5] tabOk (by kernel_rfl) Tryz.func30 rfl (by kernel_rfl) Tryz.ntmps30 rfl (by simp) rfl (by simp [bdL, SV.bd]) ?_
  simp (config := { maxSteps := 1000000 }) (disch := omega) only [go_sem, Int.reduceToNat, ↓reduceIte, Nat.reduceLT, Nat.reduceEqDiff, Nat.reduceAdd, Nat.reduceMul, Nat.reduceSub, Nat.reduceBEq, Nat.reduceLeDiff, reduceCtorEq, Nat.reduceLT, ↓Br_true, ↓Br_false, bind, pure, sc30, sb30]
  repeat' (first | (with_reducible refine And.intro (by first | (unfold SOk; kernel_rfl) | (unfold SBOk; kernel_rfl) | (with_reducible assumption) | omega | assumption) ?_) | (with_reducible refine Br_intro (fun hc => ?_) (fun hc => ?_)) | ((have cc := cf; (first | ((first | refine callR (by rfl) (by rfl) (by rfl) cc ?_ | refine callM (by rfl) (by rfl) (by rfl) cc ?_ | refine callMo (by rfl) (by rfl) (by rfl) cc ?_); clear cc; rintro _ _ ⟨rfl, rfl⟩) | (refine callE (by rfl) cc (by rfl) ?_; clear cc))); simp (config := { maxSteps := 1000000 }) (disch := omega) only [go_sem, Int.reduceToNat, ↓reduceIte, Nat.reduceLT, Nat.reduceEqDiff, Nat.reduceAdd, Nat.reduceMul, Nat.reduceSub, Nat.reduceBEq, Nat.reduceLeDiff, reduceCtorEq, Nat.reduceLT, ↓Br_true, ↓Br_false, bind, pure, sc30, sb30]) | ((have cc := cr; (first | ((first | refine callR (by rfl) (by rfl) (by rfl) cc ?_ | refine callM (by rfl) (by rfl) (by rfl) cc ?_ | refine callMo (by rfl) (by rfl) (by rfl) cc ?_); clear cc; rintro _ _ ⟨rfl, rfl⟩) | (refine callE (by rfl) cc (by rfl) ?_; clear cc))); simp (config := { maxSteps := 1000000 }) (disch := omega) only [go_sem, Int.reduceToNat, ↓reduceIte, Nat.reduceLT, Nat.reduceEqDiff, Nat.reduceAdd, Nat.reduceMul, Nat.reduceSub, Nat.reduceBEq, Nat.reduceLeDiff, reduceCtorEq, Nat.reduceLT, ↓Br_true, ↓Br_false, bind, pure, sc30, sb30]) | ((have cc := ct; (first | ((first | refine callR (by rfl) (by rfl) (by rfl) cc ?_ | refine callM (by rfl) (by rfl) (by rfl) cc ?_ | refine callMo (by rfl) (by rfl) (by rfl) cc ?_); clear cc; rintro _ _ ⟨rfl, rfl⟩) | (refine callE (by rfl) cc (by rfl) ?_; clear cc))); simp (config := { maxSteps := 1000000 }) (disch := omega) only [go_sem, Int.reduceToNat, ↓reduceIte, Nat.reduceLT, Nat.reduceEqDiff, Nat.reduceAdd, Nat.reduceMul, Nat.reduceSub, Nat.reduceBEq, Nat.reduceLeDiff, reduceCtorEq, Nat.reduceLT, ↓Br_true, ↓Br_false, bind, pure, sc30, sb30]) | ((with_reducible show WidN _ _ _ _ _ _ _ _); (first | refine widL (by decide) (by with_reducible assumption) ?_ | refine widL (by decide) (FWok_nn (by with_reducible assumption)) ?_ | refine widN (by decide) (fun c hc => ?_)); simp (config := { maxSteps := 1000000 }) (disch := omega) only [go_sem, Int.reduceToNat, ↓reduceIte, Nat.reduceLT, Nat.reduceEqDiff, Nat.reduceAdd, Nat.reduceMul, Nat.reduceSub, Nat.reduceBEq, Nat.reduceLeDiff, reduceCtorEq, Nat.reduceLT, ↓Br_true, ↓Br_false, bind, pure, sc30, sb30]))
  all_goals simp [askC] at hc
end Go.Proofs.YtjhddlkfkicpaaaGreatDoor.Vx
