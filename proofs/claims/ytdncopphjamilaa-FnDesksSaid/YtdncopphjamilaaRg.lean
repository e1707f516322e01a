/- Rooms, in the abstract: desks, their glare. -/
import Derived.Test.YtdncopphjamilaaRx
namespace Go.Proofs.Ytdncopphjamilaa.Vx
open Go Go.RowKit Fl
set_option maxRecDepth 100000
set_option maxHeartbeats 2000000
set_option linter.unusedSimpArgs false
set_option linter.unusedVariables false

structure Dsk where
  x : Int
  y : Int
  w : Int
abbrev dskV (d : Dsk) : SV := .agg [.f (.int .i8 d.x), .f (.int .i8 d.y), .f (.int .i8 d.w)]
def Dsk.fv (d : Dsk) : List FV := [.int .i8 d.x, .int .i8 d.y, .int .i8 d.w]
def Dsk.at (d : Dsk) : Int × Int := (d.x, d.y)
def Dsk.sm (d : Dsk) : Prop := ((-128 ≤ d.x ∧ d.x ≤ 127) ∧ -128 ≤ d.y ∧ d.y ≤ 127) ∧ -128 ≤ d.w ∧ d.w ≤ 127
def ahead (r : Rom) (u : Win) (d : Dsk) : Bool :=
  if (tileP r u).1 = d.x ∧ (tileP r u).2 = d.y then decide (u.w = d.w) else if d.w = 0 then decide ((tileP r u).2 < d.y) else if d.w = 1 then decide (d.x < (tileP r u).1) else if d.w = 2 then decide (d.y < (tileP r u).2) else decide ((tileP r u).1 < d.x)
theorem isAhead_cv (r : Rom) (u : Win) (d : Dsk) (n cap : Nat) (f : Nat → List FV) (hr : r.sz) (hcap : n ≤ cap) :
    CV Try.prog 148 [.ptr 0 0 0, winV u, dskV d] [romB r n cap false, .rows n cap 3 f false] (fun v h => v = .f (.bool (ahead r u d)) ∧ h = [romB r n cap false, .rows n cap 3 f false]) := by
  have ct := tileOf_cv r u n cap f hr
  unfold ahead
  generalize tileP r u = t at *
  refine cv_of_run 1000 sc148 sb148 52 [.tmp 6] tabOk (by kernel_rfl) Try.func148 rfl (by kernel_rfl) Try.ntmps148 rfl (by simp) rfl (by simp [bdL, SV.bd]) ?_
  simp (config := { maxSteps := 1000000 }) (disch := omega) only [go_sem, Int.reduceToNat, ↓reduceIte, Nat.reduceLT, Nat.reduceEqDiff, Nat.reduceAdd, Nat.reduceMul, Nat.reduceSub, Nat.reduceBEq, Nat.reduceLeDiff, reduceCtorEq, Nat.reduceLT, ↓Br_true, ↓Br_false, bind, pure, sc148, sb148]
  repeat' (first | (with_reducible refine And.intro (by first | (unfold SOk; kernel_rfl) | (unfold SBOk; kernel_rfl) | (with_reducible assumption) | omega | assumption) ?_) | (with_reducible refine Br_intro (fun hc => ?_) (fun hc => ?_)) | ((have cc := ct; (first | ((first | refine callR (by rfl) (by rfl) (by rfl) cc ?_ | refine callM (by rfl) (by rfl) (by rfl) cc ?_ | refine callMo (by rfl) (by rfl) (by rfl) cc ?_); clear cc; rintro _ _ ⟨rfl, rfl⟩) | (refine callE (by rfl) cc (by rfl) ?_; clear cc))); simp (config := { maxSteps := 1000000 }) (disch := omega) only [go_sem, Int.reduceToNat, ↓reduceIte, Nat.reduceLT, Nat.reduceEqDiff, Nat.reduceAdd, Nat.reduceMul, Nat.reduceSub, Nat.reduceBEq, Nat.reduceLeDiff, reduceCtorEq, Nat.reduceLT, ↓Br_true, ↓Br_false, bind, pure, sc148, sb148]) | ((with_reducible show WidN _ _ _ _ _ _ _ _); (first | refine widL (by decide) (by with_reducible assumption) ?_ | refine widL (by decide) (FWok_nn (by with_reducible assumption)) ?_ | refine widN (by decide) (fun c hc => ?_)); simp (config := { maxSteps := 1000000 }) (disch := omega) only [go_sem, Int.reduceToNat, ↓reduceIte, Nat.reduceLT, Nat.reduceEqDiff, Nat.reduceAdd, Nat.reduceMul, Nat.reduceSub, Nat.reduceBEq, Nat.reduceLeDiff, reduceCtorEq, Nat.reduceLT, ↓Br_true, ↓Br_false, bind, pure, sc148, sb148]))
  all_goals simp only [decide_eq_true_eq, decide_eq_false_iff_not, Bool.and_eq_true, Bool.and_eq_false_iff] at *
  all_goals first | (simp [*]; done) | (simp [*]; intros; exfalso; omega)
theorem l03Ahead_cv (r : Rom) (u : Win) (d : Dsk) (n cap : Nat) (f : Nat → List FV) (hr : r.sz) (hcap : n ≤ cap) :
    CV Try.prog 150 [.ptr 0 0 0, dskV d, winV u] [romB r n cap false, .rows n cap 3 f false] (fun v h => v = .f (.bool (ahead r u d)) ∧ h = [romB r n cap false, .rows n cap 3 f false]) := by
  have ct := l03Tile_cv r u n cap f hr
  unfold ahead
  generalize tileP r u = t at *
  refine cv_of_run 1000 sc150 sb150 57 [.tmp 6] tabOk (by kernel_rfl) Try.func150 rfl (by kernel_rfl) Try.ntmps150 rfl (by simp) rfl (by simp [bdL, SV.bd]) ?_
  simp (config := { maxSteps := 1000000 }) (disch := omega) only [go_sem, Int.reduceToNat, ↓reduceIte, Nat.reduceLT, Nat.reduceEqDiff, Nat.reduceAdd, Nat.reduceMul, Nat.reduceSub, Nat.reduceBEq, Nat.reduceLeDiff, reduceCtorEq, Nat.reduceLT, ↓Br_true, ↓Br_false, bind, pure, sc150, sb150]
  repeat' (first | (with_reducible refine And.intro (by first | (unfold SOk; kernel_rfl) | (unfold SBOk; kernel_rfl) | (with_reducible assumption) | omega | assumption) ?_) | (with_reducible refine Br_intro (fun hc => ?_) (fun hc => ?_)) | ((have cc := ct; (first | ((first | refine callR (by rfl) (by rfl) (by rfl) cc ?_ | refine callM (by rfl) (by rfl) (by rfl) cc ?_ | refine callMo (by rfl) (by rfl) (by rfl) cc ?_); clear cc; rintro _ _ ⟨rfl, rfl⟩) | (refine callE (by rfl) cc (by rfl) ?_; clear cc))); simp (config := { maxSteps := 1000000 }) (disch := omega) only [go_sem, Int.reduceToNat, ↓reduceIte, Nat.reduceLT, Nat.reduceEqDiff, Nat.reduceAdd, Nat.reduceMul, Nat.reduceSub, Nat.reduceBEq, Nat.reduceLeDiff, reduceCtorEq, Nat.reduceLT, ↓Br_true, ↓Br_false, bind, pure, sc150, sb150]) | ((with_reducible show WidN _ _ _ _ _ _ _ _); (first | refine widL (by decide) (by with_reducible assumption) ?_ | refine widL (by decide) (FWok_nn (by with_reducible assumption)) ?_ | refine widN (by decide) (fun c hc => ?_)); simp (config := { maxSteps := 1000000 }) (disch := omega) only [go_sem, Int.reduceToNat, ↓reduceIte, Nat.reduceLT, Nat.reduceEqDiff, Nat.reduceAdd, Nat.reduceMul, Nat.reduceSub, Nat.reduceBEq, Nat.reduceLeDiff, reduceCtorEq, Nat.reduceLT, ↓Br_true, ↓Br_false, bind, pure, sc150, sb150]))
  all_goals simp only [decide_eq_true_eq, decide_eq_false_iff_not, Bool.and_eq_true, Bool.and_eq_false_iff] at *
  all_goals first | (simp [*]; done) | (simp [*]; intros; exfalso; omega)
def glaF (r : Rom) (us : Nat → Win) (d : Dsk) : Nat → Nat
  | 0 => 0
  | k + 1 => if ahead r (us k) d then fadd (glaF r us d k) (fromF r (us k) d.at) else glaF r us d k
theorem glaF_P0 {r : Rom} {us : Nat → Win} {d : Dsk} {n : Nat} (hr : r.sz) (hw : allW r us n = true) (hp : inR d.at) : ∀ k, k ≤ n → P0 (glaF r us d k)
  | 0, _ => show P0 0 from ⟨by decide, by decide⟩
  | k + 1, h => by
    simp only [glaF]
    split
    · exact (add_P0 (glaF_P0 hr hw hp k (by omega)) (from_ok hr (allW_at hw (k := k) (by omega)) hp).2).2.1
    · exact glaF_P0 hr hw hp k (by omega)
theorem glare_cv (r : Rom) (us : Nat → Win) (d : Dsk) (n cap : Nat) (f : Nat → List FV) (hf : ∀ i, i < n → f i = (us i).fv) (hcap : n ≤ cap) (hn : n ≤ 1048576) (hr : r.sz) (hw : allW r us n = true) (hp : inR d.at) :
    CV Try.prog 87 [.ptr 0 0 0, dskV d] [romB r n cap false, .rows n cap 3 f false] (fun v h => v = .f (.flt .f32 (glaF r us d n)) ∧ h = [romB r n cap false, .rows n cap 3 f false]) := by
  refine cv_of_run 1000 sc87 sb87 30 [.tmp 4] tabOk (by kernel_rfl) Try.func87 rfl (by kernel_rfl) Try.ntmps87 rfl (by simp) rfl (by simp [bdL, SV.bd]) ?_
  simp (config := { maxSteps := 1000000 }) (disch := omega) only [go_sem, Int.reduceToNat, ↓reduceIte, Nat.reduceLT, Nat.reduceEqDiff, Nat.reduceAdd, Nat.reduceMul, Nat.reduceSub, Nat.reduceBEq, Nat.reduceLeDiff, reduceCtorEq, Nat.reduceLT, ↓Br_true, ↓Br_false, bind, pure, sc87, sb87]
  refine ⟨Nat, fun k => k ≤ n, fun k => n - k, fun k => [(0, .ptr 0 0 0), (3, .ptr 2 0 0), (4, .f (.flt .f32 0)), (5, .f (.flt .f32 (glaF r us d k))), (11, .slc 1 0 n cap), (12, .f (.int .i64 n)), (13, .f (.int .i64 k))], fun _ => [romB r n cap false, .rows n cap 3 f false, .lit [.f (.int .i8 d.x), .f (.int .i8 d.y), .f (.int .i8 d.w)] true], 0, (by intro _; simp), ?_, (by (try refine Or.inl ?_); simp [Cov, covE, covH, cb_dead, cb_lit, cb_rows, cb_cells, cd_lit, cd_rows, cd_cells, cd_dead, covRow, look, SV.known, SV.bd, bdL, glaF, hcap] <;> omega), ?_⟩
  · omega
  · intro k hk
    by_cases hlt : k < n
    · have hd : decide ((k : Int) < n) = true := decide_eq_true (by omega)
      have e1 := hf k hlt
      simp only [Win.fv] at e1
      have hu := allW_at hw hlt
      have ha := (add_P0 (glaF_P0 hr hw hp k hk) (from_ok hr hu hp).2).1
      simp (config := { maxSteps := 1000000 }) (disch := omega) only [go_sem, Int.reduceToNat, ↓reduceIte, Nat.reduceLT, Nat.reduceEqDiff, Nat.reduceAdd, Nat.reduceMul, Nat.reduceSub, Nat.reduceBEq, Nat.reduceLeDiff, reduceCtorEq, Nat.reduceLT, ↓Br_true, ↓Br_false, bind, pure, sc87, sb87, hd, e1]
      repeat' (first | (with_reducible refine And.intro (by first | (unfold SOk; kernel_rfl) | (unfold SBOk; kernel_rfl) | (with_reducible assumption) | omega | assumption) ?_) | (with_reducible refine Br_intro (fun hc => ?_) (fun hc => ?_)) | ((have cc := isAhead_cv r (us k) d n cap f hr hcap; (first | ((first | refine callR (by rfl) (by rfl) (by rfl) cc ?_ | refine callM (by rfl) (by rfl) (by rfl) cc ?_ | refine callMo (by rfl) (by rfl) (by rfl) cc ?_); clear cc; rintro _ _ ⟨rfl, rfl⟩) | (refine callE (by rfl) cc (by rfl) ?_; clear cc))); simp (config := { maxSteps := 1000000 }) (disch := omega) only [go_sem, Int.reduceToNat, ↓reduceIte, Nat.reduceLT, Nat.reduceEqDiff, Nat.reduceAdd, Nat.reduceMul, Nat.reduceSub, Nat.reduceBEq, Nat.reduceLeDiff, reduceCtorEq, Nat.reduceLT, ↓Br_true, ↓Br_false, bind, pure, sc87, sb87, hd, e1]) | ((have cc := from_cv r (us k) d.at n cap f hr hu hp; (first | ((first | refine callR (by rfl) (by rfl) (by rfl) cc ?_ | refine callM (by rfl) (by rfl) (by rfl) cc ?_ | refine callMo (by rfl) (by rfl) (by rfl) cc ?_); clear cc; rintro _ _ ⟨rfl, rfl⟩) | (refine callE (by rfl) cc (by rfl) ?_; clear cc))); simp (config := { maxSteps := 1000000 }) (disch := omega) only [go_sem, Int.reduceToNat, ↓reduceIte, Nat.reduceLT, Nat.reduceEqDiff, Nat.reduceAdd, Nat.reduceMul, Nat.reduceSub, Nat.reduceBEq, Nat.reduceLeDiff, reduceCtorEq, Nat.reduceLT, ↓Br_true, ↓Br_false, bind, pure, sc87, sb87, hd, e1]) | ((with_reducible show WidN _ _ _ _ _ _ _ _); (first | refine widL (by decide) (by with_reducible assumption) ?_ | refine widL (by decide) (FWok_nn (by with_reducible assumption)) ?_ | refine widN (by decide) (fun c hc => ?_)); simp (config := { maxSteps := 1000000 }) (disch := omega) only [go_sem, Int.reduceToNat, ↓reduceIte, Nat.reduceLT, Nat.reduceEqDiff, Nat.reduceAdd, Nat.reduceMul, Nat.reduceSub, Nat.reduceBEq, Nat.reduceLeDiff, reduceCtorEq, Nat.reduceLT, ↓Br_true, ↓Br_false, bind, pure, sc87, sb87, hd, e1]))
      · exact ⟨k + 1, by omega, by omega, by (try refine Or.inl ?_); simp [Cov, covE, covH, cb_dead, cb_lit, cb_rows, cb_cells, cd_lit, cd_rows, cd_cells, cd_dead, covRow, look, SV.known, SV.bd, bdL, glaF, hc, hcap] <;> omega⟩
      · exact ⟨k + 1, by omega, by omega, by (try refine Or.inl ?_); simp [Cov, covE, covH, cb_dead, cb_lit, cb_rows, cb_cells, cd_lit, cd_rows, cd_cells, cd_dead, covRow, look, SV.known, SV.bd, bdL, glaF, hc, hcap] <;> omega⟩
    · have hd : decide ((k : Int) < n) = false := decide_eq_false (by omega)
      simp (config := { maxSteps := 1000000 }) (disch := omega) only [go_sem, Int.reduceToNat, ↓reduceIte, Nat.reduceLT, Nat.reduceEqDiff, Nat.reduceAdd, Nat.reduceMul, Nat.reduceSub, Nat.reduceBEq, Nat.reduceLeDiff, reduceCtorEq, Nat.reduceLT, ↓Br_true, ↓Br_false, bind, pure, sc87, sb87, hd]
      obtain rfl : k = n := by omega
      rfl
theorem l03Glare_cv (r : Rom) (us : Nat → Win) (d : Dsk) (n cap : Nat) (f : Nat → List FV) (hf : ∀ i, i < n → f i = (us i).fv) (hcap : n ≤ cap) (hn : n ≤ 1048576) (hr : r.sz) (hw : allW r us n = true) (hp : inR d.at) :
    CV Try.prog 90 [.ptr 0 0 0, dskV d] [romB r n cap false, .rows n cap 3 f false] (fun v h => v = .f (.flt .f32 (glaF r us d n)) ∧ h = [romB r n cap false, .rows n cap 3 f false]) := by
  refine cv_of_run 1000 sc90 sb90 40 [.tmp 4] tabOk (by kernel_rfl) Try.func90 rfl (by kernel_rfl) Try.ntmps90 rfl (by simp) rfl (by simp [bdL, SV.bd]) ?_
  simp (config := { maxSteps := 1000000 }) (disch := omega) only [go_sem, Int.reduceToNat, ↓reduceIte, Nat.reduceLT, Nat.reduceEqDiff, Nat.reduceAdd, Nat.reduceMul, Nat.reduceSub, Nat.reduceBEq, Nat.reduceLeDiff, reduceCtorEq, Nat.reduceLT, ↓Br_true, ↓Br_false, bind, pure, sc90, sb90]
  refine ⟨Nat, fun k => k ≤ n, fun k => n - k, fun k => [(0, .ptr 0 0 0), (3, .ptr 2 0 0), (4, .f (.flt .f32 0)), (5, .f (.flt .f32 (glaF r us d k))), (6, .f (.int .i64 k))], fun _ => [romB r n cap false, .rows n cap 3 f false, .lit [.f (.int .i8 d.x), .f (.int .i8 d.y), .f (.int .i8 d.w)] true], 0, (by intro _; simp), ?_, (by (try refine Or.inl ?_); simp [Cov, covE, covH, cb_dead, cb_lit, cb_rows, cb_cells, cd_lit, cd_rows, cd_cells, cd_dead, covRow, look, SV.known, SV.bd, bdL, glaF, hcap] <;> omega), ?_⟩
  · omega
  · intro k hk
    by_cases hlt : k < n
    · have hd : decide ((k : Int) < n) = true := decide_eq_true (by omega)
      have e1 := hf k hlt
      simp only [Win.fv] at e1
      have hu := allW_at hw hlt
      have ha := (add_P0 (glaF_P0 hr hw hp k hk) (from_ok hr hu hp).2).1
      simp (config := { maxSteps := 1000000 }) (disch := omega) only [go_sem, Int.reduceToNat, ↓reduceIte, Nat.reduceLT, Nat.reduceEqDiff, Nat.reduceAdd, Nat.reduceMul, Nat.reduceSub, Nat.reduceBEq, Nat.reduceLeDiff, reduceCtorEq, Nat.reduceLT, ↓Br_true, ↓Br_false, bind, pure, sc90, sb90, hd, e1]
      repeat' (first | (with_reducible refine And.intro (by first | (unfold SOk; kernel_rfl) | (unfold SBOk; kernel_rfl) | (with_reducible assumption) | omega | assumption) ?_) | (with_reducible refine Br_intro (fun hc => ?_) (fun hc => ?_)) | ((have cc := l03Ahead_cv r (us k) d n cap f hr hcap; (first | ((first | refine callR (by rfl) (by rfl) (by rfl) cc ?_ | refine callM (by rfl) (by rfl) (by rfl) cc ?_ | refine callMo (by rfl) (by rfl) (by rfl) cc ?_); clear cc; rintro _ _ ⟨rfl, rfl⟩) | (refine callE (by rfl) cc (by rfl) ?_; clear cc))); simp (config := { maxSteps := 1000000 }) (disch := omega) only [go_sem, Int.reduceToNat, ↓reduceIte, Nat.reduceLT, Nat.reduceEqDiff, Nat.reduceAdd, Nat.reduceMul, Nat.reduceSub, Nat.reduceBEq, Nat.reduceLeDiff, reduceCtorEq, Nat.reduceLT, ↓Br_true, ↓Br_false, bind, pure, sc90, sb90, hd, e1]) | ((have cc := l03From_cv r (us k) d.at n cap f hr hu hp; (first | ((first | refine callR (by rfl) (by rfl) (by rfl) cc ?_ | refine callM (by rfl) (by rfl) (by rfl) cc ?_ | refine callMo (by rfl) (by rfl) (by rfl) cc ?_); clear cc; rintro _ _ ⟨rfl, rfl⟩) | (refine callE (by rfl) cc (by rfl) ?_; clear cc))); simp (config := { maxSteps := 1000000 }) (disch := omega) only [go_sem, Int.reduceToNat, ↓reduceIte, Nat.reduceLT, Nat.reduceEqDiff, Nat.reduceAdd, Nat.reduceMul, Nat.reduceSub, Nat.reduceBEq, Nat.reduceLeDiff, reduceCtorEq, Nat.reduceLT, ↓Br_true, ↓Br_false, bind, pure, sc90, sb90, hd, e1]) | ((with_reducible show WidN _ _ _ _ _ _ _ _); (first | refine widL (by decide) (by with_reducible assumption) ?_ | refine widL (by decide) (FWok_nn (by with_reducible assumption)) ?_ | refine widN (by decide) (fun c hc => ?_)); simp (config := { maxSteps := 1000000 }) (disch := omega) only [go_sem, Int.reduceToNat, ↓reduceIte, Nat.reduceLT, Nat.reduceEqDiff, Nat.reduceAdd, Nat.reduceMul, Nat.reduceSub, Nat.reduceBEq, Nat.reduceLeDiff, reduceCtorEq, Nat.reduceLT, ↓Br_true, ↓Br_false, bind, pure, sc90, sb90, hd, e1]))
      · exact ⟨k + 1, by omega, by omega, by (try refine Or.inl ?_); simp [Cov, covE, covH, cb_dead, cb_lit, cb_rows, cb_cells, cd_lit, cd_rows, cd_cells, cd_dead, covRow, look, SV.known, SV.bd, bdL, glaF, hc, hcap] <;> omega⟩
      · exact ⟨k + 1, by omega, by omega, by (try refine Or.inl ?_); simp [Cov, covE, covH, cb_dead, cb_lit, cb_rows, cb_cells, cd_lit, cd_rows, cd_cells, cd_dead, covRow, look, SV.known, SV.bd, bdL, glaF, hc, hcap] <;> omega⟩
    · have hd : decide ((k : Int) < n) = false := decide_eq_false (by omega)
      simp (config := { maxSteps := 1000000 }) (disch := omega) only [go_sem, Int.reduceToNat, ↓reduceIte, Nat.reduceLT, Nat.reduceEqDiff, Nat.reduceAdd, Nat.reduceMul, Nat.reduceSub, Nat.reduceBEq, Nat.reduceLeDiff, reduceCtorEq, Nat.reduceLT, ↓Br_true, ↓Br_false, bind, pure, sc90, sb90, hd]
      obtain rfl : k = n := by omega
      rfl
def dskB (r : Rom) (d : Dsk) : Bool := hasT r d.at && inn d.w 0 3
def allD (r : Rom) (ds : Nat → Dsk) (m : Nat) : Bool := (List.range m).all fun i => dskB r (ds i)
theorem allD_succ (r : Rom) (ds : Nat → Dsk) (m : Nat) : allD r ds (m + 1) = (allD r ds m && dskB r (ds m)) := by simp [allD, List.range_succ, List.all_append]
theorem allD_no {r : Rom} {ds : Nat → Dsk} {m k : Nat} (hk : k < m) (h : dskB r (ds k) = false) : allD r ds m = false := List.all_eq_false.2 ⟨k, by simpa using hk, by simp [h]⟩
theorem allD_at {r : Rom} {ds : Nat → Dsk} {m k : Nat} (h : allD r ds m = true) (hk : k < m) : dskB r (ds k) = true := List.all_eq_true.1 h k (by simpa using hk)
theorem desk_in {r : Rom} {d : Dsk} (hr : r.sz) (h : dskB r d = true) : inR d.at := by
  simp only [dskB, Bool.and_eq_true] at h
  exact has_in hr h.1
abbrev rmB2 (r : Rom) (n cap : Nat) : Blk := .lit [.f (.int .i8 r.wi), .f (.int .i8 r.hi), .slc 2 0 n cap] false
theorem areDesks_cv (r : Rom) (ds : Nat → Dsk) (n cap m cap' : Nat) (f g : Nat → List FV) (hcap : n ≤ cap) (hg : ∀ i, i < m → g i = (ds i).fv) (hcap' : m ≤ cap') (hm : m ≤ 1048576) (hs : ∀ i, i < m → (ds i).sm) :
    CV Try.prog 86 [.ptr 0 0 0, .slc 1 0 m cap'] [rmB2 r n cap, .rows m cap' 3 g false, .rows n cap 3 f false] (fun v h => v = .f (.bool (allD r ds m)) ∧ h = [rmB2 r n cap, .rows m cap' 3 g false, .rows n cap 3 f false]) := by
  refine cv_of_run 1000 sc86 sb86 26 [.tmp 4] tabOk (by kernel_rfl) Try.func86 rfl (by kernel_rfl) Try.ntmps86 rfl (by simp) rfl (by simp [bdL, SV.bd]) ?_
  simp (config := { maxSteps := 1000000 }) (disch := omega) only [go_sem, Int.reduceToNat, ↓reduceIte, Nat.reduceLT, Nat.reduceEqDiff, Nat.reduceAdd, Nat.reduceMul, Nat.reduceSub, Nat.reduceBEq, Nat.reduceLeDiff, reduceCtorEq, Nat.reduceLT, ↓Br_true, ↓Br_false, bind, pure, sc86, sb86]
  refine ⟨Nat, fun k => k ≤ m ∧ allD r ds k = true, fun k => m - k, fun k => [(0, .ptr 0 0 0), (4, .f (.bool false)), (7, .slc 1 0 m cap'), (8, .f (.int .i64 m)), (9, .f (.int .i64 k))], fun _ => [rmB2 r n cap, .rows m cap' 3 g false, .rows n cap 3 f false], 0, (by intro _; simp), ?_, (by (try refine Or.inl ?_); simp [Cov, covE, covH, cb_dead, cb_lit, cb_rows, cb_cells, cd_lit, cd_rows, cd_cells, cd_dead, covRow, look, SV.known, SV.bd, bdL, hcap, hcap'] <;> omega), ?_⟩
  · exact ⟨by omega, rfl⟩
  · rintro k ⟨hk, hall⟩
    by_cases hlt : k < m
    · have hd : decide ((k : Int) < m) = true := decide_eq_true (by omega)
      have e1 := hg k hlt
      simp only [Dsk.fv] at e1
      obtain ⟨⟨_, _⟩, _, _⟩ := hs k hlt
      simp (config := { maxSteps := 1000000 }) (disch := omega) only [go_sem, Int.reduceToNat, ↓reduceIte, Nat.reduceLT, Nat.reduceEqDiff, Nat.reduceAdd, Nat.reduceMul, Nat.reduceSub, Nat.reduceBEq, Nat.reduceLeDiff, reduceCtorEq, Nat.reduceLT, ↓Br_true, ↓Br_false, bind, pure, sc86, sb86, hd, e1]
      repeat' (first | (with_reducible refine And.intro (by first | (unfold SOk; kernel_rfl) | (unfold SBOk; kernel_rfl) | (with_reducible assumption) | omega | assumption) ?_) | (with_reducible refine Br_intro (fun hc => ?_) (fun hc => ?_)) | ((have cc := has_cv r (ds k).at n cap f hcap; (first | ((first | refine callR (by rfl) (by rfl) (by rfl) cc ?_ | refine callM (by rfl) (by rfl) (by rfl) cc ?_ | refine callMo (by rfl) (by rfl) (by rfl) cc ?_); clear cc; rintro _ _ ⟨rfl, rfl⟩) | (refine callE (by rfl) cc (by rfl) ?_; clear cc))); simp (config := { maxSteps := 1000000 }) (disch := omega) only [go_sem, Int.reduceToNat, ↓reduceIte, Nat.reduceLT, Nat.reduceEqDiff, Nat.reduceAdd, Nat.reduceMul, Nat.reduceSub, Nat.reduceBEq, Nat.reduceLeDiff, reduceCtorEq, Nat.reduceLT, ↓Br_true, ↓Br_false, bind, pure, sc86, sb86, hd, e1]) | ((first | (refine callR (by rfl) (by rfl) (by rfl) (rwithin_cv _ _ _) ?_; rintro _ _ ⟨rfl, rfl⟩) | (refine callM (by rfl) (by rfl) (by rfl) (rwithin_cv _ _ _) ?_; rintro _ _ ⟨rfl, rfl⟩) | (refine callMo (by rfl) (by rfl) (by rfl) (rwithin_cv _ _ _) ?_; rintro _ _ ⟨rfl, rfl⟩) | (refine callE (by rfl) (rwithin_cv _ _ _) (by rfl) ?_)); simp (config := { maxSteps := 1000000 }) (disch := omega) only [go_sem, Int.reduceToNat, ↓reduceIte, Nat.reduceLT, Nat.reduceEqDiff, Nat.reduceAdd, Nat.reduceMul, Nat.reduceSub, Nat.reduceBEq, Nat.reduceLeDiff, reduceCtorEq, Nat.reduceLT, ↓Br_true, ↓Br_false, bind, pure, sc86, sb86, hd, e1]) | ((with_reducible show WidN _ _ _ _ _ _ _ _); (first | refine widL (by decide) (by with_reducible assumption) ?_ | refine widL (by decide) (FWok_nn (by with_reducible assumption)) ?_ | refine widN (by decide) (fun c hc => ?_)); simp (config := { maxSteps := 1000000 }) (disch := omega) only [go_sem, Int.reduceToNat, ↓reduceIte, Nat.reduceLT, Nat.reduceEqDiff, Nat.reduceAdd, Nat.reduceMul, Nat.reduceSub, Nat.reduceBEq, Nat.reduceLeDiff, reduceCtorEq, Nat.reduceLT, ↓Br_true, ↓Br_false, bind, pure, sc86, sb86, hd, e1]))
      all_goals simp only [Bool.not_eq_true', Bool.not_eq_false'] at *
      · rw [allD_no hlt (by simp [dskB, hc])]
      · rw [allD_no hlt (by simp [dskB, hc])]
      · rename_i hc0
        exact ⟨k + 1, ⟨by omega, by rw [allD_succ, hall]; simp [dskB, hc, hc0]⟩, by omega, by (try refine Or.inl ?_); simp [Cov, covE, covH, cb_dead, cb_lit, cb_rows, cb_cells, cd_lit, cd_rows, cd_cells, cd_dead, covRow, look, SV.known, SV.bd, bdL, hcap, hcap'] <;> omega⟩
    · have hd : decide ((k : Int) < m) = false := decide_eq_false (by omega)
      simp (config := { maxSteps := 1000000 }) (disch := omega) only [go_sem, Int.reduceToNat, ↓reduceIte, Nat.reduceLT, Nat.reduceEqDiff, Nat.reduceAdd, Nat.reduceMul, Nat.reduceSub, Nat.reduceBEq, Nat.reduceLeDiff, reduceCtorEq, Nat.reduceLT, ↓Br_true, ↓Br_false, bind, pure, sc86, sb86, hd]
      obtain rfl : k = m := by omega
      simp [hall]
theorem l03Desk_cv (r : Rom) (d : Dsk) (n cap : Nat) (f : Nat → List FV) (hcap : n ≤ cap) (hs : d.sm) (hr : (-128 ≤ r.wi ∧ r.wi ≤ 127) ∧ -128 ≤ r.hi ∧ r.hi ≤ 127) :
    CV Try.prog 95 [.ptr 0 0 0, dskV d] [romB r n cap false, .rows n cap 3 f false] (fun v h => v = .f (.bool (dskB r d)) ∧ h = [romB r n cap false, .rows n cap 3 f false]) := by
  obtain ⟨hp, _, _⟩ := hs
  refine cv_of_run 1000 sc95 sb95 15 [.tmp 4] tabOk (by kernel_rfl) Try.func95 rfl (by kernel_rfl) Try.ntmps95 rfl (by simp) rfl (by simp [bdL, SV.bd]) ?_
  simp (config := { maxSteps := 1000000 }) (disch := omega) only [go_sem, Int.reduceToNat, ↓reduceIte, Nat.reduceLT, Nat.reduceEqDiff, Nat.reduceAdd, Nat.reduceMul, Nat.reduceSub, Nat.reduceBEq, Nat.reduceLeDiff, reduceCtorEq, Nat.reduceLT, ↓Br_true, ↓Br_false, bind, pure, sc95, sb95]
  repeat' (first | (with_reducible refine And.intro (by first | (unfold SOk; kernel_rfl) | (unfold SBOk; kernel_rfl) | (with_reducible assumption) | omega | assumption) ?_) | (with_reducible refine Br_intro (fun hc => ?_) (fun hc => ?_)) | ((have cc := l03Is_cv r d.at n cap f hcap hp hr; (first | ((first | refine callR (by rfl) (by rfl) (by rfl) cc ?_ | refine callM (by rfl) (by rfl) (by rfl) cc ?_ | refine callMo (by rfl) (by rfl) (by rfl) cc ?_); clear cc; rintro _ _ ⟨rfl, rfl⟩) | (refine callE (by rfl) cc (by rfl) ?_; clear cc))); simp (config := { maxSteps := 1000000 }) (disch := omega) only [go_sem, Int.reduceToNat, ↓reduceIte, Nat.reduceLT, Nat.reduceEqDiff, Nat.reduceAdd, Nat.reduceMul, Nat.reduceSub, Nat.reduceBEq, Nat.reduceLeDiff, reduceCtorEq, Nat.reduceLT, ↓Br_true, ↓Br_false, bind, pure, sc95, sb95]) | ((first | (refine callR (by rfl) (by rfl) (by rfl) (l03Wall_cv _) ?_; rintro _ _ ⟨rfl, rfl⟩) | (refine callM (by rfl) (by rfl) (by rfl) (l03Wall_cv _) ?_; rintro _ _ ⟨rfl, rfl⟩) | (refine callMo (by rfl) (by rfl) (by rfl) (l03Wall_cv _) ?_; rintro _ _ ⟨rfl, rfl⟩) | (refine callE (by rfl) (l03Wall_cv _) (by rfl) ?_)); simp (config := { maxSteps := 1000000 }) (disch := omega) only [go_sem, Int.reduceToNat, ↓reduceIte, Nat.reduceLT, Nat.reduceEqDiff, Nat.reduceAdd, Nat.reduceMul, Nat.reduceSub, Nat.reduceBEq, Nat.reduceLeDiff, reduceCtorEq, Nat.reduceLT, ↓Br_true, ↓Br_false, bind, pure, sc95, sb95]) | ((with_reducible show WidN _ _ _ _ _ _ _ _); (first | refine widL (by decide) (by with_reducible assumption) ?_ | refine widL (by decide) (FWok_nn (by with_reducible assumption)) ?_ | refine widN (by decide) (fun c hc => ?_)); simp (config := { maxSteps := 1000000 }) (disch := omega) only [go_sem, Int.reduceToNat, ↓reduceIte, Nat.reduceLT, Nat.reduceEqDiff, Nat.reduceAdd, Nat.reduceMul, Nat.reduceSub, Nat.reduceBEq, Nat.reduceLeDiff, reduceCtorEq, Nat.reduceLT, ↓Br_true, ↓Br_false, bind, pure, sc95, sb95]))
  all_goals simp [dskB, *]
end Go.Proofs.Ytdncopphjamilaa.Vx
