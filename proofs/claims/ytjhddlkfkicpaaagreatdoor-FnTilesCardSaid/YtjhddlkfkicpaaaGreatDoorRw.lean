/- Rooms, in the abstract: windows, their light. -/
import Derived.Test.YtjhddlkfkicpaaaGreatDoorVs
import Derived.Test.YtjhddlkfkicpaaaGreatDoorVt
namespace Go.Proofs.YtjhddlkfkicpaaaGreatDoor.Vx
open Go Go.RowKit Fl
set_option maxRecDepth 100000
set_option maxHeartbeats 2000000
set_option linter.unusedSimpArgs false
set_option linter.unusedVariables false

structure Win where
  w : Int
  a : Int
  l : Nat
structure Rom where
  wi : Int
  hi : Int
def Win.fv (u : Win) : List FV := [.int .i8 u.w, .int .i8 u.a, .flt .f32 u.l]
abbrev winV (u : Win) : SV := .agg [.f (.int .i8 u.w), .f (.int .i8 u.a), .f (.flt .f32 u.l)]
abbrev tilV (p : Int × Int) : SV := .agg [.f (.int .i8 p.1), .f (.int .i8 p.2)]
abbrev romB (r : Rom) (n cap : Nat) (o : Bool) : Blk := .lit [.f (.int .i8 r.wi), .f (.int .i8 r.hi), .slc 1 0 n cap] o
/-- The sizes are right. -/
def Rom.sz (r : Rom) : Prop := (1 ≤ r.wi ∧ r.wi ≤ 10) ∧ (1 ≤ r.hi ∧ r.hi ≤ 10)
def lastI (r : Rom) (w : Int) : Int := if w = 0 then r.wi else if w = 2 then r.wi else r.hi
def Win.ok (r : Rom) (u : Win) : Bool := inn u.w 0 3 && inn u.a 0 (lastI r u.w - 1) && isPart u.l
def tileP (r : Rom) (u : Win) : Int × Int := if u.w = 0 then (u.a, 0) else if u.w = 1 then (r.wi - 1, u.a) else if u.w = 2 then (u.a, r.hi - 1) else (0, u.a)
theorem win_ok {r : Rom} {u : Win} (hr : r.sz) (h : u.ok r = true) : (0 ≤ u.w ∧ u.w ≤ 3) ∧ (0 ≤ u.a ∧ u.a ≤ 9) ∧ isPart u.l = true ∧ (0 ≤ (tileP r u).1 ∧ (tileP r u).1 ≤ 9) ∧ (0 ≤ (tileP r u).2 ∧ (tileP r u).2 ≤ 9) := by
  obtain ⟨⟨_, _⟩, _, _⟩ := hr
  simp only [Win.ok, Bool.and_eq_true, inn_true, lastI] at h
  obtain ⟨⟨⟨h1, h2⟩, h3, h4⟩, h5⟩ := h
  have ha : u.a ≤ 9 := by repeat' (split at h4) <;> omega
  refine ⟨⟨h1, h2⟩, ⟨h3, ha⟩, h5, ?_, ?_⟩ <;> unfold tileP <;> (repeat' split) <;> simp only <;> omega
theorem tileOf_cv (r : Rom) (u : Win) (n cap : Nat) (f : Nat → List FV) (hr : r.sz) :
    CV Tryz.prog 64 [.ptr 0 0 0, winV u] [romB r n cap false, .rows n cap 3 f false] (fun v h => v = tilV (tileP r u) ∧ h = [romB r n cap false, .rows n cap 3 f false]) := by
  obtain ⟨⟨_, _⟩, _, _⟩ := hr
  refine cv_of_run 1000 sc64 sb64 35 [.cell 4 41] tabOk (by kernel_rfl) Tryz.func64 rfl (by kernel_rfl) Tryz.ntmps64 rfl (by simp) rfl (by simp [bdL, SV.bd]) ?_
  simp (config := { maxSteps := 1000000 }) (disch := omega) only [go_sem, Int.reduceToNat, ↓reduceIte, Nat.reduceLT, Nat.reduceEqDiff, Nat.reduceAdd, Nat.reduceMul, Nat.reduceSub, Nat.reduceBEq, Nat.reduceLeDiff, reduceCtorEq, Nat.reduceLT, ↓Br_true, ↓Br_false, bind, pure, sc64, sb64]
  repeat' (first | (with_reducible refine And.intro (by first | (unfold SOk; kernel_rfl) | (unfold SBOk; kernel_rfl) | (with_reducible assumption) | omega | assumption) ?_) | (with_reducible refine Br_intro (fun hc => ?_) (fun hc => ?_)) | ((with_reducible show WidN _ _ _ _ _ _ _ _); (first | refine widL (by decide) (by with_reducible assumption) ?_ | refine widL (by decide) (FWok_nn (by with_reducible assumption)) ?_ | refine widN (by decide) (fun c hc => ?_)); simp (config := { maxSteps := 1000000 }) (disch := omega) only [go_sem, Int.reduceToNat, ↓reduceIte, Nat.reduceLT, Nat.reduceEqDiff, Nat.reduceAdd, Nat.reduceMul, Nat.reduceSub, Nat.reduceBEq, Nat.reduceLeDiff, reduceCtorEq, Nat.reduceLT, ↓Br_true, ↓Br_false, bind, pure, sc64, sb64]))
  all_goals simp only [decide_eq_true_eq, decide_eq_false_iff_not] at *
  all_goals simp [tileP, *]
theorem l03Tile_cv (r : Rom) (u : Win) (n cap : Nat) (f : Nat → List FV) (hr : r.sz) :
    CV Tryz.prog 66 [.ptr 0 0 0, winV u] [romB r n cap false, .rows n cap 3 f false] (fun v h => v = tilV (tileP r u) ∧ h = [romB r n cap false, .rows n cap 3 f false]) := by
  obtain ⟨⟨_, _⟩, _, _⟩ := hr
  refine cv_of_run 1000 sc66 sb66 35 [.cell 4 41] tabOk (by kernel_rfl) Tryz.func66 rfl (by kernel_rfl) Tryz.ntmps66 rfl (by simp) rfl (by simp [bdL, SV.bd]) ?_
  simp (config := { maxSteps := 1000000 }) (disch := omega) only [go_sem, Int.reduceToNat, ↓reduceIte, Nat.reduceLT, Nat.reduceEqDiff, Nat.reduceAdd, Nat.reduceMul, Nat.reduceSub, Nat.reduceBEq, Nat.reduceLeDiff, reduceCtorEq, Nat.reduceLT, ↓Br_true, ↓Br_false, bind, pure, sc66, sb66]
  repeat' (first | (with_reducible refine And.intro (by first | (unfold SOk; kernel_rfl) | (unfold SBOk; kernel_rfl) | (with_reducible assumption) | omega | assumption) ?_) | (with_reducible refine Br_intro (fun hc => ?_) (fun hc => ?_)) | ((with_reducible show WidN _ _ _ _ _ _ _ _); (first | refine widL (by decide) (by with_reducible assumption) ?_ | refine widL (by decide) (FWok_nn (by with_reducible assumption)) ?_ | refine widN (by decide) (fun c hc => ?_)); simp (config := { maxSteps := 1000000 }) (disch := omega) only [go_sem, Int.reduceToNat, ↓reduceIte, Nat.reduceLT, Nat.reduceEqDiff, Nat.reduceAdd, Nat.reduceMul, Nat.reduceSub, Nat.reduceBEq, Nat.reduceLeDiff, reduceCtorEq, Nat.reduceLT, ↓Br_true, ↓Br_false, bind, pure, sc66, sb66]))
  all_goals simp only [decide_eq_true_eq, decide_eq_false_iff_not] at *
  all_goals simp [tileP, *]
def distI (r : Rom) (u : Win) (p : Int × Int) : Int := 1 + ((tileP r u).1 - p.1) * ((tileP r u).1 - p.1) + ((tileP r u).2 - p.2) * ((tileP r u).2 - p.2)
def fromF (r : Rom) (u : Win) (p : Int × Int) : Nat := fdiv u.l (fofInt (distI r u p))
def disT (k : Nat) : Bool := decide (0 < key (fofInt ((k : Int) + 1))) && decide (rung (fofInt ((k : Int) + 1)) < 2139095040)
theorem disT_all : (List.range 200).all disT = true := by decide +kernel
theorem sq_le {a b : Int} (h1 : 0 ≤ a) (h2 : a ≤ 9) (h3 : 0 ≤ b) (h4 : b ≤ 9) : 0 ≤ (a - b) * (a - b) ∧ (a - b) * (a - b) ≤ 81 := by
  have e : ∀ x : Int, -9 ≤ x → x ≤ 9 → 0 ≤ x * x ∧ x * x ≤ 81 := by
    intro x h1 h2
    constructor
    · rcases Int.le_total 0 x with h | h
      · exact Int.mul_nonneg h h
      · exact Int.mul_nonneg_of_nonpos_of_nonpos h h
    · have : (9 - x) * (9 + x) ≥ 0 := Int.mul_nonneg (by omega) (by omega)
      have e : (9 - x) * (9 + x) = 81 - x * x := by rw [Int.sub_mul, Int.mul_add, Int.mul_add, Int.mul_comm x 9]; omega
      omega
  exact e _ (by omega) (by omega)
/-- A tile of the room. -/
def inR (p : Int × Int) : Prop := (0 ≤ p.1 ∧ p.1 ≤ 9) ∧ (0 ≤ p.2 ∧ p.2 ≤ 9)
theorem dist_at {r : Rom} {u : Win} {p : Int × Int} (hr : r.sz) (hu : u.ok r = true) (hp : inR p) : (1 ≤ distI r u p ∧ distI r u p ≤ 163) ∧ 0 < key (fofInt (distI r u p)) ∧ fin (fofInt (distI r u p)) := by
  obtain ⟨_, _, _, ⟨t1, t2⟩, t3, t4⟩ := win_ok hr hu
  obtain ⟨⟨p1, p2⟩, p3, p4⟩ := hp
  have a := sq_le t1 t2 p1 p2
  have b := sq_le t3 t4 p3 p4
  have hd : 1 ≤ distI r u p ∧ distI r u p ≤ 163 := by unfold distI; omega
  obtain ⟨m, hm⟩ : ∃ m : Nat, distI r u p = (m : Int) + 1 := ⟨(distI r u p - 1).toNat, by omega⟩
  have := List.all_eq_true.1 disT_all m (by simp; omega)
  simp only [disT, Bool.and_eq_true, decide_eq_true_eq] at this
  rw [hm] at hd ⊢
  exact ⟨hd, this.1, this.2⟩
theorem from_ok {r : Rom} {u : Win} {p : Int × Int} (hr : r.sz) (hu : u.ok r = true) (hp : inR p) : DivOk u.l (fofInt (distI r u p)) ∧ P0 (fromF r u p) := by
  have d := dist_at hr hu hp
  have q := div_F0 (isPart_F0 (win_ok hr hu).2.2.1).1 d.2.2 d.2.1
  exact ⟨q.1, q.2⟩
theorem from_cv (r : Rom) (u : Win) (p : Int × Int) (n cap : Nat) (f : Nat → List FV) (hr : r.sz) (hu : u.ok r = true) (hp : inR p) :
    CV Tryz.prog 78 [.ptr 0 0 0, winV u, tilV p] [romB r n cap false, .rows n cap 3 f false] (fun v h => v = .f (.flt .f32 (fromF r u p)) ∧ h = [romB r n cap false, .rows n cap 3 f false]) := by
  obtain ⟨ho, _⟩ := from_ok hr hu hp
  obtain ⟨_, _, _, ⟨t1, t2⟩, t3, t4⟩ := win_ok hr hu
  have hp' := hp
  obtain ⟨⟨p1, p2⟩, p3, p4⟩ := hp'
  have a := sq_le t1 t2 p1 p2
  have b := sq_le t3 t4 p3 p4
  have ct := tileOf_cv r u n cap f hr
  unfold fromF distI at *
  generalize tileP r u = t at *
  obtain ⟨tx, ty⟩ := t
  obtain ⟨px, py⟩ := p
  simp only at *
  refine cv_of_run 1000 sc78 sb78 39 [.tmp 6] tabOk (by kernel_rfl) Tryz.func78 rfl (by kernel_rfl) Tryz.ntmps78 rfl (by simp) rfl (by simp [bdL, SV.bd]) ?_
  simp (config := { maxSteps := 1000000 }) (disch := omega) only [go_sem, Int.reduceToNat, ↓reduceIte, Nat.reduceLT, Nat.reduceEqDiff, Nat.reduceAdd, Nat.reduceMul, Nat.reduceSub, Nat.reduceBEq, Nat.reduceLeDiff, reduceCtorEq, Nat.reduceLT, ↓Br_true, ↓Br_false, bind, pure, sc78, sb78]
  repeat' (first | (with_reducible refine And.intro (by first | (unfold SOk; kernel_rfl) | (unfold SBOk; kernel_rfl) | (with_reducible assumption) | omega | assumption) ?_) | (with_reducible refine Br_intro (fun hc => ?_) (fun hc => ?_)) | ((have cc := ct; (first | ((first | refine callR (by rfl) (by rfl) (by rfl) cc ?_ | refine callM (by rfl) (by rfl) (by rfl) cc ?_ | refine callMo (by rfl) (by rfl) (by rfl) cc ?_); clear cc; rintro _ _ ⟨rfl, rfl⟩) | (refine callE (by rfl) cc (by rfl) ?_; clear cc))); simp (config := { maxSteps := 1000000 }) (disch := omega) only [go_sem, Int.reduceToNat, ↓reduceIte, Nat.reduceLT, Nat.reduceEqDiff, Nat.reduceAdd, Nat.reduceMul, Nat.reduceSub, Nat.reduceBEq, Nat.reduceLeDiff, reduceCtorEq, Nat.reduceLT, ↓Br_true, ↓Br_false, bind, pure, sc78, sb78]) | ((with_reducible show WidN _ _ _ _ _ _ _ _); (first | refine widL (by decide) (by with_reducible assumption) ?_ | refine widL (by decide) (FWok_nn (by with_reducible assumption)) ?_ | refine widN (by decide) (fun c hc => ?_)); simp (config := { maxSteps := 1000000 }) (disch := omega) only [go_sem, Int.reduceToNat, ↓reduceIte, Nat.reduceLT, Nat.reduceEqDiff, Nat.reduceAdd, Nat.reduceMul, Nat.reduceSub, Nat.reduceBEq, Nat.reduceLeDiff, reduceCtorEq, Nat.reduceLT, ↓Br_true, ↓Br_false, bind, pure, sc78, sb78]))
  all_goals exact ho
theorem l03From_cv (r : Rom) (u : Win) (p : Int × Int) (n cap : Nat) (f : Nat → List FV) (hr : r.sz) (hu : u.ok r = true) (hp : inR p) :
    CV Tryz.prog 79 [.ptr 0 0 0, winV u, tilV p] [romB r n cap false, .rows n cap 3 f false] (fun v h => v = .f (.flt .f32 (fromF r u p)) ∧ h = [romB r n cap false, .rows n cap 3 f false]) := by
  obtain ⟨ho, _⟩ := from_ok hr hu hp
  obtain ⟨_, _, _, ⟨t1, t2⟩, t3, t4⟩ := win_ok hr hu
  have hp' := hp
  obtain ⟨⟨p1, p2⟩, p3, p4⟩ := hp'
  have a := sq_le t1 t2 p1 p2
  have b := sq_le t3 t4 p3 p4
  have ct := l03Tile_cv r u n cap f hr
  unfold fromF distI at *
  generalize tileP r u = t at *
  obtain ⟨tx, ty⟩ := t
  obtain ⟨px, py⟩ := p
  simp only at *
  refine cv_of_run 1000 sc79 sb79 39 [.tmp 6] tabOk (by kernel_rfl) Tryz.func79 rfl (by kernel_rfl) Tryz.ntmps79 rfl (by simp) rfl (by simp [bdL, SV.bd]) ?_
  simp (config := { maxSteps := 1000000 }) (disch := omega) only [go_sem, Int.reduceToNat, ↓reduceIte, Nat.reduceLT, Nat.reduceEqDiff, Nat.reduceAdd, Nat.reduceMul, Nat.reduceSub, Nat.reduceBEq, Nat.reduceLeDiff, reduceCtorEq, Nat.reduceLT, ↓Br_true, ↓Br_false, bind, pure, sc79, sb79]
  repeat' (first | (with_reducible refine And.intro (by first | (unfold SOk; kernel_rfl) | (unfold SBOk; kernel_rfl) | (with_reducible assumption) | omega | assumption) ?_) | (with_reducible refine Br_intro (fun hc => ?_) (fun hc => ?_)) | ((have cc := ct; (first | ((first | refine callR (by rfl) (by rfl) (by rfl) cc ?_ | refine callM (by rfl) (by rfl) (by rfl) cc ?_ | refine callMo (by rfl) (by rfl) (by rfl) cc ?_); clear cc; rintro _ _ ⟨rfl, rfl⟩) | (refine callE (by rfl) cc (by rfl) ?_; clear cc))); simp (config := { maxSteps := 1000000 }) (disch := omega) only [go_sem, Int.reduceToNat, ↓reduceIte, Nat.reduceLT, Nat.reduceEqDiff, Nat.reduceAdd, Nat.reduceMul, Nat.reduceSub, Nat.reduceBEq, Nat.reduceLeDiff, reduceCtorEq, Nat.reduceLT, ↓Br_true, ↓Br_false, bind, pure, sc79, sb79]) | ((with_reducible show WidN _ _ _ _ _ _ _ _); (first | refine widL (by decide) (by with_reducible assumption) ?_ | refine widL (by decide) (FWok_nn (by with_reducible assumption)) ?_ | refine widN (by decide) (fun c hc => ?_)); simp (config := { maxSteps := 1000000 }) (disch := omega) only [go_sem, Int.reduceToNat, ↓reduceIte, Nat.reduceLT, Nat.reduceEqDiff, Nat.reduceAdd, Nat.reduceMul, Nat.reduceSub, Nat.reduceBEq, Nat.reduceLeDiff, reduceCtorEq, Nat.reduceLT, ↓Br_true, ↓Br_false, bind, pure, sc79, sb79]))
  all_goals exact ho
def allW (r : Rom) (us : Nat → Win) (n : Nat) : Bool := (List.range n).all fun i => (us i).ok r
theorem allW_at {r : Rom} {us : Nat → Win} {n k : Nat} (h : allW r us n = true) (hk : k < n) : (us k).ok r = true := List.all_eq_true.1 h k (by simpa using hk)
def litF (r : Rom) (us : Nat → Win) (p : Int × Int) : Nat → Nat
  | 0 => 0
  | k + 1 => fadd (litF r us p k) (fromF r (us k) p)
theorem litF_P0 {r : Rom} {us : Nat → Win} {p : Int × Int} {n : Nat} (hr : r.sz) (hw : allW r us n = true) (hp : inR p) : ∀ k, k ≤ n → P0 (litF r us p k)
  | 0, _ => show P0 0 from ⟨by decide, by decide⟩
  | k + 1, h => (add_P0 (litF_P0 hr hw hp k (by omega)) (from_ok hr (allW_at hw (k := k) (by omega)) hp).2).2.1
theorem light_cv (r : Rom) (us : Nat → Win) (p : Int × Int) (n cap : Nat) (f : Nat → List FV) (hf : ∀ i, i < n → f i = (us i).fv) (hcap : n ≤ cap) (hn : n ≤ 1048576) (hr : r.sz) (hw : allW r us n = true) (hp : inR p) :
    CV Tryz.prog 44 [.ptr 0 0 0, tilV p] [romB r n cap false, .rows n cap 3 f false] (fun v h => v = .f (.flt .f32 (litF r us p n)) ∧ h = [romB r n cap false, .rows n cap 3 f false]) := by
  refine cv_of_run 1000 sc44 sb44 25 [.tmp 4] tabOk (by kernel_rfl) Tryz.func44 rfl (by kernel_rfl) Tryz.ntmps44 rfl (by simp) rfl (by simp [bdL, SV.bd]) ?_
  simp (config := { maxSteps := 1000000 }) (disch := omega) only [go_sem, Int.reduceToNat, ↓reduceIte, Nat.reduceLT, Nat.reduceEqDiff, Nat.reduceAdd, Nat.reduceMul, Nat.reduceSub, Nat.reduceBEq, Nat.reduceLeDiff, reduceCtorEq, Nat.reduceLT, ↓Br_true, ↓Br_false, bind, pure, sc44, sb44]
  refine ⟨Nat, fun k => k ≤ n, fun k => n - k, fun k => [(0, .ptr 0 0 0), (3, .ptr 2 0 0), (4, .f (.flt .f32 0)), (5, .f (.flt .f32 (litF r us p k))), (11, .slc 1 0 n cap), (12, .f (.int .i64 n)), (13, .f (.int .i64 k))], fun _ => [romB r n cap false, .rows n cap 3 f false, .lit [.f (.int .i8 p.1), .f (.int .i8 p.2)] true], 0, (by intro _; simp), ?_, (by (try refine Or.inl ?_); simp [Cov, covE, covH, cb_dead, cb_lit, cb_rows, cb_cells, cd_lit, cd_rows, cd_cells, cd_dead, covRow, look, SV.known, SV.bd, bdL, litF, hcap] <;> omega), ?_⟩
  · omega
  · intro k hk
    by_cases hlt : k < n
    · have hd : decide ((k : Int) < n) = true := decide_eq_true (by omega)
      have e1 := hf k hlt
      simp only [Win.fv] at e1
      have hu := allW_at hw hlt
      have ha := (add_P0 (litF_P0 hr hw hp k hk) (from_ok hr hu hp).2).1
      simp (config := { maxSteps := 1000000 }) (disch := omega) only [go_sem, Int.reduceToNat, ↓reduceIte, Nat.reduceLT, Nat.reduceEqDiff, Nat.reduceAdd, Nat.reduceMul, Nat.reduceSub, Nat.reduceBEq, Nat.reduceLeDiff, reduceCtorEq, Nat.reduceLT, ↓Br_true, ↓Br_false, bind, pure, sc44, sb44, hd, e1]
      repeat' (first | (with_reducible refine And.intro (by first | (unfold SOk; kernel_rfl) | (unfold SBOk; kernel_rfl) | (with_reducible assumption) | omega | assumption) ?_) | (with_reducible refine Br_intro (fun hc => ?_) (fun hc => ?_)) | ((have cc := from_cv r (us k) p n cap f hr hu hp; (first | ((first | refine callR (by rfl) (by rfl) (by rfl) cc ?_ | refine callM (by rfl) (by rfl) (by rfl) cc ?_ | refine callMo (by rfl) (by rfl) (by rfl) cc ?_); clear cc; rintro _ _ ⟨rfl, rfl⟩) | (refine callE (by rfl) cc (by rfl) ?_; clear cc))); simp (config := { maxSteps := 1000000 }) (disch := omega) only [go_sem, Int.reduceToNat, ↓reduceIte, Nat.reduceLT, Nat.reduceEqDiff, Nat.reduceAdd, Nat.reduceMul, Nat.reduceSub, Nat.reduceBEq, Nat.reduceLeDiff, reduceCtorEq, Nat.reduceLT, ↓Br_true, ↓Br_false, bind, pure, sc44, sb44, hd, e1]) | ((with_reducible show WidN _ _ _ _ _ _ _ _); (first | refine widL (by decide) (by with_reducible assumption) ?_ | refine widL (by decide) (FWok_nn (by with_reducible assumption)) ?_ | refine widN (by decide) (fun c hc => ?_)); simp (config := { maxSteps := 1000000 }) (disch := omega) only [go_sem, Int.reduceToNat, ↓reduceIte, Nat.reduceLT, Nat.reduceEqDiff, Nat.reduceAdd, Nat.reduceMul, Nat.reduceSub, Nat.reduceBEq, Nat.reduceLeDiff, reduceCtorEq, Nat.reduceLT, ↓Br_true, ↓Br_false, bind, pure, sc44, sb44, hd, e1]))
      exact ⟨k + 1, by omega, by omega, by (try refine Or.inl ?_); simp [Cov, covE, covH, cb_dead, cb_lit, cb_rows, cb_cells, cd_lit, cd_rows, cd_cells, cd_dead, covRow, look, SV.known, SV.bd, bdL, litF, hcap] <;> omega⟩
    · have hd : decide ((k : Int) < n) = false := decide_eq_false (by omega)
      simp (config := { maxSteps := 1000000 }) (disch := omega) only [go_sem, Int.reduceToNat, ↓reduceIte, Nat.reduceLT, Nat.reduceEqDiff, Nat.reduceAdd, Nat.reduceMul, Nat.reduceSub, Nat.reduceBEq, Nat.reduceLeDiff, reduceCtorEq, Nat.reduceLT, ↓Br_true, ↓Br_false, bind, pure, sc44, sb44, hd]
      obtain rfl : k = n := by omega
      rfl
theorem l03Light_cv (r : Rom) (us : Nat → Win) (p : Int × Int) (n cap : Nat) (f : Nat → List FV) (hf : ∀ i, i < n → f i = (us i).fv) (hcap : n ≤ cap) (hn : n ≤ 1048576) (hr : r.sz) (hw : allW r us n = true) (hp : inR p) :
    CV Tryz.prog 47 [.ptr 0 0 0, tilV p] [romB r n cap false, .rows n cap 3 f false] (fun v h => v = .f (.flt .f32 (litF r us p n)) ∧ h = [romB r n cap false, .rows n cap 3 f false]) := by
  refine cv_of_run 1000 sc47 sb47 29 [.tmp 4] tabOk (by kernel_rfl) Tryz.func47 rfl (by kernel_rfl) Tryz.ntmps47 rfl (by simp) rfl (by simp [bdL, SV.bd]) ?_
  simp (config := { maxSteps := 1000000 }) (disch := omega) only [go_sem, Int.reduceToNat, ↓reduceIte, Nat.reduceLT, Nat.reduceEqDiff, Nat.reduceAdd, Nat.reduceMul, Nat.reduceSub, Nat.reduceBEq, Nat.reduceLeDiff, reduceCtorEq, Nat.reduceLT, ↓Br_true, ↓Br_false, bind, pure, sc47, sb47]
  refine ⟨Nat, fun k => k ≤ n, fun k => n - k, fun k => [(0, .ptr 0 0 0), (3, .ptr 2 0 0), (4, .f (.flt .f32 0)), (5, .f (.flt .f32 (litF r us p k))), (6, .f (.int .i64 k))], fun _ => [romB r n cap false, .rows n cap 3 f false, .lit [.f (.int .i8 p.1), .f (.int .i8 p.2)] true], 0, (by intro _; simp), ?_, (by (try refine Or.inl ?_); simp [Cov, covE, covH, cb_dead, cb_lit, cb_rows, cb_cells, cd_lit, cd_rows, cd_cells, cd_dead, covRow, look, SV.known, SV.bd, bdL, litF, hcap] <;> omega), ?_⟩
  · omega
  · intro k hk
    by_cases hlt : k < n
    · have hd : decide ((k : Int) < n) = true := decide_eq_true (by omega)
      have e1 := hf k hlt
      simp only [Win.fv] at e1
      have hu := allW_at hw hlt
      have ha := (add_P0 (litF_P0 hr hw hp k hk) (from_ok hr hu hp).2).1
      simp (config := { maxSteps := 1000000 }) (disch := omega) only [go_sem, Int.reduceToNat, ↓reduceIte, Nat.reduceLT, Nat.reduceEqDiff, Nat.reduceAdd, Nat.reduceMul, Nat.reduceSub, Nat.reduceBEq, Nat.reduceLeDiff, reduceCtorEq, Nat.reduceLT, ↓Br_true, ↓Br_false, bind, pure, sc47, sb47, hd, e1]
      repeat' (first | (with_reducible refine And.intro (by first | (unfold SOk; kernel_rfl) | (unfold SBOk; kernel_rfl) | (with_reducible assumption) | omega | assumption) ?_) | (with_reducible refine Br_intro (fun hc => ?_) (fun hc => ?_)) | ((have cc := l03From_cv r (us k) p n cap f hr hu hp; (first | ((first | refine callR (by rfl) (by rfl) (by rfl) cc ?_ | refine callM (by rfl) (by rfl) (by rfl) cc ?_ | refine callMo (by rfl) (by rfl) (by rfl) cc ?_); clear cc; rintro _ _ ⟨rfl, rfl⟩) | (refine callE (by rfl) cc (by rfl) ?_; clear cc))); simp (config := { maxSteps := 1000000 }) (disch := omega) only [go_sem, Int.reduceToNat, ↓reduceIte, Nat.reduceLT, Nat.reduceEqDiff, Nat.reduceAdd, Nat.reduceMul, Nat.reduceSub, Nat.reduceBEq, Nat.reduceLeDiff, reduceCtorEq, Nat.reduceLT, ↓Br_true, ↓Br_false, bind, pure, sc47, sb47, hd, e1]) | ((with_reducible show WidN _ _ _ _ _ _ _ _); (first | refine widL (by decide) (by with_reducible assumption) ?_ | refine widL (by decide) (FWok_nn (by with_reducible assumption)) ?_ | refine widN (by decide) (fun c hc => ?_)); simp (config := { maxSteps := 1000000 }) (disch := omega) only [go_sem, Int.reduceToNat, ↓reduceIte, Nat.reduceLT, Nat.reduceEqDiff, Nat.reduceAdd, Nat.reduceMul, Nat.reduceSub, Nat.reduceBEq, Nat.reduceLeDiff, reduceCtorEq, Nat.reduceLT, ↓Br_true, ↓Br_false, bind, pure, sc47, sb47, hd, e1]))
      exact ⟨k + 1, by omega, by omega, by (try refine Or.inl ?_); simp [Cov, covE, covH, cb_dead, cb_lit, cb_rows, cb_cells, cd_lit, cd_rows, cd_cells, cd_dead, covRow, look, SV.known, SV.bd, bdL, litF, hcap] <;> omega⟩
    · have hd : decide ((k : Int) < n) = false := decide_eq_false (by omega)
      simp (config := { maxSteps := 1000000 }) (disch := omega) only [go_sem, Int.reduceToNat, ↓reduceIte, Nat.reduceLT, Nat.reduceEqDiff, Nat.reduceAdd, Nat.reduceMul, Nat.reduceSub, Nat.reduceBEq, Nat.reduceLeDiff, reduceCtorEq, Nat.reduceLT, ↓Br_true, ↓Br_false, bind, pure, sc47, sb47, hd]
      obtain rfl : k = n := by omega
      rfl
end Go.Proofs.YtjhddlkfkicpaaaGreatDoor.Vx
